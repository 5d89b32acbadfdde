/- The plain law of the document's inner product: where its numbers stand. -/
import Derived.Test.YtjmlekdgipinfaaMp46
import Derived.Test.YtjmlekdgipinfaaMp47
namespace Go.Proofs.Ytjmlekdgipinfaa
open Go.RowKit Go.Shelf

theorem inL_snoc : ∀ {s xs : List Int} {l x : Int}, inL s xs = true → 0 ≤ x → x < l → inL (s ++ [l]) (xs ++ [x]) = true
  | [], [], l, x, _, h0, h1 => by simp [inL, h0, h1]
  | [], _ :: _, l, x, h, _, _ => by simp [inL] at h
  | _ :: _, [], l, x, h, _, _ => by simp [inL] at h
  | a :: r, y :: ys, l, x, h, h0, h1 => by
    simp only [List.cons_append, inL, Bool.and_eq_true] at h ⊢
    exact ⟨h.1, h.2.1, inL_snoc h.2.2 h0 h1⟩
theorem last_split {l : List Int} (h : l ≠ []) : ∃ x, l = l.dropLast ++ [x] ∧ ∀ d, l.getLastD d = x := by
  refine ⟨l.getLast h, (List.dropLast_concat_getLast h).symm, fun d => ?_⟩
  rw [List.getLastD_eq_getLast?, List.getLast?_eq_some_getLast h]
  rfl
theorem in_at {f g : Int} {A B : Ar} (h : isE f g A B = 0) (n : Nat) (hn : n < innN A B) : ∃ xs ys : List Int, atL (shpI A B) n = xs ++ ys ∧ xs.length = A.s.dropLast.length ∧
    ∀ k, k < (lngI A B).toNat → (A.s ≠ [] → plN A.s (xs ++ [(k : Int)]) = ((iaN A (colN B) (lngI A B).toNat n k : Nat) : Int)) ∧ iaN A (colN B) (lngI A B).toNat n k < A.e.length ∧
      (B.s ≠ [] → plN B.s ((k : Int) :: ys) = ((ibN B (colN B) n k : Nat) : Int)) ∧ ibN B (colN B) n k < B.e.length := by
  obtain ⟨h1, h2, h3, h4⟩ := is_zero h
  obtain ⟨hcA, hcB⟩ := ck_zero h1
  obtain ⟨sA, pA, _⟩ := chkB_iff.1 hcA
  obtain ⟨sB, pB, _⟩ := chkB_iff.1 hcB
  have iA := shB_iff.1 sA
  have iB := shB_iff.1 sB
  have iS := shB_iff.1 h4
  obtain ⟨hC, _, _⟩ := col_of hcB
  have hpS : (n : Int) < prodL (shpI A B) := by unfold innN at hn; omega
  have hposS := pos_of_prod (s := shpI A B) (fun l hl => (iS.2.1 l hl).1) (by omega)
  have hposF : ∀ l ∈ A.s.dropLast, 0 < l := fun l hl => hposS l (by unfold shpI; simp [hl])
  have hposR : ∀ l ∈ B.s.drop 1, 0 < l := fun l hl => hposS l (by unfold shpI; exact List.mem_append_right _ hl)
  have hsp : prodL (shpI A B) = prodL A.s.dropLast * (colN B : Int) := by unfold shpI; rw [prodL_append, hC]
  have hF0 : 0 ≤ prodL A.s.dropLast := prodL_nonneg _ (fun l hl => Int.le_of_lt (hposF l hl))
  obtain ⟨F, hF⟩ := Int.eq_ofNat_of_zero_le hF0
  obtain ⟨C, hCC⟩ : ∃ C, colN B = C := ⟨_, rfl⟩
  rw [hCC] at hC hsp ⊢
  rw [hF] at hsp
  have hnFC : n < F * C := by rw [hsp] at hpS; exact_mod_cast hpS
  have hC0 : 0 < C := by
    rcases Nat.eq_zero_or_pos C with e | e
    · rw [e, Nat.mul_zero] at hnFC; omega
    · exact e
  have hdF : n / C < F := (Nat.div_lt_iff_lt_mul hC0).2 hnFC
  have hdiv : (n : Int) / (C : Int) = ((n / C : Nat) : Int) := (Int.natCast_ediv _ _).symm
  have hmod : (n : Int) % (C : Int) = ((n % C : Nat) : Int) := (Int.natCast_emod _ _).symm
  have hxv : plL A.s.dropLast (atL A.s.dropLast ((n / C : Nat) : Int)) = ((n / C : Nat) : Int) := plL_atL (fun l hl => Int.le_of_lt (hposF l hl)) (Int.natCast_nonneg _) (by rw [hF]; exact_mod_cast hdF)
  have hyv : plL (B.s.drop 1) (atL (B.s.drop 1) (n : Int)) = ((n % C : Nat) : Int) := by rw [plL_atL_mod _ _ hposR, hC, hmod]
  refine ⟨atL A.s.dropLast ((n / C : Nat) : Int), atL (B.s.drop 1) (n : Int), ?_, atL_length _ _, fun k hk => ?_⟩
  · unfold shpI
    rw [atL_append _ _ _ (by rw [hC]; omega), hC, hdiv]
  · obtain ⟨L, hL⟩ : ∃ L, (lngI A B).toNat = L := ⟨_, rfl⟩
    rw [hL] at hk ⊢
    have hLI : lngI A B = (L : Int) := by omega
    refine ⟨fun hA => ?_, ?_, fun hB => ?_, ?_⟩
    · obtain ⟨x, hx, hd⟩ := last_split hA
      have hxL : x = (L : Int) := by rw [← hLI]; unfold lngI; rw [hd]
      have hin : inL A.s (atL A.s.dropLast ((n / C : Nat) : Int) ++ [(k : Int)]) = true := by
        rw [hx, List.dropLast_append_of_ne_nil (by simp)] 
        simp only [List.dropLast_singleton, List.append_nil]
        exact inL_snoc (inL_atL hposF) (by omega) (by omega)
      rw [plN_ok (by unfold plB; rw [sA, hin]; rfl)]
      unfold iaN
      rw [if_neg hA]
      have : plL A.s (atL A.s.dropLast ((n / C : Nat) : Int) ++ [(k : Int)]) = ((n / C : Nat) : Int) * x + k := by
        conv => lhs; rw [hx]
        rw [List.dropLast_append_of_ne_nil (by simp)]
        simp only [List.dropLast_singleton, List.append_nil]
        rw [plL_append _ _ _ _ (atL_length _ _), plL_one, hxv]
        simp [prodL]
      rw [this, hxL]
      push_cast
      rfl
    · unfold iaN
      by_cases hA : A.s = []
      · rw [if_pos hA]
        rw [hA] at pA
        simp [prodL] at pA
        omega
      · rw [if_neg hA]
        obtain ⟨x, hx, hd⟩ := last_split hA
        have hxL : x = (L : Int) := by rw [← hLI]; unfold lngI; rw [hd]
        have hpp : prodL A.s = (F : Int) * (L : Int) := by
          conv => lhs; rw [hx]
          rw [prodL_append, hF, hxL]
          simp [prodL]
        rw [hpp] at pA
        have : F * L = A.e.length := by exact_mod_cast pA
        rw [← this]
        have : (n / C + 1) * L ≤ F * L := Nat.mul_le_mul_right _ hdF
        rw [Nat.add_mul] at this
        omega
    · cases hbs : B.s with
      | nil => exact absurd hbs hB
      | cons H R =>
        have hHL : H = (L : Int) := by
          rw [← hLI]
          unfold lngI
          by_cases hA : A.s = []
          · rw [hA, hbs]; rfl
          · obtain ⟨x, hx, hd⟩ := last_split hA
            rw [hd]
            have : A.s.getLastD 1 = B.s.headD 1 := Classical.byContradiction fun hh => h2 ⟨hA, hB, hh⟩
            rw [hd, hbs] at this
            exact this.symm
        rw [hbs] at hC hposR hyv sB
        simp only [List.drop_succ_cons, List.drop_zero] at hC hposR hyv ⊢
        have hin : inL (H :: R) ((k : Int) :: atL R (n : Int)) = true := by
          have := inL_atL (s := R) (n := (n : Int)) hposR
          simp [inL, this, hHL]
          omega
        rw [plN_ok (by unfold plB; rw [sB, hin]; rfl)]
        unfold ibN
        rw [if_neg hB]
        show (k : Int) * prodL R + plL R (atL R (n : Int)) = _
        rw [hyv, hC]
        push_cast
        rfl
    · unfold ibN
      by_cases hB : B.s = []
      · rw [if_pos hB]
        rw [hB] at pB
        simp [prodL] at pB
        omega
      · rw [if_neg hB]
        cases hbs : B.s with
        | nil => exact absurd hbs hB
        | cons H R =>
          have hHL : H = (L : Int) := by
            rw [← hLI]
            unfold lngI
            by_cases hA : A.s = []
            · rw [hA, hbs]; rfl
            · obtain ⟨x, hx, hd⟩ := last_split hA
              rw [hd]
              have : A.s.getLastD 1 = B.s.headD 1 := Classical.byContradiction fun hh => h2 ⟨hA, hB, hh⟩
              rw [hd, hbs] at this
              exact this.symm
          rw [hbs] at pB hC
          have hC' : prodL R = (C : Int) := hC
          have : prodL (H :: R) = H * prodL R := rfl
          rw [this, hHL, hC'] at pB
          have : L * C = B.e.length := by exact_mod_cast pB
          rw [← this]
          have : (k + 1) * C ≤ L * C := Nat.mul_le_mul_right _ hk
          rw [Nat.add_mul] at this
          have := Nat.mod_lt n hC0
          omega
end Go.Proofs.Ytjmlekdgipinfaa
