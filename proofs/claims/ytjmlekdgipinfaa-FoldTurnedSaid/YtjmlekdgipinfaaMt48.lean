/- fold: the plain law of an inner product's places. -/
import Derived.Test.YtjmlekdgipinfaaMt47
namespace Go.Proofs.Ytjmlekdgipinfaa
open Go.RowKit Go.Shelf

/-- How many columns the right one has. -/
def colN (B : Ar) : Nat := (prodL (B.s.drop 1)).toNat
def innN (A B : Ar) : Nat := (prodL (shpI A B)).toNat
def innE (f g : Int) (A B : Ar) : Int := if isE f g A B = 0 then mdE (innN A B) (inP f (mixP g A.k B.k) A B (colN B) (lngI A B).toNat) else isE f g A B
def innA (f g : Int) (A B : Ar) : Ar := if innE f g A B = 0 then ⟨1, shpI A B, tabV (innN A B) (inP f (mixP g A.k B.k) A B (colN B) (lngI A B).toNat)⟩ else noA
theorem is_zero {f g : Int} {A B : Ar} (h : isE f g A B = 0) : ckE [f, g] A B = 0 ∧ ¬ badP A B ∧ knE g A.k B.k = 0 ∧ shB (shpI A B) = true := by
  unfold isE at h
  by_cases h1 : ckE [f, g] A B = 0
  · rw [if_pos h1] at h
    by_cases h2 : badP A B
    · rw [if_pos h2] at h; cases h
    · rw [if_neg h2] at h
      by_cases h3 : knE g A.k B.k = 0
      · rw [if_pos h3] at h
        by_cases h4 : shB (shpI A B) = true
        · exact ⟨h1, h2, h3, h4⟩
        · rw [if_neg h4] at h; cases h
      · rw [if_neg h3] at h; exact absurd h h3
  · rw [if_neg h1] at h; exact absurd h h1
/-- A right one's numbers: rows of so many columns. -/
theorem col_of {B : Ar} (hB : chkB B = true) : prodL (B.s.drop 1) = (colN B : Int) ∧ (B.s = [] → B.e.length = 1 ∧ colN B = 1) ∧ (B.s ≠ [] → ∃ H : Nat, B.s.headD 1 = (H : Int) ∧ B.e.length = H * colN B) := by
  obtain ⟨hs, hp, _⟩ := chkB_iff.1 hB
  have hi := shB_iff.1 hs
  have h0 : 0 ≤ prodL (B.s.drop 1) := prodL_nonneg _ (fun l hl => (hi.2.1 l (List.mem_of_mem_drop hl)).1)
  have hc : prodL (B.s.drop 1) = (colN B : Int) := by unfold colN; omega
  refine ⟨hc, fun h => ?_, fun h => ?_⟩
  · unfold colN
    rw [h] at hp ⊢
    simp [prodL] at hp ⊢
    omega
  · cases hbs : B.s with
    | nil => exact absurd hbs h
    | cons x r =>
      have hx := (hi.2.1 x (by rw [hbs]; simp)).1
      obtain ⟨H, hH⟩ := Int.eq_ofNat_of_zero_le hx
      refine ⟨H, hH, ?_⟩
      rw [hbs] at hp hc
      have h2 : prodL (x :: r) = x * prodL r := rfl
      have h3 : prodL r = (colN B : Int) := hc
      rw [h2, h3, hH] at hp
      exact_mod_cast hp.symm
/-- A left one's numbers: so many rows. -/
theorem row_of {A : Ar} (hA : chkB A = true) : (A.s = [] → A.e.length = 1 ∧ prodL A.s.dropLast = 1) ∧ (A.s ≠ [] → ∃ F L : Nat, prodL A.s.dropLast = (F : Int) ∧ (∀ d, A.s.getLastD d = (L : Int)) ∧ A.e.length = F * L) := by
  obtain ⟨hs, hp, _⟩ := chkB_iff.1 hA
  have hi := shB_iff.1 hs
  refine ⟨fun h => ?_, fun h => ?_⟩
  · rw [h] at hp ⊢
    simp [prodL] at hp ⊢
    omega
  · rcases List.eq_nil_or_concat A.s with e | ⟨t, x, e⟩
    · exact absurd e h
    · rw [List.concat_eq_append] at e
      have hx := (hi.2.1 x (by rw [e]; simp)).1
      have ht : 0 ≤ prodL t := prodL_nonneg t (fun l hl => (hi.2.1 l (by rw [e]; simp [hl])).1)
      obtain ⟨L, hL⟩ := Int.eq_ofNat_of_zero_le hx
      obtain ⟨F, hF⟩ := Int.eq_ofNat_of_zero_le ht
      refine ⟨F, L, by rw [e, List.dropLast_concat]; exact hF, fun d => by rw [e]; simp [List.getLastD_eq_getLast?, hL], ?_⟩
      rw [e, prodL_append, hF] at hp
      have h2 : prodL [x] = (L : Int) := by simp [prodL, hL]
      rw [h2] at hp
      exact_mod_cast hp.symm
/-- Each place of an inner product lies in both. -/
theorem inner_ix {f g : Int} {A B : Ar} (h : isE f g A B = 0) {n : Nat} (hn : n < innN A B) : 0 < colN B ∧ ∀ k, k < (lngI A B).toNat → iaN A (colN B) (lngI A B).toNat n k < A.e.length ∧ ibN B (colN B) n k < B.e.length := by
  obtain ⟨hck, hbad, _, _⟩ := is_zero h
  obtain ⟨hA, hB⟩ := ck_zero hck
  obtain ⟨hc, hb0, hb1⟩ := col_of hB
  obtain ⟨ha0, ha1⟩ := row_of hA
  obtain ⟨F, hF⟩ : ∃ F : Nat, prodL A.s.dropLast = (F : Int) := by
    by_cases e : A.s = []
    · exact ⟨1, (ha0 e).2⟩
    · obtain ⟨F, _, h1, _⟩ := ha1 e
      exact ⟨F, h1⟩
  have hN : innN A B = F * colN B := by
    unfold innN shpI
    rw [prodL_append, hF, hc, ← Int.natCast_mul, Int.toNat_natCast]
  rw [hN] at hn
  have hC : 0 < colN B := by
    rcases Nat.eq_zero_or_pos (colN B) with e | e
    · rw [e, Nat.mul_zero] at hn; omega
    · exact e
  refine ⟨hC, fun k hk => ⟨?_, ?_⟩⟩
  · unfold iaN
    by_cases e : A.s = []
    · rw [if_pos e, (ha0 e).1]; omega
    · rw [if_neg e]
      obtain ⟨F', L, h1, h2, h3⟩ := ha1 e
      have : F' = F := by rw [hF] at h1; omega
      subst this
      have hl : (lngI A B).toNat = L := by unfold lngI; rw [h2, Int.toNat_natCast]
      rw [hl] at hk ⊢
      rw [h3]
      have hq : n / colN B < F' := (Nat.div_lt_iff_lt_mul hC).2 hn
      have h5 : (n / colN B + 1) * L ≤ F' * L := Nat.mul_le_mul_right _ hq
      rw [Nat.add_mul] at h5
      omega
  · unfold ibN
    by_cases e : B.s = []
    · rw [if_pos e, (hb0 e).1]; omega
    · rw [if_neg e]
      obtain ⟨H, h1, h2⟩ := hb1 e
      have hl : (lngI A B).toNat = H := by
        unfold lngI
        by_cases e2 : A.s = []
        · rw [e2]
          show (B.s.headD 1).toNat = H
          rw [h1, Int.toNat_natCast]
        · obtain ⟨F', L, _, h4, _⟩ := ha1 e2
          rw [h4]
          have : ¬ (A.s.getLastD 1 ≠ B.s.headD 1) := fun h9 => hbad ⟨e2, e, h9⟩
          rw [h4, h1] at this
          omega
      rw [hl] at hk
      rw [h2]
      have hr : n % colN B < colN B := Nat.mod_lt _ hC
      have h5 : (k + 1) * colN B ≤ H * colN B := Nat.mul_le_mul_right _ hk
      rw [Nat.add_mul] at h5
      omega
end Go.Proofs.Ytjmlekdgipinfaa
