/- FoldTimes: the plain law: each element of an inner product is that of its row and its column. -/
import Derived.Test.YtjmlekdgipinfaaFdY
import Derived.Test.YtjmlekdgipinfaaFdJ
import Derived.Test.YtjmlekdgipinfaaArO
import Derived.Deep.Cut
namespace Go.Proofs.Ytjmlekdgipinfaa
open Go.RowKit Go.Shelf

theorem col_vec {B : Ar} {b : Int} (hB : B.s = [b]) : colN B = 1 := by
  unfold colN
  rw [hB]
  rfl
theorem shp_vec {A B : Ar} {a b : Int} (hA : A.s = [a]) (hB : B.s = [b]) : shpI A B = [] ∧ innN A B = 1 ∧ lngI A B = a := by
  unfold innN shpI lngI
  rw [hA, hB]
  exact ⟨rfl, rfl, rfl⟩
theorem bad_vec {A B : Ar} {a b : Int} (hA : A.s = [a]) (hB : B.s = [b]) : badP A B ↔ a ≠ b := by
  unfold badP
  rw [hA, hB]
  simp
theorem mdE_one (el : Nat → Int × Int) : mdE 1 el = (el 0).2 := by
  unfold mdE tabP
  simp only [List.range_succ, List.range_zero, List.nil_append, List.map_cons, List.map_nil, fstE]
  split
  · rename_i h; exact h.symm
  · rfl
theorem tabV_one (el : Nat → Int × Int) : tabV 1 el = [(el 0).1] := by simp [tabV, tabP, List.range_succ]
/-- A column's numbers. -/
def colL (ys : List Int) (n k L : Nat) : List Int := (List.range L).map fun j => ys.getD (j * n + k) 0
theorem colL_length (ys : List Int) (n k L : Nat) : (colL ys n k L).length = L := by simp [colL]
theorem colL_succ (ys : List Int) (n k j : Nat) : colL ys n k (j + 1) = colL ys n k j ++ [ys.getD (j * n + k) 0] := by simp [colL, List.range_succ]
theorem inn_zero {f g : Int} {A B : Ar} (h : innE f g A B = 0) : isE f g A B = 0 ∧ mdE (innN A B) (inP f (mixP g A.k B.k) A B (colN B) (lngI A B).toNat) = 0 := by
  unfold innE at h
  by_cases h1 : isE f g A B = 0
  · rw [if_pos h1] at h; exact ⟨h1, h⟩
  · rw [if_neg h1] at h; exact absurd h h1
/-- Part of an array's numbers are of its kind, too. -/
theorem chk_part {A : Ar} (hA : chkB A = true) {e : List Int} {L : Nat} (hl : e.length = L) (hL : L ≤ 4096) (he : ∀ x ∈ e, x ∈ A.e) : chkB ⟨A.k, [(L : Int)], e⟩ = true := by
  obtain ⟨_, _, hk⟩ := chkB_iff.1 hA
  refine chkB_iff.2 ⟨shB_iff.2 ⟨by simp, ?_, ?_⟩, ?_, ?_⟩
  · intro l h
    rw [List.mem_singleton] at h
    omega
  · simp [prodL]; omega
  · simp [prodL, hl]
  · rw [kndB_iff] at hk ⊢
    rcases hk with h | ⟨h, h2⟩
    · exact .inl h
    · exact .inr ⟨h, fun c hc => h2 c (he c hc)⟩
theorem ck_of {f g : Int} {A B X Y : Ar} (h : ckE [f, g] A B = 0) (hX : chkB X = true) (hY : chkB Y = true) : ckE [f, g] X Y = 0 := by
  unfold ckE at h ⊢
  split at h
  · cases h
  · rename_i h1
    rw [if_neg h1, hX, hY]
    rfl
theorem row_get {xs : List Int} {i L j : Nat} (hj : j < L) : (rowL xs i L).getD j 0 = xs.getD (i * L + j) 0 := by
  unfold rowL
  have h2 : i * L + j < (i + 1) * L := by rw [Nat.add_mul]; omega
  simp only [List.getD_eq_getElem?_getD, List.getElem?_drop, List.getElem?_take, if_pos h2]
theorem col_get {ys : List Int} {n k L j : Nat} (hj : j < L) : (colL ys n k L).getD j 0 = ys.getD (j * n + k) 0 := by
  simp [colL, hj]
/-- One element: of its row, and its column. -/
theorem one_is {f g : Int} {A B : Ar} {m L n : Nat} (hA : A.s = [(m : Int), (L : Int)]) (hB : B.s = [(L : Int), (n : Int)]) (hL : L ≤ 4096) (h : isE f g A B = 0) (hal : A.e.length = m * L) (hbl : B.e.length = L * n) {i k : Nat} (hi : i < m) (hk : k < n)
    (X Y : Ar) (hX : X = ⟨A.k, [(L : Int)], rowL A.e i L⟩) (hY : Y = ⟨B.k, [(L : Int)], colL B.e n k L⟩) :
    innE f g X Y = (inP f (mixP g A.k B.k) A B n L (i * n + k)).2 ∧ (innE f g X Y = 0 → innA f g X Y = ⟨1, [], [(inP f (mixP g A.k B.k) A B n L (i * n + k)).1]⟩) := by
  obtain ⟨hck, _, hkn, _⟩ := is_zero h
  obtain ⟨cA, cB⟩ := ck_zero hck
  have hrow : (i + 1) * L ≤ A.e.length := by rw [hal]; exact Nat.mul_le_mul_right _ hi
  have hcX : chkB X = true := by rw [hX]; exact chk_part cA (rowL_length hrow) hL (fun x hx => List.mem_of_mem_take (List.mem_of_mem_drop hx))
  have hcY : chkB Y = true := by
    rw [hY]
    refine chk_part cB (colL_length _ _ _ _) hL (fun x hx => ?_)
    unfold colL at hx
    obtain ⟨j, hj, rfl⟩ := List.mem_map.1 hx
    have hj := List.mem_range.1 hj
    have h2 : j * n + k < B.e.length := by
      rw [hbl]
      have : (j + 1) * n ≤ L * n := Nat.mul_le_mul_right _ hj
      rw [Nat.add_mul] at this
      omega
    rw [List.getD_eq_getElem?_getD, List.getElem?_eq_getElem h2]
    exact List.getElem_mem h2
  have sX : X.s = [(L : Int)] := by rw [hX]
  have sY : Y.s = [(L : Int)] := by rw [hY]
  obtain ⟨q1, q2, q3⟩ := shp_vec sX sY
  have hbd : ¬ badP X Y := fun h => (bad_vec sX sY).1 h rfl
  have hkk : knE g X.k Y.k = 0 := by rw [hX, hY]; exact hkn
  have hisz : isE f g X Y = 0 := by
    unfold isE
    rw [ck_of hck hcX hcY, if_pos rfl, if_neg hbd, if_pos hkk, q1]
    rfl
  have hp : mixP g X.k Y.k = mixP g A.k B.k := by rw [hX, hY]
  have hin : inP f (mixP g A.k B.k) X Y 1 L 0 = inP f (mixP g A.k B.k) A B n L (i * n + k) := by
    have hq : ∀ j, j < L → inQ (mixP g A.k B.k) X Y 1 L 0 j = inQ (mixP g A.k B.k) A B n L (i * n + k) j := by
      intro j hj
      unfold inQ iaN ibN
      have hn : 0 < n := by omega
      have d1 : (i * n + k) / n = i := by rw [Nat.add_comm, Nat.add_mul_div_right _ _ hn, Nat.div_eq_of_lt hk, Nat.zero_add]
      have d2 : (i * n + k) % n = k := by rw [Nat.add_comm, Nat.add_mul_mod_self_right, Nat.mod_eq_of_lt hk]
      rw [if_neg (by rw [sX]; simp), if_neg (by rw [sY]; simp), if_neg (by rw [hA]; simp), if_neg (by rw [hB]; simp), d1, d2]
      have e1 : 0 / 1 * L + j = j := by simp
      have e2 : j * 1 + 0 % 1 = j := by simp
      rw [e1, e2, hX, hY]
      show (mixP g A.k B.k) ((rowL A.e i L).getD j 0) ((colL B.e n k L).getD j 0) = _
      rw [row_get hj, col_get hj]
    have ht : tabP L (inQ (mixP g A.k B.k) X Y 1 L 0) = tabP L (inQ (mixP g A.k B.k) A B n L (i * n + k)) := by
      unfold tabP
      exact List.map_congr_left (fun j hj => hq j (List.mem_range.1 hj))
    unfold inP tabV
    rw [ht]
  have hE : innE f g X Y = (inP f (mixP g A.k B.k) A B n L (i * n + k)).2 := by
    unfold innE
    rw [if_pos hisz, q2, q3, col_vec sY, Int.toNat_natCast, mdE_one, hp, hin]
  refine ⟨hE, fun h0 => ?_⟩
  unfold innA
  rw [if_pos h0, q1, q2, q3, col_vec sY, Int.toNat_natCast, tabV_one, hp, hin]
/-- The law: an inner product of two matrices. -/
theorem times_law {f g : Int} {A B : Ar} (hA2 : A.s.length = 2) (hB2 : B.s.length = 2) (h : innE f g A B = 0) : ∃ m L n : Nat, A.s = [(m : Int), (L : Int)] ∧ B.s = [(L : Int), (n : Int)] ∧ m ≤ 4096 ∧ L ≤ 4096 ∧ n ≤ 4096 ∧ m * n ≤ 4096 ∧ A.e.length = m * L ∧ B.e.length = L * n ∧
    innA f g A B = ⟨1, [(m : Int), (n : Int)], tabV (m * n) (inP f (mixP g A.k B.k) A B n L)⟩ ∧
    ∀ i k, i < m → k < n → ∀ X Y : Ar, X = ⟨A.k, [(L : Int)], rowL A.e i L⟩ → Y = ⟨B.k, [(L : Int)], colL B.e n k L⟩ → innE f g X Y = 0 ∧ innA f g X Y = ⟨1, [], [(inP f (mixP g A.k B.k) A B n L (i * n + k)).1]⟩ := by
  obtain ⟨hi0, hmd⟩ := inn_zero h
  obtain ⟨hck, hbad, _, hsh⟩ := is_zero hi0
  obtain ⟨cA, cB⟩ := ck_zero hck
  obtain ⟨a, b, hA⟩ : ∃ a b, A.s = [a, b] := by
    match hs : A.s, hA2 with
    | [a, b], _ => exact ⟨a, b, rfl⟩
  obtain ⟨c, d, hB⟩ : ∃ c d, B.s = [c, d] := by
    match hs : B.s, hB2 with
    | [a, b], _ => exact ⟨a, b, rfl⟩
  obtain ⟨sA, pA, _⟩ := chkB_iff.1 cA
  obtain ⟨sB, pB, _⟩ := chkB_iff.1 cB
  have iA := (shB_iff.1 sA).2.1
  have iB := (shB_iff.1 sB).2.1
  rw [hA] at iA pA
  rw [hB] at iB pB
  have ha := iA a (by simp)
  have hb := iA b (by simp)
  have hc := iB c (by simp)
  have hd := iB d (by simp)
  obtain ⟨m, rfl⟩ := Int.eq_ofNat_of_zero_le ha.1
  obtain ⟨L, rfl⟩ := Int.eq_ofNat_of_zero_le hb.1
  obtain ⟨n, rfl⟩ := Int.eq_ofNat_of_zero_le hd.1
  have hcL : c = (L : Int) := by
    have : ¬ (A.s.getLastD 1 ≠ B.s.headD 1) := fun h9 => hbad ⟨by rw [hA]; simp, by rw [hB]; simp, h9⟩
    rw [hA, hB] at this
    have h2 : ¬ ((L : Int) ≠ c) := this
    omega
  subst hcL
  have hal : A.e.length = m * L := by
    have : (m : Int) * ((L : Int) * 1) = (A.e.length : Int) := pA
    rw [Int.mul_one] at this
    exact_mod_cast this.symm
  have hbl : B.e.length = L * n := by
    have : (L : Int) * ((n : Int) * 1) = (B.e.length : Int) := pB
    rw [Int.mul_one] at this
    exact_mod_cast this.symm
  have hS : shpI A B = [(m : Int), (n : Int)] := by unfold shpI; rw [hA, hB]; rfl
  have hpr : prodL (shpI A B) = ((m * n : Nat) : Int) := by rw [hS]; show (m : Int) * ((n : Int) * 1) = _; rw [Int.mul_one]; exact (Int.natCast_mul _ _).symm
  have hN : innN A B = m * n := by unfold innN; rw [hpr, Int.toNat_natCast]
  have hC : colN B = n := by unfold colN; rw [hB]; show ((n : Int) * 1).toNat = n; rw [Int.mul_one, Int.toNat_natCast]
  have hLg : (lngI A B).toNat = L := by unfold lngI; rw [hA]; rfl
  have hmn : m * n ≤ 4096 := by have := (shB_iff.1 hsh).2.2; rw [hpr] at this; omega
  rw [hN, hC, hLg] at hmd
  refine ⟨m, L, n, hA, hB, by omega, by omega, by omega, hmn, hal, hbl, ?_, ?_⟩
  · unfold innA
    rw [if_pos h, hS, hN, hC, hLg]
  · intro i k hi hk X Y hX hY
    obtain ⟨q1, q2⟩ := one_is (f := f) (g := g) hA hB (by omega) hi0 hal hbl hi hk X Y hX hY
    have hlt : i * n + k < m * n := by
      have : (i + 1) * n ≤ m * n := Nat.mul_le_mul_right _ hi
      rw [Nat.add_mul] at this
      omega
    have h0 := fstE_zero hmd (i * n + k) hlt
    rw [h0] at q1
    exact ⟨q1, q2 q1⟩
end Go.Proofs.Ytjmlekdgipinfaa
