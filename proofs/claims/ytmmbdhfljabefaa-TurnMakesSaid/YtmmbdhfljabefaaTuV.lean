/- Rows, plainly: each row is turned by itself. -/
import Derived.Test.YtmmbdhfljabefaaTuY
namespace Go.Proofs.Ytmmbdhfljabefaa

/-- The i-th row of m. -/
def rowL (e : List Int) (i m : Nat) : List Int := (e.take ((i + 1) * m)).drop (i * m)
theorem row_le {h i m : Nat} (hi : i < h) : (i + 1) * m ≤ h * m := Nat.mul_le_mul_right m hi
theorem row_mul (i m : Nat) : (i + 1) * m = i * m + m := Nat.succ_mul i m
theorem rowL_length {e : List Int} {h i m : Nat} (hl : e.length = h * m) (hi : i < h) : (rowL e i m).length = m := by
  have h1 := row_le (m := m) hi
  have h2 := row_mul i m
  unfold rowL
  rw [List.length_drop, List.length_take]
  omega
theorem rowL_get {e : List Int} {i m t : Nat} (ht : t < m) : (rowL e i m)[t]? = e[i * m + t]? := by
  have h2 := row_mul i m
  unfold rowL
  rw [List.getElem?_drop, List.getElem?_take, if_pos (by omega)]
theorem rowL_mem {e : List Int} {i m : Nat} : ∀ x ∈ rowL e i m, x ∈ e := fun _ hx => List.mem_of_mem_take (List.mem_of_mem_drop hx)
theorem row_mv {e : List Int} {h i m : Nat} {P Q : Nat → Int} (hi : i < h) (hPQ : ∀ t, t < m → 0 ≤ Q t ∧ Q t < (m : Int) ∧ P (i * m + t) = ((i * m : Nat) : Int) + Q t) : rowL (mvE (h * m) P e) i m = mvE m Q (rowL e i m) := by
  have h1 := row_le (m := m) hi
  have h2 := row_mul i m
  apply List.ext_getElem?
  intro t
  by_cases ht : t < m
  · obtain ⟨q0, q1, q2⟩ := hPQ t ht
    rw [rowL_get ht]
    unfold mvE
    rw [List.getElem?_map, List.getElem?_map, List.getElem?_range (show i * m + t < h * m by omega), List.getElem?_range ht, Option.map_some, Option.map_some, q2, List.getD, List.getD, rowL_get (show (Q t).toNat < m by omega)]
    rw [show (((i * m : Nat) : Int) + Q t).toNat = i * m + (Q t).toNat by omega]
  · rw [List.getElem?_eq_none (by rw [rowL_length (by rw [mvE_length]) hi]; omega), List.getElem?_eq_none (by rw [mvE_length]; omega)]
def rowA (A : Ar) (i m : Nat) : Ar := ⟨A.k, [(m : Int)], rowL A.e i m⟩
theorem two_facts {A : Ar} {h m : Int} (hA : chkB A = true) (hs : A.s = [h, m]) : ∃ H M : Nat, h = H ∧ m = M ∧ A.e.length = H * M ∧ H ≤ 4096 ∧ M ≤ 4096 ∧ H * M ≤ 4096 ∧ cnt A.s = H * M ∧ rowN A.s = (M : Int) := by
  obtain ⟨h1, h2, h3, _, h5⟩ := chk_len hA
  have h4 := shB_iff.1 h1
  rw [hs] at h4
  have a := h4.2.1 h (by simp)
  have b := h4.2.1 m (by simp)
  obtain ⟨H, rfl⟩ := Int.eq_ofNat_of_zero_le a.1
  obtain ⟨M, rfl⟩ := Int.eq_ofNat_of_zero_le b.1
  have h6 : prodL A.s = ((H * M : Nat) : Int) := by rw [hs]; simp [prodL]
  have h7 : cnt A.s = H * M := by rw [h6] at h3; exact Int.ofNat_inj.1 h3
  exact ⟨H, M, rfl, rfl, by rw [h2, h7], by omega, by omega, by omega, h7, by rw [hs]; rfl⟩
theorem rowA_chk {A : Ar} {H M i : Nat} (hA : chkB A = true) (hl : A.e.length = H * M) (hM : M ≤ 4096) (hi : i < H) : chkB (rowA A i M) = true := by
  refine chkB_iff.2 ⟨shB_iff.2 ⟨by simp [rowA], ?_, ?_⟩, ?_, ?_⟩
  · intro x hx
    simp [rowA] at hx
    omega
  · simp [rowA, prodL]
    omega
  · show prodL [(M : Int)] = ((rowL A.e i M).length : Int)
    rw [rowL_length hl hi]
    simp [prodL]
  · have h := kndB_iff.1 (chkB_iff.1 hA).2.2
    exact kndB_iff.2 (h.imp id (fun h => ⟨h.1, fun c hc => h.2 c (rowL_mem c hc)⟩))
theorem cnt_one {M : Nat} (hM : M ≤ 4096) : cnt [(M : Int)] = M := by
  have hs : shB [(M : Int)] = true := shB_iff.2 ⟨by simp, fun x hx => by simp at hx; omega, by simp [prodL]; omega⟩
  have h := cnt_int [(M : Int)]
  rw [cntN_ok hs] at h
  simp [prodL] at h
  exact Int.ofNat_inj.1 h
theorem rot_n (L A : Ar) (hA : chkB A = true) : tgN (rotW L A.s) A = rotE L A.s := by
  rw [(way_tells hA (rot_way L A hA)).1]
  by_cases h : rotE L A.s = 0
  · rw [show rotW L A.s = ⟨A.s, alongG A.s (rotF L A.s), 0⟩ from if_pos h, h]
  · rw [rotW_no rfl h]
    rfl
theorem rotE_cases (L : Ar) (s : List Int) : rotE L s = 0 ∨ rotE L s = 110 ∨ rotE L s = 3 ∨ rotE L s = 4 ∨ rotE L s = 5 := by
  unfold rotE
  repeat' split
  all_goals simp
theorem rotE_row {L : Ar} {s : List Int} (h : rotE L s = 0) : chkB L = true ∧ (L.s = [] ∨ L.s = s.take (s.length - 1)) := by
  have h1 := rotE_sh h
  refine ⟨h1.2, ?_⟩
  by_cases h0 : L.s = []
  · exact .inl h0
  · refine .inr ?_
    unfold rotE at h
    rw [h1.1, h1.2] at h
    simp only [Bool.and_self, if_true] at h
    split at h
    · cases h
    · split at h
      · cases h
      · rename_i h3
        by_cases h4 : L.s = s.take (s.length - 1)
        · exact h4
        · exact absurd ⟨h0, h4⟩ h3
/-- The amount by which the i-th row is turned. -/
def amtI (L : Ar) (i : Nat) : Nat := if L.s = [] then 0 else i
theorem amt_in {L A : Ar} {H M : Nat} {i : Nat} (hE : rotE L A.s = 0) (hs : A.s = [(H : Int), (M : Int)]) (hi : i < H) : amtI L i < L.e.length := by
  obtain ⟨hc, h2⟩ := rotE_row hE
  have h3 := (chkB_iff.1 hc).2.1
  unfold amtI
  rcases h2 with h2 | h2
  · rw [if_pos h2]
    rw [h2] at h3
    simp [prodL] at h3
    omega
  · rw [hs] at h2
    have h4 : L.s = [(H : Int)] := by rw [h2]; rfl
    rw [if_neg (by rw [h4]; simp)]
    rw [h4] at h3
    simp [prodL] at h3
    omega
theorem rot_rows {L A : Ar} {H M i : Nat} (hA : chkB A = true) (hl : A.e.length = H * M) (hM : M ≤ 4096) (hcn : cnt A.s = H * M) (hr : rowN A.s = (M : Int)) (hE : rotE L A.s = 0) (hi : i < H) :
    rotA (L.e.getD (amtI L i) 0) (rowA A i M) = ⟨A.k, [(M : Int)], rowL (tgA (rotW L A.s) A).e i M⟩ := by
  have hc := rowA_chk hA hl hM hi
  have hw : rotW L A.s = ⟨A.s, tabG (cnt A.s) (fun i => (0, (i : Int) / rowN A.s * rowN A.s + rotF L A.s i)), 0⟩ := if_pos hE
  obtain ⟨hsh, hl2, hc2, _, _⟩ := chk_len hA
  have hin : InP (cnt A.s) (fun (i : Nat) => (i : Int) / rowN A.s * rowN A.s + rotF L A.s i) := fun j hj => by
    obtain ⟨p1, _, _⟩ := ediv_lt_cnt hsh hj
    exact row_in hsh hj (Int.emod_nonneg _ (by omega)) (Int.emod_lt_of_pos _ p1)
  have ht := (tg_tab hA hsh hc2 hl2 hin).2
  rw [hw, ht, (rot_ok hc _).2.1]
  show (⟨A.k, [(M : Int)], mvE (cnt [(M : Int)]) (rotQ [(M : Int)] _) (rowL A.e i M)⟩ : Ar) = _
  rw [cnt_one hM]
  congr 1
  simp only
  rw [hcn]
  refine (row_mv hi (fun t ht => ?_)).symm
  have hM0 : (0 : Int) < (M : Int) := by omega
  have hr1 : rowN [(M : Int)] = (M : Int) := rfl
  have e1 : ((i * M + t : Nat) : Int) = (i : Int) * (M : Int) + (t : Int) := by simp
  obtain ⟨d1, d2⟩ := row_div (q := (i : Int)) hM0 (show (0 : Int) ≤ (t : Int) by omega) (show (t : Int) < (M : Int) by omega)
  have d3 : (t : Int) / (M : Int) = 0 := Int.ediv_eq_zero_of_lt (by omega) (by omega)
  have d4 : (t : Int) % (M : Int) = t := Int.emod_eq_of_lt (by omega) (by omega)
  have hrow : rotRow L (M : Int) (i * M + t) = L.e.getD (amtI L i) 0 := by
    unfold rotRow amtI
    rw [e1, d1]
    split <;> rfl
  unfold rotQ rotF rotK
  rw [hr1, hr, hrow, d3, d4, e1, d1, d2]
  exact ⟨by have := Int.emod_nonneg ((t : Int) + L.e.getD (amtI L i) 0) (show (M : Int) ≠ 0 by omega); omega, by have := Int.emod_lt_of_pos ((t : Int) + L.e.getD (amtI L i) 0) hM0; omega, by simp⟩
theorem rev_rows {A : Ar} {H M i : Nat} (hA : chkB A = true) (hl : A.e.length = H * M) (hM : M ≤ 4096) (hcn : cnt A.s = H * M) (hr : rowN A.s = (M : Int)) (hi : i < H) :
    revA (rowA A i M) = ⟨A.k, [(M : Int)], rowL (revA A).e i M⟩ := by
  have hc := rowA_chk hA hl hM hi
  rw [(rev_ok hA).2.1, (rev_ok hc).2.1]
  show (⟨A.k, [(M : Int)], mvE (cnt [(M : Int)]) (revQ [(M : Int)]) (rowL A.e i M)⟩ : Ar) = _
  rw [cnt_one hM]
  congr 1
  simp only
  rw [hcn]
  refine (row_mv hi (fun t ht => ?_)).symm
  have hM0 : (0 : Int) < (M : Int) := by omega
  have hr1 : rowN [(M : Int)] = (M : Int) := rfl
  have e1 : ((i * M + t : Nat) : Int) = (i : Int) * (M : Int) + (t : Int) := by simp
  obtain ⟨d1, d2⟩ := row_div (q := (i : Int)) hM0 (show (0 : Int) ≤ (t : Int) by omega) (show (t : Int) < (M : Int) by omega)
  have d3 : (t : Int) / (M : Int) = 0 := Int.ediv_eq_zero_of_lt (by omega) (by omega)
  have d4 : (t : Int) % (M : Int) = t := Int.emod_eq_of_lt (by omega) (by omega)
  unfold revQ
  rw [hr1, hr, d3, d4, e1, d1, d2]
  exact ⟨by omega, by omega, by simp⟩
end Go.Proofs.Ytmmbdhfljabefaa
