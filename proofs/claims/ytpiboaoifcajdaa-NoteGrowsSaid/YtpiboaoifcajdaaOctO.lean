/- OctetOrder's walk. -/
import Derived.Test.YtpiboaoifcajdaaOctA
namespace Go.Proofs.Ytpiboaoifcajdaa
open Go.RowKit

/-! ### The plain law: the greater one has the greater bytes. -/
theorem be_succ (k n : Nat) : be (k + 1) n = UInt8.ofNat (n / 2 ^ (8 * k)) :: be k n := by
  unfold be
  rw [List.range_succ_eq_map, List.map_cons, List.map_map]
  congr 1
  apply List.map_congr_left
  intro j hj
  simp only [Function.comp]
  have := List.mem_range.1 hj
  rw [show k + 1 - 1 - (j + 1) = k - 1 - j by omega]
theorem be_mod (k n : Nat) : be k n = be k (n % 2 ^ (8 * k)) := by
  unfold be
  apply List.map_congr_left
  intro j hj
  have hj := List.mem_range.1 hj
  apply UInt8.toNat_inj.1
  simp only [UInt8.toNat_ofNat', Nat.reducePow]
  have e : 2 ^ (8 * k) = 2 ^ (8 * (k - 1 - j)) * (2 ^ 8 * 2 ^ (8 * j)) := by rw [← Nat.pow_add, ← Nat.pow_add]; congr 1; omega
  rw [e, Nat.mod_mul_right_div_self, Nat.mod_mul_right_mod]
theorem less_be (k : Nat) : ∀ n m, n < 2 ^ (8 * k) → m < 2 ^ (8 * k) → (Op.bytesLess (be k n) (be k m) = decide (n < m)) ∧ (be k n = be k m → n = m) := by
  induction k with
  | zero => intro n m hn hm; simp at hn hm; subst hn hm; simp [be, Op.bytesLess]
  | succ k ih =>
    intro n m hn hm
    rw [be_succ, be_succ]
    have hp : 2 ^ (8 * (k + 1)) = 2 ^ (8 * k) * 256 := by rw [show 8 * (k + 1) = 8 * k + 8 by omega, Nat.pow_add]
    have h0 : 0 < 2 ^ (8 * k) := Nat.pow_pos (by decide)
    have a1 : n / 2 ^ (8 * k) < 256 := Nat.div_lt_of_lt_mul (by omega)
    have a2 : m / 2 ^ (8 * k) < 256 := Nat.div_lt_of_lt_mul (by omega)
    obtain ⟨i1, i2⟩ := ih (n % 2 ^ (8 * k)) (m % 2 ^ (8 * k)) (Nat.mod_lt _ h0) (Nat.mod_lt _ h0)
    rw [← be_mod k n, ← be_mod k m] at i1 i2
    have dn := Nat.div_add_mod n (2 ^ (8 * k))
    have dm := Nat.div_add_mod m (2 ^ (8 * k))
    have mn := Nat.mod_lt n h0
    have mm := Nat.mod_lt m h0
    have tn : (UInt8.ofNat (n / 2 ^ (8 * k))).toNat = n / 2 ^ (8 * k) := by simp; omega
    have tm : (UInt8.ofNat (m / 2 ^ (8 * k))).toNat = m / 2 ^ (8 * k) := by simp; omega
    generalize n / 2 ^ (8 * k) = q at *
    generalize m / 2 ^ (8 * k) = r at *
    generalize n % 2 ^ (8 * k) = x at *
    generalize m % 2 ^ (8 * k) = y at *
    generalize 2 ^ (8 * k) = P at *
    have lt_iff : (UInt8.ofNat q < UInt8.ofNat r) ↔ q < r := by rw [UInt8.lt_iff_toNat_lt, tn, tm]
    have eq_iff : (UInt8.ofNat q = UInt8.ofNat r) ↔ q = r := by rw [← UInt8.toNat_inj, tn, tm]
    refine ⟨?_, fun h => ?_⟩
    · have t1 : decide (UInt8.ofNat q < UInt8.ofNat r) = decide (q < r) := by simp only [lt_iff]
      have t2 : (UInt8.ofNat q == UInt8.ofNat r) = decide (q = r) := by rw [Bool.eq_iff_iff, beq_iff_eq, decide_eq_true_eq]; exact eq_iff
      rw [Op.bytesLess, t1, t2, i1]
      by_cases hqr : q = r
      · subst hqr
        simp
        omega
      · by_cases hlt : q < r
        · have : P * q + P ≤ P * r := by rw [← Nat.mul_succ]; exact Nat.mul_le_mul_left _ hlt
          simp [hlt]
          omega
        · have : P * r + P ≤ P * q := by rw [← Nat.mul_succ]; exact Nat.mul_le_mul_left _ (by omega)
          simp [hlt, hqr]
          omega
    · injection h with ha hb
      have e1 := eq_iff.1 ha
      have e2 := i2 hb
      subst e1 e2
      omega

theorem numErr_fit {s : Int} {n : Nat} (h : numErr s n = 0) (hn : n < 18446744073709551616) : szd s = true ∧ n < 2 ^ (8 * s.toNat) := by
  unfold numErr at h
  by_cases hs : szd s = true
  · rw [if_pos hs] at h
    refine ⟨hs, ?_⟩
    by_cases hc : n < 2 ^ (8 * s.toNat)
    · exact hc
    · have hp : 0 < n / 2 ^ (8 * s.toNat) := Nat.div_pos (by omega) (Nat.pow_pos (by decide))
      by_cases h8 : s < 8
      · rw [if_pos ⟨h8, hp⟩] at h
        cases h
      · rcases szd_cases hs with rfl | rfl | rfl | rfl
        · omega
        · omega
        · omega
        · exact hn
  · rw [if_neg hs] at h
    cases h

theorem Wtr.drew {w : World} {base b : Nat} {v : Value} {xs : List UInt8} (h : Wtr w base b v xs) : Wtr w.drew base b v xs := ⟨h.cell, h.frozen, h.owns, h.lt⟩
theorem Wtr.fr {w w' : World} {base b : Nat} {v : Value} {xs : List UInt8} (h : Wtr w base b v xs) (hC : Chg (fun _ => False) w w') : Wtr w' base b v xs := h.chg hC id (fun _ _ => id)
theorem conv_sl {w : World} {v : Value} {l : List UInt8} (h : Sl w v (l.map B)) : (convert 24 9 v).run Try.prog w = .ok (.string ⟨l.toArray⟩) w :=
  run_convert_sl 24 9 5 Try.underlying24 Try.underlying5 Try.underlying9 h

end Go.Proofs.Ytpiboaoifcajdaa
