/- OctetOrder's walk. -/
import Derived.Test.YtjinbjbcfmhnmaaOctA
namespace Go.Proofs.Ytjinbjbcfmhnmaa
open Go.RowKit

/-! ### The plain law: the greater one has the greater bytes. -/
theorem be_succ (k n : Nat) : be (k + 1) n = UInt8.ofNat (n / 2 ^ (8 * k)) :: be k n := by
  unfold be
  rw [List.range_succ_eq_map, List.map_cons, List.map_map]
  congr 1
  apply List.map_congr_left
  intro j hj
  simp only [Function.comp]
  have := List.mem_range.1 hj
  rw [show k + 1 - 1 - (j + 1) = k - 1 - j by omega]
theorem be_mod (k n : Nat) : be k n = be k (n % 2 ^ (8 * k)) := by
  unfold be
  apply List.map_congr_left
  intro j hj
  have hj := List.mem_range.1 hj
  apply UInt8.toNat_inj.1
  simp only [UInt8.toNat_ofNat', Nat.reducePow]
  have e : 2 ^ (8 * k) = 2 ^ (8 * (k - 1 - j)) * (2 ^ 8 * 2 ^ (8 * j)) := by rw [← Nat.pow_add, ← Nat.pow_add]; congr 1; omega
  rw [e, Nat.mod_mul_right_div_self, Nat.mod_mul_right_mod]
theorem less_be (k : Nat) : ∀ n m, n < 2 ^ (8 * k) → m < 2 ^ (8 * k) → (Op.bytesLess (be k n) (be k m) = decide (n < m)) ∧ (be k n = be k m → n = m) := by
  induction k with
  | zero => intro n m hn hm; simp at hn hm; subst hn hm; simp [be, Op.bytesLess]
  | succ k ih =>
    intro n m hn hm
    rw [be_succ, be_succ]
    have hp : 2 ^ (8 * (k + 1)) = 2 ^ (8 * k) * 256 := by rw [show 8 * (k + 1) = 8 * k + 8 by omega, Nat.pow_add]
    have h0 : 0 < 2 ^ (8 * k) := Nat.pow_pos (by decide)
    have a1 : n / 2 ^ (8 * k) < 256 := Nat.div_lt_of_lt_mul (by omega)
    have a2 : m / 2 ^ (8 * k) < 256 := Nat.div_lt_of_lt_mul (by omega)
    obtain ⟨i1, i2⟩ := ih (n % 2 ^ (8 * k)) (m % 2 ^ (8 * k)) (Nat.mod_lt _ h0) (Nat.mod_lt _ h0)
    rw [← be_mod k n, ← be_mod k m] at i1 i2
    have dn := Nat.div_add_mod n (2 ^ (8 * k))
    have dm := Nat.div_add_mod m (2 ^ (8 * k))
    have mn := Nat.mod_lt n h0
    have mm := Nat.mod_lt m h0
    have tn : (UInt8.ofNat (n / 2 ^ (8 * k))).toNat = n / 2 ^ (8 * k) := by simp; omega
    have tm : (UInt8.ofNat (m / 2 ^ (8 * k))).toNat = m / 2 ^ (8 * k) := by simp; omega
    generalize n / 2 ^ (8 * k) = q at *
    generalize m / 2 ^ (8 * k) = r at *
    generalize n % 2 ^ (8 * k) = x at *
    generalize m % 2 ^ (8 * k) = y at *
    generalize 2 ^ (8 * k) = P at *
    have lt_iff : (UInt8.ofNat q < UInt8.ofNat r) ↔ q < r := by rw [UInt8.lt_iff_toNat_lt, tn, tm]
    have eq_iff : (UInt8.ofNat q = UInt8.ofNat r) ↔ q = r := by rw [← UInt8.toNat_inj, tn, tm]
    refine ⟨?_, fun h => ?_⟩
    · have t1 : decide (UInt8.ofNat q < UInt8.ofNat r) = decide (q < r) := by simp only [lt_iff]
      have t2 : (UInt8.ofNat q == UInt8.ofNat r) = decide (q = r) := by rw [Bool.eq_iff_iff, beq_iff_eq, decide_eq_true_eq]; exact eq_iff
      rw [Op.bytesLess, t1, t2, i1]
      by_cases hqr : q = r
      · subst hqr
        simp
        omega
      · by_cases hlt : q < r
        · have : P * q + P ≤ P * r := by rw [← Nat.mul_succ]; exact Nat.mul_le_mul_left _ hlt
          simp [hlt]
          omega
        · have : P * r + P ≤ P * q := by rw [← Nat.mul_succ]; exact Nat.mul_le_mul_left _ (by omega)
          simp [hlt, hqr]
          omega
    · injection h with ha hb
      have e1 := eq_iff.1 ha
      have e2 := i2 hb
      subst e1 e2
      omega

theorem numErr_fit {s : Int} {n : Nat} (h : numErr s n = 0) (hn : n < 18446744073709551616) : szd s = true ∧ n < 2 ^ (8 * s.toNat) := by
  unfold numErr at h
  by_cases hs : szd s = true
  · rw [if_pos hs] at h
    refine ⟨hs, ?_⟩
    by_cases hc : n < 2 ^ (8 * s.toNat)
    · exact hc
    · have hp : 0 < n / 2 ^ (8 * s.toNat) := Nat.div_pos (by omega) (Nat.pow_pos (by decide))
      by_cases h8 : s < 8
      · rw [if_pos ⟨h8, hp⟩] at h
        cases h
      · rcases szd_cases hs with rfl | rfl | rfl | rfl
        · omega
        · omega
        · omega
        · exact hn
  · rw [if_neg hs] at h
    cases h

theorem Chg.tr {a b c : World} (h : Chg (fun _ => False) a b) (k : Chg (fun _ => False) b c) : Chg (fun _ => False) a c := h.trans k (fun _ _ h => h) (fun _ _ h => h)
theorem Wtr.drew {w : World} {base b : Nat} {v : Value} {xs : List UInt8} (h : Wtr w base b v xs) : Wtr w.drew base b v xs := ⟨h.cell, h.frozen, h.owns, h.lt⟩
theorem Wtr.fr {w w' : World} {base b : Nat} {v : Value} {xs : List UInt8} (h : Wtr w base b v xs) (hC : Chg (fun _ => False) w w') : Wtr w' base b v xs := h.chg hC id (fun _ _ => id)
theorem conv_sl {w : World} {v : Value} {l : List UInt8} (h : Sl w v (l.map B)) : (convert 24 9 v).run Try.prog w = .ok (.string ⟨l.toArray⟩) w :=
  run_convert_sl 24 9 5 Try.underlying24 Try.underlying5 Try.underlying9 h

set_option maxHeartbeats 400000 in
theorem octetOrder_walk (s n m : Int) (W : World) (_h1 : (Lit.int .i64 s).wf = true) (h2 : (Lit.int .u64 n).wf = true) (h3 : (Lit.int .u64 m).wf = true) :
    Calls Try.prog 3 #[.int .i64 s, .int .u64 n, .int .u64 m] W (True_ W) := by
  have b2 := wf_u64 h2
  have b3 := wf_u64 h3
  clear h2 h3
  go_enter Try.func3, Try.ntmps3
  go_wp2_with fail
  refine (alive_any W).mono ?_
  rintro e w0 ⟨rfl, hA⟩
  have hW1 : Wtr ((w0.alloc (.cells #[.slice none 0 0] 26)).alloc (.cells #[.slice none 0 0] 26)) (w0.heap.size + 2) w0.heap.size (.slice none 0 0) [] :=
    ⟨alloc_cell (new_cell w0 _ _ rfl) _, alloc_frozen (new_cell w0 _ _ rfl) (new_frozen w0 _ _ _) _, World.ownsRow_nil _ _ _ _, by omega⟩
  have hW2 : Wtr ((w0.alloc (.cells #[.slice none 0 0] 26)).alloc (.cells #[.slice none 0 0] 26)) (w0.heap.size + 2) (w0.heap.size + 1) (.slice none 0 0) [] := by
    have := Wtr.new (w0.alloc (.cells #[.slice none 0 0] 26)) 26
    simpa using this
  have h1 := num_any s n _ _ _ _ _ b2.1 (by omega) hW1 (by simp) (by simp)
  go_wp2_with fail
  refine h1.mono ?_
  clear h1
  rintro e w1 ⟨rfl, v1, hR1⟩
  have hW2' := hW2.chg hR1.chg (by simp [Value.ownBlock]) (by simp [Value.ownBlock])
  have h1 := num_any s m _ _ _ _ _ b3.1 (by omega) hW2' (by simp) (by have := hR1.chg.size; simp at this; omega)
  go_wp2_with fail
  refine h1.mono ?_
  clear h1
  rintro e w2 ⟨rfl, v2, hR2⟩
  have hV1 : Wtr w2 (w0.heap.size + 2) w0.heap.size v1 ([] ++ numBytes s n.toNat) := hR1.wtr.chg hR2.chg (by simp [Value.ownBlock]) (by
    intro k hk h
    have := hR1.wtr.owns.lt k hk
    simp [Value.ownBlock] at h
    omega)
  have hC : Chg (fun _ => False) W w2 := by
    refine (hA.trans ((((Chg.refl (fun _ => False) w0).alloc _).alloc _).trans (hR1.chg.trans hR2.chg (T := fun j => w0.heap.size ≤ j) ?_ ?_) (T := fun j => w0.heap.size ≤ j) ?_ ?_) ?_ ?_)
    all_goals simp [Value.ownBlock]
    · omega
    · omega
    · have := hA.size; omega
  clear hA hW1 hW2 hW2'
  by_cases e1 : numErr s n.toNat = 0
  · by_cases e2 : numErr s m.toNat = 0
    · rw [e1, e2]
      have z1 := numErr_fit e1 (by omega)
      have z2 := numErr_fit e2 (by omega)
      have f1 : numBytes s n.toNat = be s.toNat n.toNat := by rw [numBytes, if_pos e1]
      have f2 : numBytes s m.toNat = be s.toNat m.toNat := by rw [numBytes, if_pos e2]
      have hV2 := hR2.wtr
      rw [f1, List.nil_append] at hV1
      rw [f2, List.nil_append] at hV2
      have hs := szd_cases z1.1
      obtain ⟨l1, l2⟩ := less_be s.toNat n.toNat m.toNat z1.2 z2.2
      clear hR1 hR2
      clear e1 e2 f1 f2
      obtain ⟨S1, hS1, hl1, hs1⟩ := str_name (be s.toNat n.toNat)
      obtain ⟨S2, hS2, hl2, hs2⟩ := str_name (be s.toNat m.toNat)
      have k1 : (S1.size : Int) = s := by rw [hs1, be_length]; omega
      have k2 : (S2.size : Int) = s := by rw [hs2, be_length]; omega
      have k3 : Op.bytesLess S1.toList S2.toList = decide (n < m) := by rw [hl1, hl2, l1]; exact decide_eq_decide.2 (by omega)
      have k4 : (S1.toList == S2.toList) = (n == m) := by
        rw [hl1, hl2, Bool.eq_iff_iff, beq_iff_eq, beq_iff_eq]
        exact ⟨fun h => by have := l2 h; omega, fun h => by rw [h]⟩
      have q1 : ((S1.size : Int) == s) = true := by rw [beq_iff_eq]; exact k1
      have q2 : ((S2.size : Int) == s) = true := by rw [beq_iff_eq]; exact k2
      have len1 : (be s.toNat n.toNat).length ≤ 140737488355328 := by rw [be_length]; omega
      have len2 : (be s.toNat m.toNat).length ≤ 140737488355328 := by rw [be_length]; omega
      have HS1 := Lib.hid hS1
      have HS2 := Lib.hid hS2
      clear hS1 hl1 hs1 hS2 hl2 hs2 k1 k2 l1 l2 hs
      go_wp2_with fail
      go_region_with (first
        | (go_at_call 11; (with_reducible refine (bytes_any _ _ _ _ _ hV1.drew len1).mono ?_); rintro e w3 ⟨u1, rfl, ho1, hC1⟩; have hcv1 := conv_sl (Sl.of_owns ho1); rw [HS1.out] at hcv1)
        | (go_at_call 11; (with_reducible refine (bytes_any _ _ _ _ _ (hV2.drew.fr hC1) len2).mono ?_); rintro e w4 ⟨u2, rfl, ho2, hC2⟩; have hcv2 := conv_sl (Sl.of_owns ho2); rw [HS2.out] at hcv2; have hcv3 := conv_sl ((Sl.of_owns ho1).fr hC2); rw [HS1.out] at hcv3))
      all_goals
        go_wp2
        go_ret
        exact ⟨by simp, (hC.drew.tr hC1).tr hC2⟩
    · have g1 : (numErr s m.toNat == 0) = false := by simpa using e2
      have g2 : (numErr s m.toNat != 0) = true := by simpa using e2
      have H := Lib.hid e1
      rw [e1]
      clear e1 e2 H
      generalize numErr s m.toNat = E at *
      go_wp2
      go_ret
      exact ⟨rfl, hC⟩
  · have g1 : (numErr s n.toNat == 0) = false := by simpa using e1
    have g2 : (numErr s n.toNat != 0) = true := by simpa using e1
    clear e1
    generalize numErr s n.toNat = E at *
    generalize numErr s m.toNat = E2 at *
    go_wp2
    all_goals
      go_ret
      exact ⟨rfl, hC⟩
end Go.Proofs.Ytjinbjbcfmhnmaa
