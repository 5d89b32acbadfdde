/- Plain laws of octet: what was written is read. -/
import Derived.Test.YtjinbjbcfmhnmaaLawB
namespace Go.Proofs.Ytjinbjbcfmhnmaa
open Go.RowKit

theorem be_snoc (k n : Nat) : be (k + 1) n = be k (n / 256) ++ [UInt8.ofNat n] := by
  unfold be
  rw [List.range_succ, List.map_append, List.map_singleton]
  congr 1
  · apply List.map_congr_left
    intro j hj
    have := List.mem_range.1 hj
    rw [Nat.div_div_eq_div_mul, show 8 * (k + 1 - 1 - j) = 8 + 8 * (k - 1 - j) by omega, Nat.pow_add]
  · simp
theorem wholeM_be (k n : Nat) (hk : k ≤ 8) (hn : n < 2 ^ (8 * k)) : wholeM (be k n) = n := by
  induction k generalizing n with
  | zero => simp at hn; subst hn; rfl
  | succ k ih =>
    have hp : 2 ^ (8 * (k + 1)) = 2 ^ (8 * k) * 256 := by rw [show 8 * (k + 1) = 8 * k + 8 by omega, Nat.pow_add]
    rw [be_snoc, wholeM_snoc, ih (n / 256) (by omega) (by omega)]
    have hle : 2 ^ (8 * (k + 1)) ≤ 2 ^ 64 := Nat.pow_le_pow_right (by decide) (by omega)
    have h1 : (UInt8.ofNat n).toNat = n % 256 := by simp
    rw [h1, Nat.mod_eq_of_lt (by omega)]
    omega
theorem wholeM_bound (l : List UInt8) (hl : l.length ≤ 8) : wholeM l < 2 ^ (8 * l.length) ∧ be l.length (wholeM l) = l := by
  generalize hk : l.length = k at *
  induction k generalizing l with
  | zero =>
    have : l = [] := List.eq_nil_of_length_eq_zero hk
    subst this
    exact ⟨by decide, rfl⟩
  | succ k ih =>
    rcases List.eq_nil_or_concat l with rfl | ⟨l', c, rfl⟩
    · simp at hk
    · rw [List.concat_eq_append] at *
      have hk' : l'.length = k := by simpa using hk
      obtain ⟨h1, h2⟩ := ih l' hk' (by omega)
      have hp : 2 ^ (8 * (k + 1)) = 2 ^ (8 * k) * 256 := by rw [show 8 * (k + 1) = 8 * k + 8 by omega, Nat.pow_add]
      have hle : 2 ^ (8 * (k + 1)) ≤ 2 ^ 64 := Nat.pow_le_pow_right (by decide) (by omega)
      have hc := c.toNat_lt
      have e : wholeM (l' ++ [c]) = wholeM l' * 256 + c.toNat := by rw [wholeM_snoc, Nat.mod_eq_of_lt (by omega)]
      rw [e]
      refine ⟨by omega, ?_⟩
      rw [be_snoc, show (wholeM l' * 256 + c.toNat) / 256 = wholeM l' by omega, h2]
      congr 2
      apply UInt8.toNat_inj.1
      simp

theorem opLen (x : OpD) : (x.s.data.toList).length = x.s.size := by simp

/-- What was written is read. -/
theorem okR_of (x : OpD) (h : okW x = true) (n1 : 0 ≤ x.n) (n2 : x.n < 18446744073709551616) (rest : List UInt8) (pos : Nat) :
    okR (opBytes x ++ rest) x = true ∧ posR (opBytes x ++ rest) x pos = pos + (opBytes x).length := by
  obtain ⟨kind, size, n, s⟩ := x
  dsimp only at n1 n2
  by_cases hk0 : kind = 0
  · subst hk0
    have hE : numErr size n.toNat = 0 := by simpa [okW] using h
    have hb : opBytes ⟨0, size, n, s⟩ = be size.toNat n.toNat := by show numBytes size n.toNat = _; rw [numBytes, if_pos hE]
    obtain ⟨hz, hfit⟩ := numErr_fit hE (by omega)
    have hsz := szd_cases hz
    rw [hb]
    have hlen : (be size.toNat n.toNat).length = size.toNat := be_length _ _
    have e1 : rErr (be size.toNat n.toNat ++ rest) size = 0 := by unfold rErr; rw [if_pos hz, if_pos (by simp [hlen])]
    have e2 : rVal (be size.toNat n.toNat ++ rest) size = n.toNat := by
      unfold rVal
      rw [if_pos e1, List.take_append_of_le_length (by omega), List.take_of_length_le (by omega), wholeM_be _ _ (by omega) hfit]
    constructor
    · show (rErr _ size == 0 && ((rVal _ size : Int) == n)) = true
      rw [e1, e2]
      simp
      omega
    · show rPos _ size pos = _
      rw [rPos, if_pos e1, hlen]
  · by_cases hk1 : kind = 1
    · subst hk1
      have hb : opBytes ⟨1, size, n, s⟩ = be 8 n.toNat := rfl
      rw [hb]
      have hlen : (be 8 n.toNat).length = 8 := be_length _ _
      have e1 : rErr (be 8 n.toNat ++ rest) 8 = 0 := by unfold rErr; rw [if_pos (by decide), if_pos (by rw [List.length_append, hlen]; show 8 ≤ _; omega)]
      have e2 : rVal (be 8 n.toNat ++ rest) 8 = n.toNat := by
        unfold rVal
        rw [if_pos e1, show (8 : Int).toNat = 8 from rfl, List.take_append_of_le_length (by omega), List.take_of_length_le (by omega), wholeM_be _ _ (by omega) (by show n.toNat < 2 ^ 64; omega)]
      constructor
      · rw [show okR (be 8 n.toNat ++ rest) ⟨1, size, n, s⟩ = (rErr (be 8 n.toNat ++ rest) 8 == 0 && (wrap64 (rVal (be 8 n.toNat ++ rest) 8 : Nat) == wrap64 n)) from rfl, e1, e2, Int.toNat_of_nonneg n1]
        simp
      · rw [show posR (be 8 n.toNat ++ rest) ⟨1, size, n, s⟩ pos = rPos (be 8 n.toNat ++ rest) 8 pos from rfl, rPos, if_pos e1, hlen]
        rfl
    · by_cases hk2 : kind = 2
      · subst hk2
        have hE : textErr s = 0 := by simpa [okW] using h
        have hs : s.size ≤ 65535 := by
          unfold textErr at hE
          by_cases h' : 65535 < s.size
          · rw [if_pos h'] at hE; cases hE
          · omega
        have hb : opBytes ⟨2, size, n, s⟩ = be 2 s.size ++ s.data.toList := by show textBytes s = _; rw [textBytes, if_neg (by omega)]
        rw [hb]
        have hlen : (be 2 s.size).length = 2 := be_length _ _
        have hsl : s.data.toList.length = s.size := by simp
        have t2 : (be 2 s.size ++ s.data.toList ++ rest).take 2 = be 2 s.size := by
          rw [List.append_assoc, List.take_append_of_le_length (by omega), List.take_of_length_le (by omega)]
        have w2 : wholeM (be 2 s.size) = s.size := wholeM_be _ _ (by omega) (by show s.size < 65536; omega)
        have d2 : (be 2 s.size ++ s.data.toList ++ rest).drop 2 = s.data.toList ++ rest := by
          rw [List.append_assoc, List.drop_append_of_le_length (by omega), List.drop_of_length_le (by omega), List.nil_append]
        have e1 : txtErr (be 2 s.size ++ s.data.toList ++ rest) = 0 := by
          unfold txtErr
          rw [t2, w2, if_pos ⟨by simp only [List.length_append, hlen]; omega, by simp only [List.length_append, hlen, hsl]; omega⟩]
        have e2 : txtVal (be 2 s.size ++ s.data.toList ++ rest) = s.data.toList := by
          unfold txtVal
          rw [if_pos e1, d2, t2, w2, List.take_append_of_le_length (by omega), List.take_of_length_le (by omega)]
        constructor
        · show (txtErr _ == 0 && txtVal _ == s.data.toList) = true
          rw [e1, e2]
          simp
        · show txtPos _ pos = _
          rw [txtPos, if_pos e1, t2, w2, List.length_append, hlen, hsl]
          omega
      · have hk3 : kind = 3 := by
          unfold okW at h
          rw [if_neg hk0, if_neg hk1, if_neg hk2] at h
          simpa using h
        subst hk3
        have hb : opBytes ⟨3, size, n, s⟩ = s.data.toList := rfl
        rw [hb]
        have hsl : s.data.toList.length = s.size := by simp
        have e1 : rawErr (s.data.toList ++ rest) s.size = 0 := by
          unfold rawErr
          rw [if_neg (by omega), if_neg (by rw [List.length_append, hsl]; omega)]
        have e2 : rawVal (s.data.toList ++ rest) s.size = s.data.toList := by
          unfold rawVal
          rw [if_pos e1, Int.toNat_natCast, List.take_append_of_le_length (by omega), List.take_of_length_le (by omega)]
        constructor
        · show (rawErr _ s.size == 0 && rawVal _ s.size == s.data.toList) = true
          rw [e1, e2]
          simp
        · show rawPos _ s.size pos = _
          rw [rawPos, if_pos e1, Int.toNat_natCast, hsl]

/-- What is read as the call takes just the call's bytes. -/
theorem posR_of (x : OpD) (h : okW x = true) (n2 : x.n.toNat < 18446744073709551616) (l : List UInt8) (pos : Nat) (hr : okR l x = true) :
    posR l x pos = pos + (opBytes x).length ∧ (opBytes x).length ≤ l.length := by
  obtain ⟨kind, size, n, s⟩ := x
  dsimp only at n2
  by_cases hk0 : kind = 0
  · subst hk0
    have hE : numErr size n.toNat = 0 := by simpa [okW] using h
    have hb : opBytes ⟨0, size, n, s⟩ = be size.toNat n.toNat := by show numBytes size n.toNat = _; rw [numBytes, if_pos hE]
    have hr' : (rErr l size == 0 && ((rVal l size : Int) == n)) = true := hr
    simp only [Bool.and_eq_true, beq_iff_eq] at hr'
    obtain ⟨hz, _⟩ := numErr_fit hE n2
    have hr1 := hr'.1
    rw [hb, be_length]
    refine ⟨by show rPos l size pos = _; rw [rPos, if_pos hr1], ?_⟩
    unfold rErr at hr1
    rw [if_pos hz] at hr1
    by_cases hc : size.toNat ≤ l.length
    · exact hc
    · rw [if_neg hc] at hr1; cases hr1
  · by_cases hk1 : kind = 1
    · subst hk1
      have hr' : (rErr l 8 == 0 && (wrap64 (rVal l 8 : Nat) == wrap64 n)) = true := hr
      simp only [Bool.and_eq_true, beq_iff_eq] at hr'
      have hr1 := hr'.1
      have hb : opBytes ⟨1, size, n, s⟩ = be 8 n.toNat := rfl
      rw [hb, be_length]
      refine ⟨by show rPos l 8 pos = _; rw [rPos, if_pos hr1]; rfl, ?_⟩
      unfold rErr at hr1
      rw [if_pos (by decide)] at hr1
      by_cases hc : (8 : Int).toNat ≤ l.length
      · exact hc
      · rw [if_neg hc] at hr1; cases hr1
    · by_cases hk2 : kind = 2
      · subst hk2
        have hE : textErr s = 0 := by simpa [okW] using h
        have hs : s.size ≤ 65535 := by
          unfold textErr at hE
          by_cases h' : 65535 < s.size
          · rw [if_pos h'] at hE; cases hE
          · omega
        have hb : opBytes ⟨2, size, n, s⟩ = be 2 s.size ++ s.data.toList := by show textBytes s = _; rw [textBytes, if_neg (by omega)]
        have hr' : (txtErr l == 0 && txtVal l == s.data.toList) = true := hr
        simp only [Bool.and_eq_true, beq_iff_eq] at hr'
        obtain ⟨hr1, hr2⟩ := hr'
        have hsl : s.data.toList.length = s.size := by simp
        have hc : 2 ≤ l.length ∧ wholeM (l.take 2) ≤ l.length - 2 := by
          unfold txtErr at hr1
          by_cases hc : 2 ≤ l.length ∧ wholeM (l.take 2) ≤ l.length - 2
          · exact hc
          · rw [if_neg hc] at hr1; cases hr1
        have hm : wholeM (l.take 2) = s.size := by
          rw [txtVal, if_pos hr1] at hr2
          have := congrArg List.length hr2
          rw [List.length_take, List.length_drop, hsl] at this
          omega
        rw [hb, List.length_append, be_length, hsl]
        refine ⟨by show txtPos l pos = _; rw [txtPos, if_pos hr1, hm]; omega, by omega⟩
      · have hk3 : kind = 3 := by
          unfold okW at h
          rw [if_neg hk0, if_neg hk1, if_neg hk2] at h
          simpa using h
        subst hk3
        have hr' : (rawErr l s.size == 0 && rawVal l s.size == s.data.toList) = true := hr
        simp only [Bool.and_eq_true, beq_iff_eq] at hr'
        have hr1 := hr'.1
        have hb : opBytes ⟨3, size, n, s⟩ = s.data.toList := rfl
        have hsl : s.data.toList.length = s.size := by simp
        rw [hb, hsl]
        refine ⟨by show rawPos l s.size pos = _; rw [rawPos, if_pos hr1, Int.toNat_natCast], ?_⟩
        unfold rawErr at hr1
        rw [if_neg (by omega)] at hr1
        by_cases hc : (l.length : Int) < (s.size : Int)
        · rw [if_pos hc] at hr1; cases hr1
        · omega
end Go.Proofs.Ytjinbjbcfmhnmaa
