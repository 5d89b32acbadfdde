/- Bursts: the bytes, bit by bit. -/
import Derived.Test.YtccpmbonipfmpaaBurst
namespace Go.Proofs.Ytccpmbonipfmpaa
open Go.RowKit

theorem leB_get : ∀ (n X j : Nat) (h : j < (leB X n).length), (leB X n)[j] = UInt8.ofNat (X / 2 ^ (8 * j) % 256)
  | 0, _, _, h => by simp [leB] at h
  | n + 1, X, 0, _ => by show UInt8.ofNat (X % 256) = _; rw [Nat.mul_zero, Nat.pow_zero, Nat.div_one]
  | n + 1, X, j + 1, h => by
    have h' : j < (leB (X / 256) n).length := by simpa [leB] using h
    show (leB (X / 256) n)[j] = _
    rw [leB_get n (X / 256) j h', Nat.div_div_eq_div_mul, show 256 * 2 ^ (8 * j) = 2 ^ (8 * (j + 1)) by rw [Nat.mul_add, Nat.pow_add, Nat.mul_comm]]
theorem ofNat_xor (a b : Nat) (ha : a < 256) (hb : b < 256) : UInt8.ofNat (a ^^^ b) = UInt8.ofNat a ^^^ UInt8.ofNat b := by
  apply UInt8.toNat_inj.1
  rw [UInt8.toNat_xor]
  simp [Nat.mod_eq_of_lt ha, Nat.mod_eq_of_lt hb]
theorem xorB_length (l r : List UInt8) (h : l.length = r.length) : (xorB l r).length = l.length := by simp [xorB, h]
theorem xorB_get (l r : List UInt8) (j : Nat) (h : j < (xorB l r).length) (h1 : j < l.length) (h2 : j < r.length) : (xorB l r)[j] = l[j] ^^^ r[j] := by simp [xorB]

theorem bit_byte (p j : Nat) : 2 ^ p / 2 ^ (8 * j) % 256 = if j = p / 8 then 2 ^ (p % 8) else 0 := by
  by_cases h : 8 * j ≤ p
  · rw [Nat.pow_div h (by decide)]
    by_cases hj : j = p / 8
    · rw [if_pos hj, show p - 8 * j = p % 8 by omega]
      exact Nat.mod_eq_of_lt (Nat.lt_of_lt_of_le (Nat.pow_lt_pow_right (by decide) (show p % 8 < 8 by omega)) (by decide))
    · rw [if_neg hj]
      obtain ⟨d, hd⟩ : ∃ d, p - 8 * j = 8 + d := ⟨p - 8 * j - 8, by omega⟩
      rw [hd, Nat.pow_add]
      exact Nat.mul_mod_right _ _
  · rw [if_neg (by omega), Nat.div_eq_of_lt (Nat.pow_lt_pow_right (by decide) (by omega))]

/-- A bit is turned. -/
theorem turn_bit (l : List UInt8) (X p : Nat) (h : p / 8 < (xorB l (leB X l.length)).length) :
    (xorB l (leB X l.length)).set (p / 8) ((xorB l (leB X l.length))[p / 8] ^^^ UInt8.ofNat (2 ^ (p % 8))) = xorB l (leB (X ^^^ 2 ^ p) l.length) := by
  have hx : ∀ Y, (xorB l (leB Y l.length)).length = l.length := fun Y => xorB_length _ _ (leB_length _ _).symm
  have hb : 2 ^ (p % 8) < 256 := Nat.lt_of_lt_of_le (Nat.pow_lt_pow_right (by decide) (show p % 8 < 8 by omega)) (by decide)
  apply List.ext_getElem
  · rw [List.length_set, hx, hx]
  · intro j h1 h2
    have hj : j < l.length := by rw [hx] at h2; exact h2
    have e1 : (X ^^^ 2 ^ p) / 2 ^ (8 * j) % 256 = (X / 2 ^ (8 * j) % 256) ^^^ (2 ^ p / 2 ^ (8 * j) % 256) := by rw [xor_div2]; exact xor_mod2 _ _ 8
    rw [xorB_get _ _ _ _ hj (by rw [leB_length]; exact hj), leB_get, e1, bit_byte, List.getElem_set]
    by_cases hq : p / 8 = j
    · subst hq
      rw [if_pos rfl, if_pos rfl, xorB_get _ _ _ _ hj (by rw [leB_length]; exact hj), leB_get, ofNat_xor _ _ (Nat.mod_lt _ (by decide)) hb, UInt8.xor_assoc]
    · rw [if_neg hq, if_neg (fun e => hq e.symm), Nat.xor_zero, xorB_get _ _ _ _ hj (by rw [leB_length]; exact hj), leB_get]

/-- What is turned, up to a bit. -/
def turnX (t f : Nat) : Nat → Nat
  | 0 => 0
  | i + 1 => if t / 2 ^ i % 2 = 1 then turnX t f i ^^^ 2 ^ (f + i) else turnX t f i
theorem turnX_bit (t f j : Nat) : ∀ i, (turnX t f i).testBit j = (decide (f ≤ j) && (decide (j < f + i) && t.testBit (j - f)))
  | 0 => by
    show (0 : Nat).testBit j = _
    rw [Nat.zero_testBit]
    by_cases h : f ≤ j
    · rw [decide_eq_false (show ¬ j < f + 0 by omega)]; simp
    · rw [decide_eq_false h]; rfl
  | i + 1 => by
    show (if t / 2 ^ i % 2 = 1 then turnX t f i ^^^ 2 ^ (f + i) else turnX t f i).testBit j = _
    by_cases hb : t / 2 ^ i % 2 = 1
    · rw [if_pos hb, Nat.testBit_xor, turnX_bit t f j i, Nat.testBit_two_pow]
      by_cases hj : j = f + i
      · subst hj
        have : t.testBit (f + i - f) = true := by rw [Nat.testBit_eq_decide_div_mod_eq, show f + i - f = i by omega, decide_eq_true hb]
        rw [this]
        simp
      · rw [show decide (f + i = j) = false from decide_eq_false (fun e => hj e.symm), Bool.xor_false]
        by_cases hlt : j < f + i
        · rw [decide_eq_true hlt, decide_eq_true (show j < f + (i + 1) by omega)]
        · rw [decide_eq_false hlt, decide_eq_false (show ¬ j < f + (i + 1) by omega)]
    · rw [if_neg hb, turnX_bit t f j i]
      by_cases hj : j = f + i
      · subst hj
        have : t.testBit (f + i - f) = false := by rw [Nat.testBit_eq_decide_div_mod_eq, show f + i - f = i by omega, decide_eq_false hb]
        rw [this]
        simp
      · by_cases hlt : j < f + i
        · rw [decide_eq_true hlt, decide_eq_true (show j < f + (i + 1) by omega)]
        · rw [decide_eq_false hlt, decide_eq_false (show ¬ j < f + (i + 1) by omega)]
theorem turnX_all (t f : Nat) (ht : t < 4294967296) : turnX t f 32 = t * 2 ^ f := by
  apply Nat.eq_of_testBit_eq
  intro j
  rw [turnX_bit, Nat.testBit_mul_two_pow]
  by_cases h : f ≤ j
  · by_cases h2 : j < f + 32
    · rw [decide_eq_true h2, Bool.true_and]
    · rw [decide_eq_false h2, Nat.testBit_lt_two_pow (Nat.lt_of_lt_of_le (show t < 2 ^ 32 from ht) (Nat.pow_le_pow_right (by decide) (by omega))), Bool.false_and]
  · rw [decide_eq_false h]; rfl

theorem leB_mod256 (X : Nat) : ∀ n, leB X n = List.ofFn (fun j : Fin n => UInt8.ofNat (X / 2 ^ (8 * j.1) % 256)) := fun n => by
  apply List.ext_getElem
  · rw [leB_length, List.length_ofFn]
  · intro j h1 h2
    rw [leB_get, List.getElem_ofFn]
theorem leB_take (X : Nat) (n k : Nat) : (leB X (n + k)).take n = leB X n := by
  apply List.ext_getElem
  · rw [List.length_take, leB_length, leB_length]; omega
  · intro j h1 h2
    rw [List.getElem_take, leB_get, leB_get]
theorem leB_drop (X : Nat) (n k : Nat) : (leB X (n + k)).drop n = leB (X / 2 ^ (8 * n)) k := by
  apply List.ext_getElem
  · rw [List.length_drop, leB_length, leB_length]; omega
  · intro j h1 h2
    rw [List.getElem_drop, leB_get, leB_get, Nat.div_div_eq_div_mul, ← Nat.pow_add, Nat.mul_add]
theorem leB_xor (X Y : Nat) : ∀ n, leB (X ^^^ Y) n = xorB (leB X n) (leB Y n) := fun n => by
  have hl : (xorB (leB X n) (leB Y n)).length = n := by rw [xorB_length _ _ (by rw [leB_length, leB_length]), leB_length]
  apply List.ext_getElem
  · rw [leB_length, hl]
  · intro j h1 h2
    have hj : j < n := by rw [leB_length] at h1; exact h1
    rw [leB_get, xorB_get _ _ _ _ (by rw [leB_length]; exact hj) (by rw [leB_length]; exact hj), leB_get, leB_get, xor_div2, ← ofNat_xor _ _ (Nat.mod_lt _ (by decide)) (Nat.mod_lt _ (by decide))]
    congr 1
    exact xor_mod2 _ _ 8
theorem be_rev (m : Nat) : be 4 m = (leB m 4).reverse := by
  show [UInt8.ofNat (m / 2 ^ 24), UInt8.ofNat (m / 2 ^ 16), UInt8.ofNat (m / 2 ^ 8), UInt8.ofNat (m / 2 ^ 0)] = _
  have h1 : ∀ q, UInt8.ofNat (q % 256) = UInt8.ofNat q := fun q => by
    apply UInt8.toNat_inj.1
    simp
  show _ = [UInt8.ofNat (m / 256 / 256 / 256 % 256), UInt8.ofNat (m / 256 / 256 % 256), UInt8.ofNat (m / 256 % 256), UInt8.ofNat (m % 256)]
  rw [h1, h1, h1, h1, Nat.pow_zero, Nat.div_one, show m / 256 / 256 / 256 = m / 2 ^ 24 by omega, show m / 256 / 256 = m / 2 ^ 16 by omega]
theorem leB_inj (a b : Nat) (ha : a < 4294967296) (hb : b < 4294967296) (h : leB a 4 = leB b 4) : a = b := by
  have h1 : [UInt8.ofNat (a % 256), UInt8.ofNat (a / 256 % 256), UInt8.ofNat (a / 256 / 256 % 256), UInt8.ofNat (a / 256 / 256 / 256 % 256)] = [UInt8.ofNat (b % 256), UInt8.ofNat (b / 256 % 256), UInt8.ofNat (b / 256 / 256 % 256), UInt8.ofNat (b / 256 / 256 / 256 % 256)] := h
  have h2 : ∀ p q : Nat, UInt8.ofNat (p % 256) = UInt8.ofNat (q % 256) → p % 256 = q % 256 := fun p q e => by
    have := congrArg UInt8.toNat e
    simpa using this
  simp only [List.cons.injEq, and_true] at h1
  obtain ⟨e0, e1, e2, e3⟩ := h1
  have := h2 _ _ e0
  have := h2 _ _ e1
  have := h2 _ _ e2
  have := h2 _ _ e3
  omega

/-- The turned bytes, and whether they are sealed. -/
theorem burst_open (xs : List UInt8) (t f : Nat) (ht : t < 4294967296) (hf : f ≤ 8 * xs.length) (bits : List UInt8) (hb : bits = xorB (xs ++ leB (moreN 0 xs) 4) (leB (turnX t f 32) (xs.length + 4))) :
    openOk (bits.take xs.length ++ (bits.drop xs.length).reverse) = decide (t = 0) := by
  rw [turnX_all t f ht] at hb
  have hm : moreN 0 xs < 4294967296 := moreN_lt _ (by decide)
  have hX : t * 2 ^ f / 2 ^ (8 * xs.length) < 4294967296 := by
    have : t * 2 ^ f ≤ t * 2 ^ (8 * xs.length) := Nat.mul_le_mul_left _ (Nat.pow_le_pow_right (by decide) hf)
    exact Nat.lt_of_le_of_lt (Nat.div_le_of_le_mul (by rw [Nat.mul_comm (2 ^ (8 * xs.length))]; exact this)) ht
  have htk : bits.take xs.length = xorB xs (leB (t * 2 ^ f) xs.length) := by
    rw [hb]
    show (List.zipWith _ _ _).take _ = _
    rw [List.take_zipWith, List.take_left, leB_take]
    rfl
  have hdr : bits.drop xs.length = leB (moreN 0 xs ^^^ (t * 2 ^ f / 2 ^ (8 * xs.length))) 4 := by
    rw [hb, leB_xor]
    show (List.zipWith _ _ _).drop _ = _
    rw [List.drop_zipWith, List.drop_left, leB_drop]
    rfl
  have hl : (bits.take xs.length ++ (bits.drop xs.length).reverse).length = xs.length + 4 := by
    rw [htk, hdr, List.length_append, xorB_length _ _ (leB_length _ _).symm, List.length_reverse, leB_length]
  have hl2 : (bits.take xs.length).length = xs.length := by rw [htk, xorB_length _ _ (leB_length _ _).symm]
  unfold openOk
  rw [decide_eq_true (by omega), Bool.true_and, hl, show xs.length + 4 - 4 = xs.length by omega, List.take_left' hl2]
  apply decide_eq_decide.2
  rw [← burst_law xs t f ht hf, ← htk]
  unfold sealL
  rw [List.append_cancel_left_eq, be_rev, List.reverse_inj, hdr]
  constructor
  · intro h
    exact leB_inj _ _ (moreN_lt _ (by decide)) (xor_lt hm hX) h
  · intro h
    rw [h]
end Go.Proofs.Ytccpmbonipfmpaa
