/- The register's algebra, in plain numbers: products modulo the polynomial, powers, and sums of what is joined. -/
import Derived.Test.YtccpmbonipfmpaaCrcO
namespace Go.Proofs.Ytccpmbonipfmpaa
open Go.RowKit

theorem xor_div2 (a b : Nat) (k : Nat) : (a ^^^ b) / 2 ^ k = (a / 2 ^ k) ^^^ (b / 2 ^ k) := by
  rw [← Nat.shiftRight_eq_div_pow, ← Nat.shiftRight_eq_div_pow, ← Nat.shiftRight_eq_div_pow, Nat.shiftRight_xor_distrib]
theorem xor_mod2 (a b : Nat) (k : Nat) : (a ^^^ b) % 2 ^ k = (a % 2 ^ k) ^^^ (b % 2 ^ k) := Nat.xor_mod_two_pow
theorem stepN_eq (c : Nat) : stepN c = (c / 2) ^^^ (if c % 2 = 1 then 3988292384 else 0) := by
  unfold stepN
  split <;> simp
theorem stepN_xor (a b : Nat) : stepN (a ^^^ b) = stepN a ^^^ stepN b := by
  have h1 : (a ^^^ b) / 2 = (a / 2) ^^^ (b / 2) := xor_div2 a b 1
  have h2 : (a ^^^ b) % 2 = (a % 2) ^^^ (b % 2) := xor_mod2 a b 1
  rw [stepN_eq, stepN_eq a, stepN_eq b, h1, h2]
  rcases Nat.mod_two_eq_zero_or_one a with ha | ha <;> rcases Nat.mod_two_eq_zero_or_one b with hb | hb <;> rw [ha, hb] <;> simp
  · rw [Nat.xor_assoc]
  · rw [Nat.xor_assoc, Nat.xor_comm (b / 2), Nat.xor_assoc]
  · rw [Nat.xor_assoc, ← Nat.xor_assoc 3988292384, Nat.xor_comm 3988292384 (b / 2), Nat.xor_assoc (b / 2), Nat.xor_self, Nat.xor_zero]
theorem regN_xor (a b : Nat) : ∀ k, regN (a ^^^ b) k = regN a k ^^^ regN b k
  | 0 => rfl
  | k + 1 => by show stepN _ = stepN _ ^^^ stepN _; rw [regN_xor a b k, stepN_xor]
theorem regN_zero : ∀ k, regN 0 k = 0
  | 0 => rfl
  | k + 1 => by show stepN (regN 0 k) = 0; rw [regN_zero k]; rfl
theorem regN_add (a j : Nat) : ∀ k, regN a (j + k) = regN (regN a j) k
  | 0 => rfl
  | k + 1 => by show stepN (regN a (j + k)) = stepN _; rw [regN_add a j k]
theorem regN_step (a : Nat) (k : Nat) : regN (stepN a) k = stepN (regN a k) := by
  rw [show stepN a = regN a 1 from rfl, ← regN_add, Nat.add_comm]
  rfl
theorem xor4 (a b c d : Nat) : (a ^^^ b) ^^^ (c ^^^ d) = (a ^^^ c) ^^^ (b ^^^ d) := by
  rw [Nat.xor_assoc, Nat.xor_assoc, ← Nat.xor_assoc b, Nat.xor_comm b c, Nat.xor_assoc c]

/-- The product of two registers, up to a place. -/
def tim (a b : Nat) : Nat → Nat
  | 0 => 0
  | k + 1 => tim a b k ^^^ (if b.testBit (31 - k) then regN a k else 0)
def timesN (a b : Nat) : Nat := tim a b 32

theorem sel_xor (p q : Bool) (x : Nat) : (if (p ^^ q) then x else 0) = (if p then x else 0) ^^^ (if q then x else 0) := by
  cases p <;> cases q <;> simp
theorem tim_xor_right (a b c : Nat) : ∀ k, tim a (b ^^^ c) k = tim a b k ^^^ tim a c k
  | 0 => by show 0 = 0 ^^^ 0; decide
  | k + 1 => by
    show tim a (b ^^^ c) k ^^^ _ = (tim a b k ^^^ _) ^^^ (tim a c k ^^^ _)
    rw [tim_xor_right a b c k, Nat.testBit_xor, sel_xor, xor4]
theorem tim_xor_left (a b c : Nat) : ∀ k, tim (a ^^^ b) c k = tim a c k ^^^ tim b c k
  | 0 => by show 0 = 0 ^^^ 0; decide
  | k + 1 => by
    show tim (a ^^^ b) c k ^^^ _ = (tim a c k ^^^ _) ^^^ (tim b c k ^^^ _)
    rw [tim_xor_left a b c k, regN_xor, xor4 (tim a c k)]
    split <;> simp
theorem tim_step_left (a c : Nat) : ∀ k, tim (stepN a) c k = stepN (tim a c k)
  | 0 => by show 0 = stepN 0; decide
  | k + 1 => by
    show tim (stepN a) c k ^^^ _ = stepN (tim a c k ^^^ _)
    rw [tim_step_left a c k, stepN_xor, regN_step]
    split
    · rfl
    · rfl
theorem tim_reg_left (a c k : Nat) : ∀ j, tim (regN a j) c k = regN (tim a c k) j
  | 0 => rfl
  | j + 1 => by show tim (stepN (regN a j)) c k = stepN _; rw [tim_step_left, tim_reg_left a c k j]
theorem tim_half (a b : Nat) (hb : b < 4294967296) : ∀ k, k ≤ 31 → tim a (b / 2) (k + 1) = stepN (tim a b k)
  | 0, _ => by
    show 0 ^^^ (if (b / 2).testBit 31 then _ else 0) = stepN 0
    rw [Nat.testBit_lt_two_pow (by omega), if_neg (by simp)]
    decide
  | k + 1, h => by
    show tim a (b / 2) (k + 1) ^^^ (if (b / 2).testBit (31 - (k + 1)) then regN a (k + 1) else 0) = stepN (tim a b k ^^^ (if b.testBit (31 - k) then regN a k else 0))
    rw [tim_half a b hb k (by omega), stepN_xor, Nat.testBit_div_two, show 31 - (k + 1) + 1 = 31 - k by omega]
    split
    · rfl
    · rfl

/-- Linear functions that agree on the single bits agree. -/
theorem linear_ext (g h : Nat → Nat) (g0 : g 0 = 0) (h0 : h 0 = 0) (gx : ∀ a b, g (a ^^^ b) = g a ^^^ g b) (hx : ∀ a b, h (a ^^^ b) = h a ^^^ h b) :
    ∀ n, (∀ i, i < n → g (2 ^ i) = h (2 ^ i)) → ∀ a, a < 2 ^ n → g a = h a
  | 0, _, a, ha => by obtain rfl : a = 0 := by simpa using ha
                      rw [g0, h0]
  | n + 1, hb, a, ha => by
    by_cases hlt : a < 2 ^ n
    · exact linear_ext g h g0 h0 gx hx n (fun i hi => hb i (by omega)) a hlt
    · have e : a = (a ^^^ 2 ^ n) ^^^ 2 ^ n := by rw [Nat.xor_assoc, Nat.xor_self, Nat.xor_zero]
      have hr : a ^^^ 2 ^ n < 2 ^ n := by
        refine Nat.lt_pow_two_of_testBit _ fun i hi => ?_
        rw [Nat.testBit_xor, Nat.testBit_two_pow]
        by_cases hin : n = i
        · subst hin
          rw [Nat.pow_succ] at ha
          have : a / 2 ^ n = 1 := by
            rw [Nat.div_eq_iff (Nat.two_pow_pos n)]
            omega
          simp [Nat.testBit_eq_decide_div_mod_eq, this]
        · rw [Nat.testBit_lt_two_pow (Nat.lt_of_lt_of_le ha (Nat.pow_le_pow_right (by decide) (by omega)))]
          simp [hin]
      rw [e, gx, hx, linear_ext g h g0 h0 gx hx n (fun i hi => hb i (by omega)) _ hr, hb n (by omega)]

theorem tim_zero_left (b : Nat) : ∀ k, tim 0 b k = 0
  | 0 => rfl
  | k + 1 => by show tim 0 b k ^^^ _ = 0; rw [tim_zero_left b k, regN_zero]; split <;> decide
theorem bit_reg : ∀ i, i < 32 → 2 ^ i = regN 2147483648 (31 - i) := by decide +kernel
theorem poly_one : tim 2147483648 3988292384 32 = regN 2147483648 32 := by decide +kernel
theorem tim_poly (a : Nat) (ha : a < 4294967296) : tim a 3988292384 32 = regN a 32 := by
  refine linear_ext (fun a => tim a 3988292384 32) (fun a => regN a 32) (tim_zero_left _ _) (regN_zero _) (fun a b => tim_xor_left a b _ _) (fun a b => regN_xor a b _) 32 (fun i hi => ?_) a ha
  show tim (2 ^ i) _ 32 = regN (2 ^ i) 32
  rw [bit_reg i hi, tim_reg_left, poly_one, ← regN_add, ← regN_add, Nat.add_comm]
theorem times_step (a b : Nat) (ha : a < 4294967296) (hb : b < 4294967296) : timesN a (stepN b) = stepN (timesN a b) := by
  have h1 : timesN a (b / 2) = stepN (tim a b 31) := tim_half a b hb 31 (Nat.le_refl _)
  have h2 : timesN a b = tim a b 31 ^^^ (if b.testBit 0 then regN a 31 else 0) := rfl
  rw [h2, stepN_xor, ← h1, stepN_eq]
  unfold timesN
  rw [tim_xor_right, Nat.testBit_zero]
  by_cases h : b % 2 = 1
  · rw [if_pos h, tim_poly a ha, decide_eq_true h, if_pos rfl]
    rfl
  · rw [if_neg h, decide_eq_false h, if_neg (by simp)]
    congr 1
    show tim a 0 32 = stepN 0
    clear h1 h2 h
    suffices h : ∀ k, tim a 0 k = 0 from h 32
    intro k
    induction k with
    | zero => rfl
    | succ k ih => show tim a 0 k ^^^ _ = 0; rw [ih, Nat.zero_testBit, if_neg (by simp)]; decide
theorem tim_one (a : Nat) : ∀ k, k ≤ 31 → tim a 2147483648 (k + 1) = a
  | 0, _ => by show 0 ^^^ (if (2147483648 : Nat).testBit 31 then a else 0) = a; rw [show (2147483648 : Nat).testBit 31 = true by decide]; simp
  | k + 1, h => by
    show tim a 2147483648 (k + 1) ^^^ _ = a
    rw [tim_one a k (by omega), show (2147483648 : Nat) = 2 ^ 31 from rfl, Nat.testBit_two_pow, decide_eq_false (by omega), if_neg (by simp), Nat.xor_zero]

/-- The power, as a register. -/
def E (q : Nat) : Nat := regN 2147483648 q
theorem E_lt (q : Nat) : E q < 4294967296 := regN_lt (by decide) q
theorem times_E (a : Nat) (ha : a < 4294967296) : ∀ q, timesN a (E q) = regN a q
  | 0 => tim_one a 31 (Nat.le_refl _)
  | q + 1 => by
    show timesN a (stepN (E q)) = stepN (regN a q)
    rw [times_step a _ ha (E_lt q), times_E a ha q]
theorem times_EE (p q : Nat) : timesN (E p) (E q) = E (p + q) := by rw [times_E _ (E_lt p)]; exact (regN_add _ _ _).symm
theorem E8 : E 8 = 8388608 := by decide +kernel

/-! Sums of what is joined. -/
theorem regN_double (h : Nat) : ∀ j, regN (2 ^ j * h) j = h
  | 0 => by show 2 ^ 0 * h = h; simp
  | j + 1 => by
    have h1 : stepN (2 ^ (j + 1) * h) = 2 ^ j * h := by
      unfold stepN
      rw [Nat.pow_succ, Nat.mul_right_comm, if_neg (by omega)]
      omega
    show stepN (regN _ j) = h
    rw [← regN_step, h1, regN_double h j]
theorem split8 (c : Nat) : (256 * (c / 256)) ^^^ (c % 256) = c := by
  have h1 : (256 * (c / 256) ^^^ c % 256) / 256 = (256 * (c / 256) / 256) ^^^ (c % 256 / 256) := xor_div2 _ _ 8
  have h2 : (256 * (c / 256) ^^^ c % 256) % 256 = (256 * (c / 256) % 256) ^^^ (c % 256 % 256) := xor_mod2 _ _ 8
  rw [show 256 * (c / 256) / 256 = c / 256 by omega, show c % 256 / 256 = 0 by omega, Nat.xor_zero] at h1
  rw [show 256 * (c / 256) % 256 = 0 by omega, Nat.zero_xor] at h2
  omega
theorem byte_step (c x : Nat) : c / 256 ^^^ tabN (c % 256 ^^^ x) = regN c 8 ^^^ tabN x := by
  have h := regN_xor (256 * (c / 256)) (c % 256) 8
  rw [split8, show 256 * (c / 256) = 2 ^ 8 * (c / 256) from rfl, regN_double] at h
  rw [h]
  unfold tabN
  rw [regN_xor, Nat.xor_assoc]
theorem sumN_cons (c : Nat) (x : UInt8) (l : List UInt8) : sumN c (x :: l) = sumN (regN c 8 ^^^ tabN x.toNat) l := by
  show sumN (c / 256 ^^^ tabN (c % 256 ^^^ x.toNat)) l = _
  rw [byte_step]
theorem sumN_xor (l : List UInt8) : ∀ a b, sumN (a ^^^ b) l = regN a (8 * l.length) ^^^ sumN b l := by
  induction l with
  | nil => intro a b; rfl
  | cons x l ih =>
    intro a b
    rw [sumN_cons, sumN_cons, regN_xor, Nat.xor_assoc, ih, ← regN_add, List.length_cons, show 8 + 8 * l.length = 8 * (l.length + 1) by omega]
theorem sumN_append (c : Nat) (l r : List UInt8) : sumN c (l ++ r) = sumN (sumN c l) r := by simp [sumN]
theorem more_join (xs ys : List UInt8) : regN (moreN 0 xs) (8 * ys.length) ^^^ moreN 0 ys = moreN 0 (xs ++ ys) := by
  unfold moreN
  rw [Nat.xor_zero, sumN_append]
  generalize sumN 4294967295 xs = s
  have h := sumN_xor ys (4294967295 ^^^ s) s
  rw [Nat.xor_assoc, Nat.xor_self, Nat.xor_zero] at h
  rw [h, ← Nat.xor_assoc, Nat.xor_comm _ 4294967295, Nat.xor_assoc, ← Nat.xor_assoc (regN _ _), Nat.xor_self, Nat.zero_xor]
theorem more_behind (xs ys : List UInt8) : moreN (moreN 0 xs) ys = moreN 0 (xs ++ ys) := by
  unfold moreN
  rw [Nat.xor_zero, ← Nat.xor_assoc, Nat.xor_self, Nat.zero_xor, sumN_append]
end Go.Proofs.Ytccpmbonipfmpaa
