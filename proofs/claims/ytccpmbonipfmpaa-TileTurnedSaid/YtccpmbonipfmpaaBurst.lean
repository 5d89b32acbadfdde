/- Bursts: what is turned within 32 bits is found: the plain law. -/
import Derived.Test.YtccpmbonipfmpaaCrcJ
import Derived.Test.YtccpmbonipfmpaaCrcS
namespace Go.Proofs.Ytccpmbonipfmpaa
open Go.RowKit

/-- The bytes of a number, the lowest one first. -/
def leB (X : Nat) : Nat → List UInt8
  | 0 => []
  | n + 1 => UInt8.ofNat (X % 256) :: leB (X / 256) n
theorem leB_length : ∀ (n X : Nat), (leB X n).length = n
  | 0, _ => rfl
  | n + 1, X => by show (leB (X / 256) n).length + 1 = _; rw [leB_length n]

theorem regN_byte (X : Nat) : regN X 8 = (X / 256) ^^^ tabN (X % 256) := by
  have h := byte_step X 0
  rw [Nat.xor_zero] at h
  rw [h]
  unfold tabN
  rw [show regN 0 8 = 0 from regN_zero 8, Nat.xor_zero]
/-- Bytes are fed: the register goes on, and what is behind them stays. -/
theorem sum_leB : ∀ (n c X : Nat), sumN c (leB X n) ^^^ (X / 2 ^ (8 * n)) = regN (c ^^^ X) (8 * n)
  | 0, c, X => by show c ^^^ X / 1 = c ^^^ X; rw [Nat.div_one]
  | n + 1, c, X => by
    have h1 : leB X (n + 1) = UInt8.ofNat (X % 256) :: leB (X / 256) n := rfl
    have h2 : (UInt8.ofNat (X % 256)).toNat = X % 256 := by simp
    rw [h1, sumN_cons, h2, show X / 2 ^ (8 * (n + 1)) = X / 256 / 2 ^ (8 * n) by rw [Nat.mul_add, Nat.pow_add, Nat.mul_comm, ← Nat.div_div_eq_div_mul], sum_leB n, show 8 * (n + 1) = 8 + 8 * n by omega, regN_add, regN_xor c X 8, regN_byte X, Nat.xor_comm (X / 256), ← Nat.xor_assoc]

theorem stepN_eq_zero {c : Nat} (hc : c < 4294967296) (h : stepN c = 0) : c = 0 := by
  unfold stepN at h
  split at h
  · have h1 : c / 2 = 3988292384 := by
      have := congrArg (· ^^^ 3988292384) h
      simpa [Nat.xor_assoc] using this
    omega
  · omega
theorem regN_eq_zero {c : Nat} (hc : c < 4294967296) : ∀ k, regN c k = 0 → c = 0
  | 0, h => h
  | k + 1, h => regN_eq_zero hc k (stepN_eq_zero (regN_lt hc k) h)

/-- Bytes, laid over one another. -/
def xorB (l r : List UInt8) : List UInt8 := List.zipWith (· ^^^ ·) l r
theorem sum_xorB : ∀ (l r : List UInt8) (a b : Nat), l.length = r.length → sumN (a ^^^ b) (xorB l r) = sumN a l ^^^ sumN b r
  | [], [], _, _, _ => rfl
  | x :: l, y :: r, a, b, h => by
    have h1 : xorB (x :: l) (y :: r) = (x ^^^ y) :: xorB l r := rfl
    rw [h1, sumN_cons, sumN_cons, sumN_cons, regN_xor, UInt8.toNat_xor, show tabN (x.toNat ^^^ y.toNat) = tabN x.toNat ^^^ tabN y.toNat from regN_xor _ _ 8, xor4, sum_xorB l r _ _ (by simpa using h)]
  | [], _ :: _, _, _, h => by simp at h
  | _ :: _, [], _, _, h => by simp at h
theorem more_xorB (l r : List UInt8) (h : l.length = r.length) : moreN 0 (xorB l r) = moreN 0 l ^^^ sumN 0 r := by
  unfold moreN
  have := sum_xorB l r 4294967295 0 h
  rw [Nat.xor_zero] at this
  rw [Nat.xor_zero, this, Nat.xor_assoc]

/-- The law: the sum of what is turned is the turned sum just if nothing is turned. -/
theorem burst_law (xs : List UInt8) (t f : Nat) (ht : t < 4294967296) (hf : f ≤ 8 * xs.length) :
    moreN 0 (xorB xs (leB (t * 2 ^ f) xs.length)) = moreN 0 xs ^^^ (t * 2 ^ f / 2 ^ (8 * xs.length)) ↔ t = 0 := by
  rw [more_xorB _ _ (leB_length _ _).symm]
  have h1 := sum_leB xs.length 0 (t * 2 ^ f)
  rw [Nat.zero_xor, show 8 * xs.length = f + (8 * xs.length - f) by omega, regN_add, Nat.mul_comm t, regN_double] at h1
  rw [show f + (8 * xs.length - f) = 8 * xs.length by omega, Nat.mul_comm _ t] at h1
  constructor
  · intro h
    have h2 : sumN 0 (leB (t * 2 ^ f) xs.length) = t * 2 ^ f / 2 ^ (8 * xs.length) := by
      have := congrArg (moreN 0 xs ^^^ ·) h
      simpa [← Nat.xor_assoc] using this
    rw [h2, Nat.xor_self] at h1
    exact regN_eq_zero ht _ h1.symm
  · rintro rfl
    rw [regN_zero, Nat.zero_mul, Nat.zero_div, Nat.xor_zero] at h1
    rw [Nat.zero_mul, Nat.zero_div, h1]
end Go.Proofs.Ytccpmbonipfmpaa
