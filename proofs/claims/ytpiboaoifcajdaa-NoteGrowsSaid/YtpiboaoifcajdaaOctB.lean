/- Numbers as bytes, and back. -/
import Derived.Test.YtpiboaoifcajdaaOctN
namespace Go.Proofs.Ytpiboaoifcajdaa
open Go.RowKit

theorem be_snoc (k n : Nat) : be (k + 1) n = be k (n / 256) ++ [UInt8.ofNat n] := by
  unfold be
  rw [List.range_succ, List.map_append, List.map_singleton]
  congr 1
  · apply List.map_congr_left
    intro j hj
    have := List.mem_range.1 hj
    rw [Nat.div_div_eq_div_mul, show 8 * (k + 1 - 1 - j) = 8 + 8 * (k - 1 - j) by omega, Nat.pow_add]
  · simp
theorem wholeM_be (k n : Nat) (hk : k ≤ 8) (hn : n < 2 ^ (8 * k)) : wholeM (be k n) = n := by
  induction k generalizing n with
  | zero => simp at hn; subst hn; rfl
  | succ k ih =>
    have hp : 2 ^ (8 * (k + 1)) = 2 ^ (8 * k) * 256 := by rw [show 8 * (k + 1) = 8 * k + 8 by omega, Nat.pow_add]
    rw [be_snoc, wholeM_snoc, ih (n / 256) (by omega) (by omega)]
    have hle : 2 ^ (8 * (k + 1)) ≤ 2 ^ 64 := Nat.pow_le_pow_right (by decide) (by omega)
    have h1 : (UInt8.ofNat n).toNat = n % 256 := by simp
    rw [h1, Nat.mod_eq_of_lt (by omega)]
    omega
theorem wholeM_bound (l : List UInt8) (hl : l.length ≤ 8) : wholeM l < 2 ^ (8 * l.length) ∧ be l.length (wholeM l) = l := by
  generalize hk : l.length = k at *
  induction k generalizing l with
  | zero =>
    have : l = [] := List.eq_nil_of_length_eq_zero hk
    subst this
    exact ⟨by decide, rfl⟩
  | succ k ih =>
    rcases List.eq_nil_or_concat l with rfl | ⟨l', c, rfl⟩
    · simp at hk
    · rw [List.concat_eq_append] at *
      have hk' : l'.length = k := by simpa using hk
      obtain ⟨h1, h2⟩ := ih l' hk' (by omega)
      have hp : 2 ^ (8 * (k + 1)) = 2 ^ (8 * k) * 256 := by rw [show 8 * (k + 1) = 8 * k + 8 by omega, Nat.pow_add]
      have hle : 2 ^ (8 * (k + 1)) ≤ 2 ^ 64 := Nat.pow_le_pow_right (by decide) (by omega)
      have hc := c.toNat_lt
      have e : wholeM (l' ++ [c]) = wholeM l' * 256 + c.toNat := by rw [wholeM_snoc, Nat.mod_eq_of_lt (by omega)]
      rw [e]
      refine ⟨by omega, ?_⟩
      rw [be_snoc, show (wholeM l' * 256 + c.toNat) / 256 = wholeM l' by omega, h2]
      congr 2
      apply UInt8.toNat_inj.1
      simp
end Go.Proofs.Ytpiboaoifcajdaa
