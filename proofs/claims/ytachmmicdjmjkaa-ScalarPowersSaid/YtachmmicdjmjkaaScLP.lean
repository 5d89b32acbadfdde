/- ScalarPowers' walk. -/
import Derived.Test.YtachmmicdjmjkaaScW
namespace Go.Proofs.Ytachmmicdjmjkaa
open Go.RowKit

theorem natAbs_mul_ge (a x : Int) (ha : ¬ In a) (hx : 2 ≤ x.natAbs) : ¬ In (a * x) := by
  have h := Int.natAbs_mul a x
  have h1 : 9223372036854775808 * 2 ≤ a.natAbs * x.natAbs := Nat.mul_le_mul (by unfold In at ha; omega) hx
  unfold In
  omega
theorem pow_step (x : Int) (k : Nat) : (In (x ^ k) → x ^ (k + 1) = x ^ k * x) ∧ (¬ In (x ^ k) → ¬ In (x ^ (k + 1))) := by
  refine ⟨fun _ => Int.pow_succ _ _, fun h => ?_⟩
  rw [Int.pow_succ]
  apply natAbs_mul_ge _ _ h
  apply Classical.byContradiction
  intro h2
  apply h
  have h3 := Int.natAbs_pow x k
  have h4 : x.natAbs ^ k ≤ 1 := by
    have : x.natAbs = 0 ∨ x.natAbs = 1 := by omega
    rcases this with e | e
    · rw [e]
      cases k with
      | zero => exact Nat.le_refl _
      | succ k => rw [Nat.zero_pow (by omega)]; omega
    · rw [e, Nat.one_pow]; exact Nat.le_refl _
  unfold In
  omega
theorem powers_plain (x y : Int) (hy : 1 ≤ y) : (powE x (y - 1) = 7 ∧ powE x y = 7) ∨ (powE x (y - 1) = 0 ∧ powN x y = fitN (powN x (y - 1) * x) ∧ powE x y = fitE (powN x (y - 1) * x) ∧ In (powN x (y - 1))) := by
  obtain ⟨k, rfl⟩ : ∃ k : Nat, y = ((k + 1 : Nat) : Int) := ⟨(y - 1).toNat, by omega⟩
  have e1 : ((k + 1 : Nat) : Int) - 1 = (k : Int) := by omega
  have p1 : powN x (k : Int) = fitN (x ^ k) := by unfold powN; rw [if_pos (by omega)]; rfl
  have p2 : powE x (k : Int) = fitE (x ^ k) := by unfold powE; rw [if_pos (by omega)]; rfl
  have p3 : powN x ((k + 1 : Nat) : Int) = fitN (x ^ (k + 1)) := by unfold powN; rw [if_pos (by omega)]; rfl
  have p4 : powE x ((k + 1 : Nat) : Int) = fitE (x ^ (k + 1)) := by unfold powE; rw [if_pos (by omega)]; rfl
  rw [e1, p1, p2, p3, p4]
  obtain ⟨h1, h2⟩ := pow_step x k
  by_cases h : In (x ^ k)
  · right
    rw [fitN_in h, fitE_in h, h1 h]
    exact ⟨rfl, rfl, rfl, h⟩
  · left
    exact ⟨fitE_out h, fitE_out (h2 h)⟩

theorem powers_small (x y : Int) (W : World) (h : decide (y < 1) = true) : Calls Try.prog 3 #[.int .i64 x, .int .i64 y] W (True_ W) := by
  have ha := alive_any
  go_enter Try.func3, Try.ntmps3
  go_wp2_with (go_at_call 11; (with_reducible refine (ha _).mono ?_); rintro e w1 ⟨rfl, hC1⟩)
  go_ret
  exact ⟨rfl, hC1⟩
theorem powers_over (x y z n m : Int) (W : World) (h : decide (y < 1) = false) (hz : wrap64 (y - 1) = z) (h1 : ∀ w, Calls Try.prog 12 #[.int .i64 8, .int .i64 x, .int .i64 y] w (GaveP w n 7)) (h2 : ∀ w, Calls Try.prog 12 #[.int .i64 8, .int .i64 x, .int .i64 z] w (GaveP w m 7)) :
    Calls Try.prog 3 #[.int .i64 x, .int .i64 y] W (True_ W) := by
  have ha := alive_any
  go_enter Try.func3, Try.ntmps3
  go_wp2_with (first
    | (go_at_call 11; (with_reducible refine (ha _).mono ?_); rintro e w1 ⟨rfl, hC1⟩)
    | (go_at_call 12; (with_reducible refine (h1 _).mono ?_); rintro e w2 ⟨rfl, hC2⟩)
    | (go_at_call 12; (with_reducible refine (h2 _).mono ?_); rintro e w3 ⟨rfl, hC3⟩))
  go_ret
  exact ⟨rfl, (hC1.tr hC2).tr hC3⟩
theorem powers_main (x y z n m e0 : Int) (W : World) (h : decide (y < 1) = false) (hz : wrap64 (y - 1) = z) (h1 : ∀ w, Calls Try.prog 12 #[.int .i64 8, .int .i64 x, .int .i64 y] w (GaveP w n e0)) (h2 : ∀ w, Calls Try.prog 12 #[.int .i64 8, .int .i64 x, .int .i64 z] w (GaveP w m 0))
    (h3 : ∀ w, Calls Try.prog 12 #[.int .i64 3, .int .i64 m, .int .i64 x] w (GaveP w n e0)) : Calls Try.prog 3 #[.int .i64 x, .int .i64 y] W (True_ W) := by
  have ha := alive_any
  go_enter Try.func3, Try.ntmps3
  go_wp2_with (first
    | (go_at_call 11; (with_reducible refine (ha _).mono ?_); rintro e w1 ⟨rfl, hC1⟩)
    | (go_at_call 12; (with_reducible refine (h1 _).mono ?_); rintro e w2 ⟨rfl, hC2⟩)
    | (go_at_call 12; (with_reducible refine (h2 _).mono ?_); rintro e w3 ⟨rfl, hC3⟩)
    | (go_at_call 12; (with_reducible refine (h3 _).mono ?_); rintro e w4 ⟨rfl, hC4⟩))
  go_ret
  exact ⟨rfl, ((hC1.tr hC2).tr hC3).tr hC4⟩
theorem scalarPowers_walk (x y : Int) (W : World) (hx : (Lit.int .i64 x).wf = true) (hy : (Lit.int .i64 y).wf = true) : Calls Try.prog 3 #[.int .i64 x, .int .i64 y] W (True_ W) := by
  have ix : In x := wf_i64' hx
  have iy : In y := wf_i64' hy
  by_cases h : y < 1
  · exact powers_small x y W (decide_eq_true h)
  have iz : In (y - 1) := by unfold In at *; omega
  have t1 := fun w => two_8 x y _ _ w (pow_any x y ix iy)
  have t2 := fun w => two_8 x (y - 1) _ _ w (pow_any x (y - 1) ix iz)
  rcases powers_plain x y (by omega) with ⟨h1, h2⟩ | ⟨h1, h2, h3, h4⟩
  · rw [h2] at t1
    rw [h1] at t2
    exact powers_over x y (y - 1) _ _ W (decide_eq_false h) (w64 _ iz) t1 t2
  · have t3 := fun w => two_3 (powN x (y - 1)) x _ _ w (mul_any _ x h4 ix)
    rw [h1] at t2
    rw [h2, h3] at t1
    exact powers_main x y (y - 1) _ _ _ W (decide_eq_false h) (w64 _ iz) t1 t2 t3
end Go.Proofs.Ytachmmicdjmjkaa
