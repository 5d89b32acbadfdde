/- ScalarRest's walk. -/
import Derived.Test.YtachmmicdjmjkaaScW
namespace Go.Proofs.Ytachmmicdjmjkaa
open Go.RowKit

theorem rest_over1 (x y k p : Int) (W : World) (h1 : ∀ w, Calls Try.prog 12 #[.int .i64 3, .int .i64 x, .int .i64 k] w (GaveP w p 7)) : Calls Try.prog 5 #[.int .i64 x, .int .i64 y, .int .i64 k] W (True_ W) := by
  have ha := alive_any
  go_enter Try.func5, Try.ntmps5
  go_wp2_with (first
    | (go_at_call 11; (with_reducible refine (ha _).mono ?_); rintro e w1 ⟨rfl, hC1⟩)
    | (go_at_call 12; (with_reducible refine (h1 _).mono ?_); rintro e w2 ⟨rfl, hC2⟩))
  go_ret
  exact ⟨rfl, hC1.tr hC2⟩
theorem rest_over2 (x y k p z : Int) (W : World) (h1 : ∀ w, Calls Try.prog 12 #[.int .i64 3, .int .i64 x, .int .i64 k] w (GaveP w p 0)) (h2 : ∀ w, Calls Try.prog 12 #[.int .i64 1, .int .i64 y, .int .i64 p] w (GaveP w z 7)) : Calls Try.prog 5 #[.int .i64 x, .int .i64 y, .int .i64 k] W (True_ W) := by
  have ha := alive_any
  go_enter Try.func5, Try.ntmps5
  go_wp2_with (first
    | (go_at_call 11; (with_reducible refine (ha _).mono ?_); rintro e w1 ⟨rfl, hC1⟩)
    | (go_at_call 12; (with_reducible refine (h1 _).mono ?_); rintro e w2 ⟨rfl, hC2⟩)
    | (go_at_call 12; (with_reducible refine (h2 _).mono ?_); rintro e w3 ⟨rfl, hC3⟩))
  go_ret
  exact ⟨rfl, (hC1.tr hC2).tr hC3⟩
theorem rest_main (x y k p z a : Int) (W : World) (h1 : ∀ w, Calls Try.prog 12 #[.int .i64 3, .int .i64 x, .int .i64 k] w (GaveP w p 0)) (h2 : ∀ w, Calls Try.prog 12 #[.int .i64 1, .int .i64 y, .int .i64 p] w (GaveP w z 0))
    (h3 : ∀ w, Calls Try.prog 12 #[.int .i64 5, .int .i64 x, .int .i64 y] w (GaveP w a 0)) (h4 : ∀ w, Calls Try.prog 12 #[.int .i64 5, .int .i64 x, .int .i64 z] w (GaveP w a 0)) : Calls Try.prog 5 #[.int .i64 x, .int .i64 y, .int .i64 k] W (True_ W) := by
  have ha := alive_any
  go_enter Try.func5, Try.ntmps5
  go_wp2_with (first
    | (go_at_call 11; (with_reducible refine (ha _).mono ?_); rintro e w1 ⟨rfl, hC1⟩)
    | (go_at_call 12; (with_reducible refine (h1 _).mono ?_); rintro e w2 ⟨rfl, hC2⟩)
    | (go_at_call 12; (with_reducible refine (h2 _).mono ?_); rintro e w3 ⟨rfl, hC3⟩)
    | (go_at_call 12; (with_reducible refine (h3 _).mono ?_); rintro e w4 ⟨rfl, hC4⟩)
    | (go_at_call 12; (with_reducible refine (h4 _).mono ?_); rintro e w5 ⟨rfl, hC5⟩))
  go_ret
  exact ⟨rfl, (((hC1.tr hC2).tr hC3).tr hC4).tr hC5⟩
theorem scalarRest_walk (x y k : Int) (W : World) (hx : (Lit.int .i64 x).wf = true) (hy : (Lit.int .i64 y).wf = true) (hk : (Lit.int .i64 k).wf = true) : Calls Try.prog 5 #[.int .i64 x, .int .i64 y, .int .i64 k] W (True_ W) := by
  have ix : In x := wf_i64' hx
  have iy : In y := wf_i64' hy
  have ik : In k := wf_i64' hk
  have t1 := fun w => two_3 x k _ _ w (mul_any x k ix ik)
  by_cases h1 : In (x * k)
  · rw [fitE_in h1, fitN_in h1] at t1
    have t2 := fun w => two_1 y (x * k) _ _ w (add_any y (x * k) iy h1)
    by_cases h2 : In (y + x * k)
    · rw [fitE_in h2, fitN_in h2] at t2
      have t3 := fun w => two_5 x y _ _ w (rem_any x y ix)
      have t4 := fun w => two_5 x (y + x * k) _ _ w (rem_any x (y + x * k) ix)
      have e : remN x (y + x * k) = remN x y := by
        unfold remN
        by_cases h0 : x = 0
        · rw [if_pos h0, if_pos h0, h0, Int.zero_mul, Int.add_zero]
        · rw [if_neg h0, if_neg h0, Int.add_mul_fmod_self_left]
      rw [e] at t4
      exact rest_main x y k _ _ _ W t1 t2 t3 t4
    · rw [fitE_out h2] at t2
      exact rest_over2 x y k _ _ W t1 t2
  · rw [fitE_out h1] at t1
    exact rest_over1 x y k _ W t1
end Go.Proofs.Ytachmmicdjmjkaa
