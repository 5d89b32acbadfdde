/- ScalarSigns' walk. -/
import Derived.Test.YtachmmicdjmjkaaScW
namespace Go.Proofs.Ytachmmicdjmjkaa
open Go.RowKit

theorem signs_min (y t n a : Int) (W : World) (h1 : ∀ w, Calls Try.prog 18 #[.int .i64 3, .int .i64 (-9223372036854775808)] w (GaveP w (-1) 0)) (h2 : ∀ w, Calls Try.prog 18 #[.int .i64 3, .int .i64 y] w (GaveP w t 0))
    (h3 : ∀ w, Calls Try.prog 18 #[.int .i64 5, .int .i64 (-9223372036854775808)] w (GaveP w a 7)) (h4 : ∀ w, Calls Try.prog 18 #[.int .i64 2, .int .i64 (-9223372036854775808)] w (GaveP w n 7)) : Calls Try.prog 7 #[.int .i64 (-9223372036854775808), .int .i64 y] W (True_ W) := by
  have ha := alive_any
  go_enter Try.func7, Try.ntmps7
  go_wp2_with (first
    | (go_at_call 11; (with_reducible refine (ha _).mono ?_); rintro e w1 ⟨rfl, hC1⟩)
    | (go_at_call 18; (with_reducible refine (h1 _).mono ?_); rintro e w2 ⟨rfl, hC2⟩)
    | (go_at_call 18; (with_reducible refine (h2 _).mono ?_); rintro e w3 ⟨rfl, hC3⟩)
    | (go_at_call 18; (with_reducible refine (h3 _).mono ?_); rintro e w4 ⟨rfl, hC4⟩)
    | (go_at_call 18; (with_reducible refine (h4 _).mono ?_); rintro e w5 ⟨rfl, hC5⟩))
  go_ret
  exact ⟨rfl, (((hC1.tr hC2).tr hC3).tr hC4).tr hC5⟩
theorem signs_over (x y s t a n p e0 : Int) (zb pb : Bool) (W : World) (hm : (x == -9223372036854775808) = false) (hs1 : decide (s < -1) = false) (hs2 : decide (1 < s) = false) (hz1 : (s == 0) = zb) (hz2 : (x == 0) = zb) (hp1 : (s == 1) = pb) (hp2 : decide (0 < x) = pb) (ha0 : decide (a < 0) = false)
    (h1 : ∀ w, Calls Try.prog 18 #[.int .i64 3, .int .i64 x] w (GaveP w s 0)) (h2 : ∀ w, Calls Try.prog 18 #[.int .i64 3, .int .i64 y] w (GaveP w t 0))
    (h3 : ∀ w, Calls Try.prog 18 #[.int .i64 5, .int .i64 x] w (GaveP w a 0)) (h4 : ∀ w, Calls Try.prog 18 #[.int .i64 2, .int .i64 x] w (GaveP w n 0)) (h5 : ∀ w, Calls Try.prog 18 #[.int .i64 2, .int .i64 n] w (GaveP w x 0)) (h6 : ∀ w, Calls Try.prog 12 #[.int .i64 3, .int .i64 s, .int .i64 a] w (GaveP w x 0))
    (h7 : ∀ w, Calls Try.prog 12 #[.int .i64 3, .int .i64 x, .int .i64 y] w (GaveP w p e0)) (he : (e0 != 0) = true) : Calls Try.prog 7 #[.int .i64 x, .int .i64 y] W (True_ W) := by
  have ha := alive_any
  go_enter Try.func7, Try.ntmps7
  go_wp2_with (first
    | (go_at_call 11; (with_reducible refine (ha _).mono ?_); rintro e w1 ⟨rfl, hC1⟩)
    | (go_at_call 18; (with_reducible refine (h1 _).mono ?_); rintro e w2 ⟨rfl, hC2⟩)
    | (go_at_call 18; (with_reducible refine (h2 _).mono ?_); rintro e w3 ⟨rfl, hC3⟩)
    | (go_at_call 18; (with_reducible refine (h3 _).mono ?_); rintro e w4 ⟨rfl, hC4⟩)
    | (go_at_call 18; (with_reducible refine (h4 _).mono ?_); rintro e w5 ⟨rfl, hC5⟩)
    | (go_at_call 18; (with_reducible refine (h5 _).mono ?_); rintro e w6 ⟨rfl, hC6⟩)
    | (go_at_call 12; (with_reducible refine (h6 _).mono ?_); rintro e w7 ⟨rfl, hC7⟩)
    | (go_at_call 12; (with_reducible refine (h7 _).mono ?_); rintro e w8 ⟨rfl, hC8⟩)
    | (go_at_call 18; (with_reducible refine (h8 _).mono ?_); rintro e w9 ⟨rfl, hC9⟩))
  go_ret
  exact ⟨rfl, ((((((hC1.tr hC2).tr hC3).tr hC4).tr hC5).tr hC6).tr hC7).tr hC8⟩
theorem signs_main (x y s t a n p u e0 : Int) (zb pb : Bool) (W : World) (hm : (x == -9223372036854775808) = false) (hs1 : decide (s < -1) = false) (hs2 : decide (1 < s) = false) (hz1 : (s == 0) = zb) (hz2 : (x == 0) = zb) (hp1 : (s == 1) = pb) (hp2 : decide (0 < x) = pb) (ha0 : decide (a < 0) = false)
    (h1 : ∀ w, Calls Try.prog 18 #[.int .i64 3, .int .i64 x] w (GaveP w s 0)) (h2 : ∀ w, Calls Try.prog 18 #[.int .i64 3, .int .i64 y] w (GaveP w t 0))
    (h3 : ∀ w, Calls Try.prog 18 #[.int .i64 5, .int .i64 x] w (GaveP w a 0)) (h4 : ∀ w, Calls Try.prog 18 #[.int .i64 2, .int .i64 x] w (GaveP w n 0)) (h5 : ∀ w, Calls Try.prog 18 #[.int .i64 2, .int .i64 n] w (GaveP w x 0)) (h6 : ∀ w, Calls Try.prog 12 #[.int .i64 3, .int .i64 s, .int .i64 a] w (GaveP w x 0))
    (h7 : ∀ w, Calls Try.prog 12 #[.int .i64 3, .int .i64 x, .int .i64 y] w (GaveP w p e0)) (he : e0 = 0) (h8 : ∀ w, Calls Try.prog 18 #[.int .i64 3, .int .i64 p] w (GaveP w u 0)) (hu : wrap64 (s * t) = u) : Calls Try.prog 7 #[.int .i64 x, .int .i64 y] W (True_ W) := by
  have ha := alive_any
  go_enter Try.func7, Try.ntmps7
  go_wp2_with (first
    | (go_at_call 11; (with_reducible refine (ha _).mono ?_); rintro e w1 ⟨rfl, hC1⟩)
    | (go_at_call 18; (with_reducible refine (h1 _).mono ?_); rintro e w2 ⟨rfl, hC2⟩)
    | (go_at_call 18; (with_reducible refine (h2 _).mono ?_); rintro e w3 ⟨rfl, hC3⟩)
    | (go_at_call 18; (with_reducible refine (h3 _).mono ?_); rintro e w4 ⟨rfl, hC4⟩)
    | (go_at_call 18; (with_reducible refine (h4 _).mono ?_); rintro e w5 ⟨rfl, hC5⟩)
    | (go_at_call 18; (with_reducible refine (h5 _).mono ?_); rintro e w6 ⟨rfl, hC6⟩)
    | (go_at_call 12; (with_reducible refine (h6 _).mono ?_); rintro e w7 ⟨rfl, hC7⟩)
    | (go_at_call 12; (with_reducible refine (h7 _).mono ?_); rintro e w8 ⟨rfl, hC8⟩)
    | (go_at_call 18; (with_reducible refine (h8 _).mono ?_); rintro e w9 ⟨rfl, hC9⟩))
  go_ret
  exact ⟨rfl, (((((((hC1.tr hC2).tr hC3).tr hC4).tr hC5).tr hC6).tr hC7).tr hC8).tr hC9⟩
theorem sgn_cases (x : Int) : (x < 0 ∧ sgnN x = -1) ∨ (x = 0 ∧ sgnN x = 0) ∨ (0 < x ∧ sgnN x = 1) := by unfold sgnN; omega
theorem sgn_mul (x y : Int) : sgnN x * sgnN y = sgnN (x * y) := by
  obtain ⟨h1, h2, h3, h4⟩ := mul_sgn x y
  have h0 := Int.natAbs_mul x y
  have hp : ¬ x = 0 → ¬ y = 0 → 0 < (x * y).natAbs := fun a b => by rw [h0]; exact Nat.mul_pos (by omega) (by omega)
  rcases sgn_cases x with ⟨a, e⟩ | ⟨a, e⟩ | ⟨a, e⟩ <;> rcases sgn_cases y with ⟨b, f⟩ | ⟨b, f⟩ | ⟨b, f⟩
  · rw [e, f]; have := hp (by omega) (by omega); have := h1 a b; unfold sgnN; omega
  · rw [e, f, b, Int.mul_zero, Int.mul_zero]; rfl
  · rw [e, f]; have := hp (by omega) (by omega); have := h3 a (by omega); unfold sgnN; omega
  · rw [e, f, a, Int.zero_mul, Int.zero_mul]; rfl
  · rw [e, f, a, Int.zero_mul, Int.zero_mul]; rfl
  · rw [e, f, a, Int.zero_mul, Int.zero_mul]; rfl
  · rw [e, f]; have := hp (by omega) (by omega); have := h4 (by omega) b; unfold sgnN; omega
  · rw [e, f, b, Int.mul_zero, Int.mul_zero]; rfl
  · rw [e, f]; have := hp (by omega) (by omega); have := h2 (by omega) (by omega); unfold sgnN; omega
theorem sgn_abs (x : Int) : sgnN x * (x.natAbs : Int) = x := by
  rcases sgn_cases x with ⟨a, e⟩ | ⟨a, e⟩ | ⟨a, e⟩ <;> rw [e] <;> omega
theorem scalarSigns_walk (x y : Int) (W : World) (hx : (Lit.int .i64 x).wf = true) (hy : (Lit.int .i64 y).wf = true) : Calls Try.prog 7 #[.int .i64 x, .int .i64 y] W (True_ W) := by
  have ix : In x := wf_i64' hx
  have iy : In y := wf_i64' hy
  have t1 := one_3 x
  have t2 := one_3 y
  have t3 := one_5 x ix
  have t4 := one_2 x ix
  by_cases hm : x = -9223372036854775808
  · subst hm
    exact signs_min y _ _ _ W t1 t2 t3 t4
  have ia : In (x.natAbs : Int) := by unfold In at *; omega
  have im : In (-x) := by unfold In at *; omega
  have is : In (sgnN x) := by unfold In sgnN; omega
  have t5 := one_2 (-x) im
  have t6 := fun w => two_3 (sgnN x) (x.natAbs : Int) _ _ w (mul_any _ _ is ia)
  have t7 := fun w => two_3 x y _ _ w (mul_any x y ix iy)
  rw [sgn_abs, fitN_in ix, fitE_in ix] at t6
  rw [Int.neg_neg, fitN_in ix, fitE_in ix] at t5
  rw [fitN_in ia, fitE_in ia] at t3
  rw [fitN_in im, fitE_in im] at t4
  have hs := sgn_cases x
  have f1 : decide (sgnN x < -1) = false := decide_eq_false (by omega)
  have f2 : decide (1 < sgnN x) = false := decide_eq_false (by omega)
  have f3 : (x == 0) = (sgnN x == 0) := by
    by_cases h : x = 0
    · rw [beq_iff_eq.2 h, beq_iff_eq.2 (by omega)]
    · rw [beq_eq_false_iff_ne.2 h, beq_eq_false_iff_ne.2 (by omega)]
  have f4 : decide (0 < x) = (sgnN x == 1) := by
    by_cases h : 0 < x
    · rw [decide_eq_true h, beq_iff_eq.2 (by omega)]
    · rw [decide_eq_false h, beq_eq_false_iff_ne.2 (by omega)]
  have f5 : decide ((x.natAbs : Int) < 0) = false := decide_eq_false (by omega)
  have fm : (x == -9223372036854775808) = false := beq_eq_false_iff_ne.2 hm
  by_cases ip : In (x * y)
  · have t8 := one_3 (x * y)
    rw [fitN_in ip, fitE_in ip] at t7
    exact signs_main x y _ _ _ _ _ _ _ _ _ W fm f1 f2 rfl f3 rfl f4 f5 t1 t2 t3 t4 t5 t6 t7 rfl t8 (by rw [sgn_mul]; exact w64 _ (by unfold In sgnN; omega))
  · rw [fitE_out ip] at t7
    exact signs_over x y _ _ _ _ _ _ _ _ W fm f1 f2 rfl f3 rfl f4 f5 t1 t2 t3 t4 t5 t6 t7 (by decide)
end Go.Proofs.Ytachmmicdjmjkaa
