/- ScalarTruths' walk. -/
import Derived.Test.YtachmmicdjmjkaaScW
namespace Go.Proofs.Ytachmmicdjmjkaa
open Go.RowKit

set_option maxRecDepth 100000 in
theorem truths_nn (x : Int) (y : Int) (W : World) (a1 : (x == 0) = false) (a2 : (x == 1) = false) (b1 : (y == 0) = false) (b2 : (y == 1) = false) (h1 : ∀ w, Calls Try.prog 12 #[.int .i64 15, .int .i64 x, .int .i64 y] w (GaveP w 0 5)) (h2 : ∀ w, Calls Try.prog 12 #[.int .i64 16, .int .i64 x, .int .i64 y] w (GaveP w 0 5)) (h3 : ∀ w, Calls Try.prog 18 #[.int .i64 17, .int .i64 x] w (GaveP w 0 5)) (h4 : ∀ w, Calls Try.prog 18 #[.int .i64 17, .int .i64 y] w (GaveP w 0 5)) : Calls Try.prog 8 #[.int .i64 x, .int .i64 y] W (True_ W) := by
  have ha := alive_any
  go_enter Try.func8, Try.ntmps8
  go_wp2_with fail
  refine (ha _).mono ?_
  rintro e w1 ⟨rfl, hC1⟩
  go_wp2_with fail
  refine (h1 _).mono ?_
  rintro e w2 ⟨rfl, hC2⟩
  go_wp2_with fail
  refine (h2 _).mono ?_
  rintro e w3 ⟨rfl, hC3⟩
  go_wp2_with fail
  refine (h3 _).mono ?_
  rintro e w4 ⟨rfl, hC4⟩
  go_wp2_with fail
  refine (h4 _).mono ?_
  rintro e w5 ⟨rfl, hC5⟩
  go_wp2
  go_ret
  exact ⟨rfl, ((((hC1).tr hC2).tr hC3).tr hC4).tr hC5⟩
set_option maxRecDepth 100000 in
theorem truths_n0 (x : Int) (W : World) (a1 : (x == 0) = false) (a2 : (x == 1) = false) (h1 : ∀ w, Calls Try.prog 12 #[.int .i64 15, .int .i64 x, .int .i64 0] w (GaveP w 0 5)) (h2 : ∀ w, Calls Try.prog 12 #[.int .i64 16, .int .i64 x, .int .i64 0] w (GaveP w 0 5)) (h3 : ∀ w, Calls Try.prog 18 #[.int .i64 17, .int .i64 x] w (GaveP w 0 5)) (h4 : ∀ w, Calls Try.prog 18 #[.int .i64 17, .int .i64 0] w (GaveP w 1 0)) : Calls Try.prog 8 #[.int .i64 x, .int .i64 0] W (True_ W) := by
  have ha := alive_any
  go_enter Try.func8, Try.ntmps8
  go_wp2_with fail
  refine (ha _).mono ?_
  rintro e w1 ⟨rfl, hC1⟩
  go_wp2_with fail
  refine (h1 _).mono ?_
  rintro e w2 ⟨rfl, hC2⟩
  go_wp2_with fail
  refine (h2 _).mono ?_
  rintro e w3 ⟨rfl, hC3⟩
  go_wp2_with fail
  refine (h3 _).mono ?_
  rintro e w4 ⟨rfl, hC4⟩
  go_wp2_with fail
  refine (h4 _).mono ?_
  rintro e w5 ⟨rfl, hC5⟩
  go_wp2
  go_ret
  exact ⟨rfl, ((((hC1).tr hC2).tr hC3).tr hC4).tr hC5⟩
set_option maxRecDepth 100000 in
theorem truths_n1 (x : Int) (W : World) (a1 : (x == 0) = false) (a2 : (x == 1) = false) (h1 : ∀ w, Calls Try.prog 12 #[.int .i64 15, .int .i64 x, .int .i64 1] w (GaveP w 0 5)) (h2 : ∀ w, Calls Try.prog 12 #[.int .i64 16, .int .i64 x, .int .i64 1] w (GaveP w 0 5)) (h3 : ∀ w, Calls Try.prog 18 #[.int .i64 17, .int .i64 x] w (GaveP w 0 5)) (h4 : ∀ w, Calls Try.prog 18 #[.int .i64 17, .int .i64 1] w (GaveP w 0 0)) : Calls Try.prog 8 #[.int .i64 x, .int .i64 1] W (True_ W) := by
  have ha := alive_any
  go_enter Try.func8, Try.ntmps8
  go_wp2_with fail
  refine (ha _).mono ?_
  rintro e w1 ⟨rfl, hC1⟩
  go_wp2_with fail
  refine (h1 _).mono ?_
  rintro e w2 ⟨rfl, hC2⟩
  go_wp2_with fail
  refine (h2 _).mono ?_
  rintro e w3 ⟨rfl, hC3⟩
  go_wp2_with fail
  refine (h3 _).mono ?_
  rintro e w4 ⟨rfl, hC4⟩
  go_wp2_with fail
  refine (h4 _).mono ?_
  rintro e w5 ⟨rfl, hC5⟩
  go_wp2
  go_ret
  exact ⟨rfl, ((((hC1).tr hC2).tr hC3).tr hC4).tr hC5⟩
set_option maxRecDepth 100000 in
theorem truths_0n (y : Int) (W : World) (b1 : (y == 0) = false) (b2 : (y == 1) = false) (h1 : ∀ w, Calls Try.prog 12 #[.int .i64 15, .int .i64 0, .int .i64 y] w (GaveP w 0 5)) (h2 : ∀ w, Calls Try.prog 12 #[.int .i64 16, .int .i64 0, .int .i64 y] w (GaveP w 0 5)) (h3 : ∀ w, Calls Try.prog 18 #[.int .i64 17, .int .i64 0] w (GaveP w 1 0)) (h4 : ∀ w, Calls Try.prog 18 #[.int .i64 17, .int .i64 y] w (GaveP w 0 5)) : Calls Try.prog 8 #[.int .i64 0, .int .i64 y] W (True_ W) := by
  have ha := alive_any
  go_enter Try.func8, Try.ntmps8
  go_wp2_with fail
  refine (ha _).mono ?_
  rintro e w1 ⟨rfl, hC1⟩
  go_wp2_with fail
  refine (h1 _).mono ?_
  rintro e w2 ⟨rfl, hC2⟩
  go_wp2_with fail
  refine (h2 _).mono ?_
  rintro e w3 ⟨rfl, hC3⟩
  go_wp2_with fail
  refine (h3 _).mono ?_
  rintro e w4 ⟨rfl, hC4⟩
  go_wp2_with fail
  refine (h4 _).mono ?_
  rintro e w5 ⟨rfl, hC5⟩
  go_wp2
  go_ret
  exact ⟨rfl, ((((hC1).tr hC2).tr hC3).tr hC4).tr hC5⟩
set_option maxRecDepth 100000 in
theorem truths_00 (W : World) (h1 : ∀ w, Calls Try.prog 12 #[.int .i64 15, .int .i64 0, .int .i64 0] w (GaveP w 0 0)) (h2 : ∀ w, Calls Try.prog 12 #[.int .i64 16, .int .i64 0, .int .i64 0] w (GaveP w 0 0)) (h3 : ∀ w, Calls Try.prog 18 #[.int .i64 17, .int .i64 0] w (GaveP w 1 0)) (h4 : ∀ w, Calls Try.prog 18 #[.int .i64 17, .int .i64 0] w (GaveP w 1 0)) (h5 : ∀ w, Calls Try.prog 12 #[.int .i64 16, .int .i64 1, .int .i64 1] w (GaveP w 1 0)) (h6 : ∀ w, Calls Try.prog 12 #[.int .i64 15, .int .i64 1, .int .i64 1] w (GaveP w 1 0)) (h7 : ∀ w, Calls Try.prog 18 #[.int .i64 17, .int .i64 1] w (GaveP w 0 0)) : Calls Try.prog 8 #[.int .i64 0, .int .i64 0] W (True_ W) := by
  have ha := alive_any
  go_enter Try.func8, Try.ntmps8
  go_wp2_with fail
  refine (ha _).mono ?_
  rintro e w1 ⟨rfl, hC1⟩
  go_wp2_with fail
  refine (h1 _).mono ?_
  rintro e w2 ⟨rfl, hC2⟩
  go_wp2_with fail
  refine (h2 _).mono ?_
  rintro e w3 ⟨rfl, hC3⟩
  go_wp2_with fail
  refine (h3 _).mono ?_
  rintro e w4 ⟨rfl, hC4⟩
  go_wp2_with fail
  refine (h4 _).mono ?_
  rintro e w5 ⟨rfl, hC5⟩
  go_wp2_with fail
  refine (h5 _).mono ?_
  rintro e w6 ⟨rfl, hC6⟩
  go_wp2_with fail
  refine (h6 _).mono ?_
  rintro e w7 ⟨rfl, hC7⟩
  go_wp2_with fail
  refine (h7 _).mono ?_
  rintro e w8 ⟨rfl, hC8⟩
  go_wp2
  go_ret
  exact ⟨rfl, (((((((hC1).tr hC2).tr hC3).tr hC4).tr hC5).tr hC6).tr hC7).tr hC8⟩
set_option maxRecDepth 100000 in
theorem truths_01 (W : World) (h1 : ∀ w, Calls Try.prog 12 #[.int .i64 15, .int .i64 0, .int .i64 1] w (GaveP w 0 0)) (h2 : ∀ w, Calls Try.prog 12 #[.int .i64 16, .int .i64 0, .int .i64 1] w (GaveP w 1 0)) (h3 : ∀ w, Calls Try.prog 18 #[.int .i64 17, .int .i64 0] w (GaveP w 1 0)) (h4 : ∀ w, Calls Try.prog 18 #[.int .i64 17, .int .i64 1] w (GaveP w 0 0)) (h5 : ∀ w, Calls Try.prog 12 #[.int .i64 16, .int .i64 1, .int .i64 0] w (GaveP w 1 0)) (h6 : ∀ w, Calls Try.prog 12 #[.int .i64 15, .int .i64 1, .int .i64 0] w (GaveP w 0 0)) (h7 : ∀ w, Calls Try.prog 18 #[.int .i64 17, .int .i64 1] w (GaveP w 0 0)) : Calls Try.prog 8 #[.int .i64 0, .int .i64 1] W (True_ W) := by
  have ha := alive_any
  go_enter Try.func8, Try.ntmps8
  go_wp2_with fail
  refine (ha _).mono ?_
  rintro e w1 ⟨rfl, hC1⟩
  go_wp2_with fail
  refine (h1 _).mono ?_
  rintro e w2 ⟨rfl, hC2⟩
  go_wp2_with fail
  refine (h2 _).mono ?_
  rintro e w3 ⟨rfl, hC3⟩
  go_wp2_with fail
  refine (h3 _).mono ?_
  rintro e w4 ⟨rfl, hC4⟩
  go_wp2_with fail
  refine (h4 _).mono ?_
  rintro e w5 ⟨rfl, hC5⟩
  go_wp2_with fail
  refine (h5 _).mono ?_
  rintro e w6 ⟨rfl, hC6⟩
  go_wp2_with fail
  refine (h6 _).mono ?_
  rintro e w7 ⟨rfl, hC7⟩
  go_wp2_with fail
  refine (h7 _).mono ?_
  rintro e w8 ⟨rfl, hC8⟩
  go_wp2
  go_ret
  exact ⟨rfl, (((((((hC1).tr hC2).tr hC3).tr hC4).tr hC5).tr hC6).tr hC7).tr hC8⟩
set_option maxRecDepth 100000 in
theorem truths_1n (y : Int) (W : World) (b1 : (y == 0) = false) (b2 : (y == 1) = false) (h1 : ∀ w, Calls Try.prog 12 #[.int .i64 15, .int .i64 1, .int .i64 y] w (GaveP w 0 5)) (h2 : ∀ w, Calls Try.prog 12 #[.int .i64 16, .int .i64 1, .int .i64 y] w (GaveP w 0 5)) (h3 : ∀ w, Calls Try.prog 18 #[.int .i64 17, .int .i64 1] w (GaveP w 0 0)) (h4 : ∀ w, Calls Try.prog 18 #[.int .i64 17, .int .i64 y] w (GaveP w 0 5)) : Calls Try.prog 8 #[.int .i64 1, .int .i64 y] W (True_ W) := by
  have ha := alive_any
  go_enter Try.func8, Try.ntmps8
  go_wp2_with fail
  refine (ha _).mono ?_
  rintro e w1 ⟨rfl, hC1⟩
  go_wp2_with fail
  refine (h1 _).mono ?_
  rintro e w2 ⟨rfl, hC2⟩
  go_wp2_with fail
  refine (h2 _).mono ?_
  rintro e w3 ⟨rfl, hC3⟩
  go_wp2_with fail
  refine (h3 _).mono ?_
  rintro e w4 ⟨rfl, hC4⟩
  go_wp2_with fail
  refine (h4 _).mono ?_
  rintro e w5 ⟨rfl, hC5⟩
  go_wp2
  go_ret
  exact ⟨rfl, ((((hC1).tr hC2).tr hC3).tr hC4).tr hC5⟩
set_option maxRecDepth 100000 in
theorem truths_10 (W : World) (h1 : ∀ w, Calls Try.prog 12 #[.int .i64 15, .int .i64 1, .int .i64 0] w (GaveP w 0 0)) (h2 : ∀ w, Calls Try.prog 12 #[.int .i64 16, .int .i64 1, .int .i64 0] w (GaveP w 1 0)) (h3 : ∀ w, Calls Try.prog 18 #[.int .i64 17, .int .i64 1] w (GaveP w 0 0)) (h4 : ∀ w, Calls Try.prog 18 #[.int .i64 17, .int .i64 0] w (GaveP w 1 0)) (h5 : ∀ w, Calls Try.prog 12 #[.int .i64 16, .int .i64 0, .int .i64 1] w (GaveP w 1 0)) (h6 : ∀ w, Calls Try.prog 12 #[.int .i64 15, .int .i64 0, .int .i64 1] w (GaveP w 0 0)) (h7 : ∀ w, Calls Try.prog 18 #[.int .i64 17, .int .i64 0] w (GaveP w 1 0)) : Calls Try.prog 8 #[.int .i64 1, .int .i64 0] W (True_ W) := by
  have ha := alive_any
  go_enter Try.func8, Try.ntmps8
  go_wp2_with fail
  refine (ha _).mono ?_
  rintro e w1 ⟨rfl, hC1⟩
  go_wp2_with fail
  refine (h1 _).mono ?_
  rintro e w2 ⟨rfl, hC2⟩
  go_wp2_with fail
  refine (h2 _).mono ?_
  rintro e w3 ⟨rfl, hC3⟩
  go_wp2_with fail
  refine (h3 _).mono ?_
  rintro e w4 ⟨rfl, hC4⟩
  go_wp2_with fail
  refine (h4 _).mono ?_
  rintro e w5 ⟨rfl, hC5⟩
  go_wp2_with fail
  refine (h5 _).mono ?_
  rintro e w6 ⟨rfl, hC6⟩
  go_wp2_with fail
  refine (h6 _).mono ?_
  rintro e w7 ⟨rfl, hC7⟩
  go_wp2_with fail
  refine (h7 _).mono ?_
  rintro e w8 ⟨rfl, hC8⟩
  go_wp2
  go_ret
  exact ⟨rfl, (((((((hC1).tr hC2).tr hC3).tr hC4).tr hC5).tr hC6).tr hC7).tr hC8⟩
set_option maxRecDepth 100000 in
theorem truths_11 (W : World) (h1 : ∀ w, Calls Try.prog 12 #[.int .i64 15, .int .i64 1, .int .i64 1] w (GaveP w 1 0)) (h2 : ∀ w, Calls Try.prog 12 #[.int .i64 16, .int .i64 1, .int .i64 1] w (GaveP w 1 0)) (h3 : ∀ w, Calls Try.prog 18 #[.int .i64 17, .int .i64 1] w (GaveP w 0 0)) (h4 : ∀ w, Calls Try.prog 18 #[.int .i64 17, .int .i64 1] w (GaveP w 0 0)) (h5 : ∀ w, Calls Try.prog 12 #[.int .i64 16, .int .i64 0, .int .i64 0] w (GaveP w 0 0)) (h6 : ∀ w, Calls Try.prog 12 #[.int .i64 15, .int .i64 0, .int .i64 0] w (GaveP w 0 0)) (h7 : ∀ w, Calls Try.prog 18 #[.int .i64 17, .int .i64 0] w (GaveP w 1 0)) : Calls Try.prog 8 #[.int .i64 1, .int .i64 1] W (True_ W) := by
  have ha := alive_any
  go_enter Try.func8, Try.ntmps8
  go_wp2_with fail
  refine (ha _).mono ?_
  rintro e w1 ⟨rfl, hC1⟩
  go_wp2_with fail
  refine (h1 _).mono ?_
  rintro e w2 ⟨rfl, hC2⟩
  go_wp2_with fail
  refine (h2 _).mono ?_
  rintro e w3 ⟨rfl, hC3⟩
  go_wp2_with fail
  refine (h3 _).mono ?_
  rintro e w4 ⟨rfl, hC4⟩
  go_wp2_with fail
  refine (h4 _).mono ?_
  rintro e w5 ⟨rfl, hC5⟩
  go_wp2_with fail
  refine (h5 _).mono ?_
  rintro e w6 ⟨rfl, hC6⟩
  go_wp2_with fail
  refine (h6 _).mono ?_
  rintro e w7 ⟨rfl, hC7⟩
  go_wp2_with fail
  refine (h7 _).mono ?_
  rintro e w8 ⟨rfl, hC8⟩
  go_wp2
  go_ret
  exact ⟨rfl, (((((((hC1).tr hC2).tr hC3).tr hC4).tr hC5).tr hC6).tr hC7).tr hC8⟩
theorem not_n (y : Int) (h0 : ¬ y = 0) (h1 : ¬ y = 1) (w : World) : Calls Try.prog 18 #[.int .i64 17, .int .i64 y] w (GaveP w 0 5) := one_17n y (beq_eq_false_iff_ne.2 (by omega)) w
theorem not_0 (w : World) : Calls Try.prog 18 #[.int .i64 17, .int .i64 0] w (GaveP w 1 0) := one_17y 0 rfl (w64 _ (by unfold In; decide)) w
theorem not_1 (w : World) : Calls Try.prog 18 #[.int .i64 17, .int .i64 1] w (GaveP w 0 0) := one_17y 1 rfl (w64 _ (by unfold In; decide)) w
theorem in_0 : In 0 := by unfold In; decide
theorem scalarTruths_walk (x y : Int) (W : World) (hx : (Lit.int .i64 x).wf = true) (hy : (Lit.int .i64 y).wf = true) : Calls Try.prog 8 #[.int .i64 x, .int .i64 y] W (True_ W) := by
  have ix : In x := wf_i64' hx
  have iy : In y := wf_i64' hy
  have hn : (¬ x = 0 ∧ ¬ x = 1) ∨ (¬ y = 0 ∧ ¬ y = 1) → flagsB x y = false := by
    intro h
    cases hf : flagsB x y with
    | false => rfl
    | true => have := flags_cases hf; omega
  have ez : flagsB x y = false → andN x y = 0 ∧ orN x y = 0 ∧ logE x y = 5 := fun h => by unfold andN orN logE; rw [h]; exact ⟨rfl, rfl, rfl⟩
  have ta : ∀ u v : Int, In u → In v → ∀ w, Calls Try.prog 12 #[.int .i64 15, .int .i64 u, .int .i64 v] w (GaveP w (andN u v) (logE u v)) := fun u v hu hv w => two_15 u v _ _ w (and_any u v hu hv)
  have to : ∀ u v : Int, In u → In v → ∀ w, Calls Try.prog 12 #[.int .i64 16, .int .i64 u, .int .i64 v] w (GaveP w (orN u v) (logE u v)) := fun u v hu hv w => two_16 u v _ _ w (or_any u v hu hv)
  have t1 := ta x y ix iy
  have t2 := to x y ix iy
  by_cases x0 : x = 0
  · subst x0
    by_cases y0 : y = 0
    · subst y0; exact truths_00 W t1 t2 not_0 not_0 (to 1 1 one_in one_in) (ta 1 1 one_in one_in) not_1
    by_cases y1 : y = 1
    · subst y1; exact truths_01 W t1 t2 not_0 not_1 (to 1 0 one_in in_0) (ta 1 0 one_in in_0) not_1
    obtain ⟨e1, e2, e3⟩ := ez (hn (by omega))
    rw [e1, e3] at t1
    rw [e2, e3] at t2
    exact truths_0n y W (beq_eq_false_iff_ne.2 y0) (beq_eq_false_iff_ne.2 y1) t1 t2 not_0 (not_n y y0 y1)
  by_cases x1 : x = 1
  · subst x1
    by_cases y0 : y = 0
    · subst y0; exact truths_10 W t1 t2 not_1 not_0 (to 0 1 in_0 one_in) (ta 0 1 in_0 one_in) not_0
    by_cases y1 : y = 1
    · subst y1; exact truths_11 W t1 t2 not_1 not_1 (to 0 0 in_0 in_0) (ta 0 0 in_0 in_0) not_0
    obtain ⟨e1, e2, e3⟩ := ez (hn (by omega))
    rw [e1, e3] at t1
    rw [e2, e3] at t2
    exact truths_1n y W (beq_eq_false_iff_ne.2 y0) (beq_eq_false_iff_ne.2 y1) t1 t2 not_1 (not_n y y0 y1)
  obtain ⟨e1, e2, e3⟩ := ez (hn (by omega))
  rw [e1, e3] at t1
  rw [e2, e3] at t2
  by_cases y0 : y = 0
  · subst y0; exact truths_n0 x W (beq_eq_false_iff_ne.2 x0) (beq_eq_false_iff_ne.2 x1) t1 t2 (not_n x x0 x1) not_0
  by_cases y1 : y = 1
  · subst y1; exact truths_n1 x W (beq_eq_false_iff_ne.2 x0) (beq_eq_false_iff_ne.2 x1) t1 t2 (not_n x x0 x1) not_1
  exact truths_nn x y W (beq_eq_false_iff_ne.2 x0) (beq_eq_false_iff_ne.2 x1) (beq_eq_false_iff_ne.2 y0) (beq_eq_false_iff_ne.2 y1) t1 t2 (not_n x x0 x1) (not_n y y0 y1)
end Go.Proofs.Ytachmmicdjmjkaa
