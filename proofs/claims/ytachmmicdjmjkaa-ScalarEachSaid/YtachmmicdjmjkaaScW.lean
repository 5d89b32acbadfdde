/- The functions of numbers: the chapter's first examples; One. -/
import Derived.Test.YtachmmicdjmjkaaScT
namespace Go.Proofs.Ytachmmicdjmjkaa
open Go.RowKit

def True_ (w : World) (e : Ending) (w' : World) : Prop := e = .returned (.bool true) ∧ Chg (fun _ => False) w w'
theorem is_yes (f x y n : Int) (w : World) (h : ∀ w, Calls Try.prog 12 #[.int .i64 f, .int .i64 x, .int .i64 y] w (GaveP w n 0)) : Calls Try.prog 32 #[.int .i64 f, .int .i64 x, .int .i64 y, .int .i64 n] w (True_ w) := by
  go_enter Try.func32, Try.ntmps32
  go_wp2_with fail
  refine (h _).mono ?_
  rintro e w' ⟨rfl, hC⟩
  go_wp2
  go_ret
  exact ⟨rfl, hC⟩
theorem alive_any (w : World) : Calls Try.prog 11 #[] w (True_ w) := by
  have i1 : ∀ w, Calls Try.prog 32 #[.int .i64 4, .int .i64 (-7), .int .i64 2, .int .i64 (-4)] w (True_ w) := fun w => is_yes _ _ _ _ w (fun w => two_4 _ _ _ _ w (fun w => div_any (-7) 2 (by unfold In; decide) (by unfold In; decide) w))
  have i2 : ∀ w, Calls Try.prog 32 #[.int .i64 5, .int .i64 2, .int .i64 (-7), .int .i64 1] w (True_ w) := fun w => is_yes _ _ _ _ w (fun w => two_5 _ _ _ _ w (fun w => rem_any 2 (-7) (by unfold In; decide) w))
  have i3 : ∀ w, Calls Try.prog 32 #[.int .i64 5, .int .i64 (-2), .int .i64 7, .int .i64 (-1)] w (True_ w) := fun w => is_yes _ _ _ _ w (fun w => two_5 _ _ _ _ w (fun w => rem_any (-2) 7 (by unfold In; decide) w))
  have i4 : ∀ w, Calls Try.prog 32 #[.int .i64 5, .int .i64 0, .int .i64 5, .int .i64 5] w (True_ w) := fun w => is_yes _ _ _ _ w (fun w => two_5 _ _ _ _ w (fun w => rem_any 0 5 (by unfold In; decide) w))
  have i5 : ∀ w, Calls Try.prog 32 #[.int .i64 8, .int .i64 (-2), .int .i64 63, .int .i64 (-9223372036854775808)] w (True_ w) := fun w => is_yes _ _ _ _ w (fun w => two_8 _ _ _ _ w (fun w => pow_any (-2) 63 (by unfold In; decide) (by unfold In; decide) w))
  go_enter Try.func11, Try.ntmps11
  go_wp2_with (first
    | (go_at_call 32; (with_reducible refine (i1 _).mono ?_); rintro e w1 ⟨rfl, hC1⟩)
    | (go_at_call 32; (with_reducible refine (i2 _).mono ?_); rintro e w2 ⟨rfl, hC2⟩)
    | (go_at_call 32; (with_reducible refine (i3 _).mono ?_); rintro e w3 ⟨rfl, hC3⟩)
    | (go_at_call 32; (with_reducible refine (i4 _).mono ?_); rintro e w4 ⟨rfl, hC4⟩)
    | (go_at_call 32; (with_reducible refine (i5 _).mono ?_); rintro e w5 ⟨rfl, hC5⟩))
  go_ret
  exact ⟨rfl, (((hC1.tr hC2).tr hC3).tr hC4).tr hC5⟩

theorem one_2 (y : Int) (hy : In y) (w : World) : Calls Try.prog 18 #[.int .i64 2, .int .i64 y] w (GaveP w (fitN (-y)) (fitE (-y))) := by
  have h := sub_any 0 y (by unfold In; decide) hy
  rw [show 0 - y = -y by omega] at h
  generalize fitN (-y) = a at *
  generalize fitE (-y) = b at *
  go_enter Try.func18, Try.ntmps18
  go_wp2_with (go_at_call 36; (with_reducible refine (h _).mono ?_); rintro e w1 ⟨rfl, hC1⟩)
  go_ret2
  exact ⟨rfl, hC1⟩
def sgnN (y : Int) : Int := max (-1) (min 1 y)
theorem one_3 (y : Int) (w : World) : Calls Try.prog 18 #[.int .i64 3, .int .i64 y] w (GaveP w (sgnN y) 0) := by
  obtain ⟨s, hs⟩ : ∃ s, sgnN y = s := ⟨_, rfl⟩
  unfold sgnN at *
  rw [hs]
  go_enter Try.func18, Try.ntmps18
  go_wp2
  all_goals
    rename_i h0
    first
      | rw [if_pos h] at h0
      | rw [if_neg (by omega)] at h0
    first
      | rw [show s = y by omega]
      | rw [show s = 1 by omega]
      | rw [show s = -1 by omega]
    go_ret2
    exact ⟨rfl, Chg.refl _ _⟩
theorem one_5 (y : Int) (hy : In y) (w : World) : Calls Try.prog 18 #[.int .i64 5, .int .i64 y] w (GaveP w (fitN (y.natAbs : Int)) (fitE (y.natAbs : Int))) := by
  have h1 := size_any y hy
  have h2 := fun w => signed_pos y.natAbs w (by unfold In at hy; omega)
  generalize fitN (y.natAbs : Int) = a at *
  generalize fitE (y.natAbs : Int) = b at *
  generalize y.natAbs = n at *
  go_enter Try.func18, Try.ntmps18
  go_wp2_with (first
    | (go_at_call 38; (with_reducible refine (h1 _).mono ?_); rintro e w' ⟨rfl, rfl⟩)
    | (go_at_call 37; (with_reducible refine (h2 _).mono ?_); rintro e w' ⟨rfl, hC⟩))
  go_ret2
  exact ⟨rfl, hC⟩
theorem one_17y (y : Int) (h : (y / 2 == 0) = true) (hw : wrap64 (1 - y) = 1 - y) (w : World) : Calls Try.prog 18 #[.int .i64 17, .int .i64 y] w (GaveP w (1 - y) 0) := by
  go_enter Try.func18, Try.ntmps18
  go_wp2
  rw [hw]
  go_ret2
  exact ⟨rfl, Chg.refl _ _⟩
theorem one_17n (y : Int) (h : (y / 2 == 0) = false) (w : World) : Calls Try.prog 18 #[.int .i64 17, .int .i64 y] w (GaveP w 0 5) := by
  go_enter Try.func18, Try.ntmps18
  go_wp2
  go_ret2
  exact ⟨rfl, Chg.refl _ _⟩
end Go.Proofs.Ytachmmicdjmjkaa
