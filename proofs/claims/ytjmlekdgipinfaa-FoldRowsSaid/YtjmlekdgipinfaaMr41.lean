/- The document's functions of two numbers: identities, kinds, mixed. -/
import Derived.Test.YtjmlekdgipinfaaMr40
import Derived.Test.YtjmlekdgipinfaaMr32
namespace Go.Proofs.Ytjmlekdgipinfaa
open Go.RowKit Go.Shelf
theorem r12ident_any (f : Int) (w : World) : Calls Try.prog 65 #[.int .i64 f] w (GaveP w (idP f).1 (idP f).2) := by
  cases hb : binB f with
  | false =>
    have h1 : f < 1 ∨ 16 < f := by
      have : ¬ (1 ≤ f ∧ f ≤ 16) := fun q => by rw [binB_iff.2 q] at hb; cases hb
      omega
    rw [show idP f = (0, 2) by unfold idP; rw [hb]; rfl]
    have n1 : (f == 1) = false := beq_eq_false_iff_ne.2 (by omega)
    have n2 : (f == 2) = false := beq_eq_false_iff_ne.2 (by omega)
    have n3 : (f == 3) = false := beq_eq_false_iff_ne.2 (by omega)
    have n4 : (f == 4) = false := beq_eq_false_iff_ne.2 (by omega)
    have n5 : (f == 5) = false := beq_eq_false_iff_ne.2 (by omega)
    have n6 : (f == 6) = false := beq_eq_false_iff_ne.2 (by omega)
    have n7 : (f == 7) = false := beq_eq_false_iff_ne.2 (by omega)
    have n8 : (f == 8) = false := beq_eq_false_iff_ne.2 (by omega)
    have n9 : (f == 9) = false := beq_eq_false_iff_ne.2 (by omega)
    have n10 : (f == 10) = false := beq_eq_false_iff_ne.2 (by omega)
    have n11 : (f == 11) = false := beq_eq_false_iff_ne.2 (by omega)
    have n12 : (f == 12) = false := beq_eq_false_iff_ne.2 (by omega)
    have n13 : (f == 13) = false := beq_eq_false_iff_ne.2 (by omega)
    have n14 : (f == 14) = false := beq_eq_false_iff_ne.2 (by omega)
    have n15 : (f == 15) = false := beq_eq_false_iff_ne.2 (by omega)
    have n16 : (f == 16) = false := beq_eq_false_iff_ne.2 (by omega)
    clear hb h1
    go_enter Try.func65, Try.ntmps65
    go_wp2
    go_ret2
    exact ⟨rfl, Chg.refl _ _⟩
  | true =>
    rcases bin_cases hb with rfl | rfl | rfl | rfl | rfl | rfl | rfl | rfl | rfl | rfl | rfl | rfl | rfl | rfl | rfl | rfl
    all_goals
      clear hb
      go_enter Try.func65, Try.ntmps65
      go_wp2
      go_ret2
      exact ⟨rfl, Chg.refl _ _⟩
theorem r12binary_any (f : Int) (w : World) : Calls Try.prog 70 #[.int .i64 f] w (SaidB w (binB f)) := by
  cases h1 : decide (1 ≤ f) with
  | false =>
    rw [show binB f = false by unfold binB; rw [h1]; rfl]
    go_enter Try.func70, Try.ntmps70
    go_wp2
    go_ret
    exact ⟨rfl, rfl⟩
  | true =>
    cases h2 : decide (f ≤ 16) with
    | false =>
      rw [show binB f = false by unfold binB; rw [h1, h2]; rfl]
      go_enter Try.func70, Try.ntmps70
      go_wp2
      go_ret
      exact ⟨rfl, rfl⟩
    | true =>
      rw [show binB f = true by unfold binB; rw [h1, h2]; rfl]
      go_enter Try.func70, Try.ntmps70
      go_wp2
      go_ret
      exact ⟨rfl, rfl⟩
theorem kindB_no {a : Int} (h : kindB a = false) : (a != 1) = true ∧ (a != 2) = true := by
  unfold kindB at h
  simp only [Bool.or_eq_false_iff, decide_eq_false_iff_not] at h
  exact ⟨bne_t h.1, bne_t h.2⟩
theorem kindB_yes {a : Int} (h : kindB a = true) : a = 1 ∨ a = 2 := by
  simpa only [kindB, Bool.or_eq_true, decide_eq_true_eq] using h
theorem r12kinds_any (f a b : Int) (w : World) : Calls Try.prog 72 #[.int .i64 f, .int .i64 a, .int .i64 b] w (SaidI w (knE f a b)) := by
  have hb := r12binary_any f
  unfold SaidB at hb
  cases h1 : binB f with
  | false =>
    have HR := Lib.hid (show knE f a b = 2 by unfold knE; rw [h1]; rfl)
    rw [h1] at hb
    clear h1
    go_enter Try.func72, Try.ntmps72
    go_wp2_with (go_at_call 70; (with_reducible refine (hb _).mono ?_); rintro e w' ⟨rfl, rfl⟩)
    go_ret
    exact ⟨by rw [HR.out]; rfl, rfl⟩
  | true =>
    rw [h1] at hb
    cases h2 : kindB a with
    | false =>
      have HR := Lib.hid (show knE f a b = 2 by unfold knE; rw [h1, h2]; rfl)
      obtain ⟨a1, a2⟩ := kindB_no h2
      clear h1 h2
      go_enter Try.func72, Try.ntmps72
      go_wp2_with (go_at_call 70; (with_reducible refine (hb _).mono ?_); rintro e w' ⟨rfl, rfl⟩)
      go_ret
      exact ⟨by rw [HR.out]; rfl, rfl⟩
    | true =>
      cases h3 : kindB b with
      | false =>
        have HR := Lib.hid (show knE f a b = 2 by unfold knE; rw [h1, h2, h3]; rfl)
        obtain ⟨b1, b2⟩ := kindB_no h3
        have ha := kindB_yes h2
        clear h1 h2 h3
        rcases ha with rfl | rfl
        all_goals
          go_enter Try.func72, Try.ntmps72
          go_wp2_with (go_at_call 70; (with_reducible refine (hb _).mono ?_); rintro e w' ⟨rfl, rfl⟩)
          go_ret
          exact ⟨by rw [HR.out]; rfl, rfl⟩
      | true =>
        have HE := Lib.hid (show knE f a b = if (a = 2 ∨ b = 2) ∧ f ≠ 9 ∧ f ≠ 10 then 5 else 0 by unfold knE; rw [h1, h2, h3]; rfl)
        have ha := kindB_yes h2
        have hbb := kindB_yes h3
        clear h1 h2 h3
        by_cases h9 : f = 9
        · subst h9
          rcases ha with rfl | rfl <;> rcases hbb with rfl | rfl
          all_goals
            have HR := Lib.hid (HE.out.trans (if_neg (by decide)))
            clear HE
            go_enter Try.func72, Try.ntmps72
            go_wp2_with (go_at_call 70; (with_reducible refine (hb _).mono ?_); rintro e w' ⟨rfl, rfl⟩)
            go_ret
            exact ⟨by rw [HR.out]; rfl, rfl⟩
        · have b9 : (f != 9) = true := bne_iff_ne.2 h9
          by_cases h10 : f = 10
          · subst h10
            rcases ha with rfl | rfl <;> rcases hbb with rfl | rfl
            all_goals
              have HR := Lib.hid (HE.out.trans (if_neg (by decide)))
              clear HE h9
              go_enter Try.func72, Try.ntmps72
              go_wp2_with (go_at_call 70; (with_reducible refine (hb _).mono ?_); rintro e w' ⟨rfl, rfl⟩)
              go_ret
              exact ⟨by rw [HR.out]; rfl, rfl⟩
          · have b10 : (f != 10) = true := bne_iff_ne.2 h10
            rcases ha with rfl | rfl <;> rcases hbb with rfl | rfl
            · have HR := Lib.hid (HE.out.trans (if_neg (fun h => h.1.elim (fun h => absurd h (by decide)) (fun h => absurd h (by decide)))))
              clear HE h9 h10
              go_enter Try.func72, Try.ntmps72
              go_wp2_with (go_at_call 70; (with_reducible refine (hb _).mono ?_); rintro e w' ⟨rfl, rfl⟩)
              go_ret
              exact ⟨by rw [HR.out]; rfl, rfl⟩
            · have HR := Lib.hid (HE.out.trans (if_pos ⟨.inr rfl, h9, h10⟩))
              clear HE h9 h10
              go_enter Try.func72, Try.ntmps72
              go_wp2_with (go_at_call 70; (with_reducible refine (hb _).mono ?_); rintro e w' ⟨rfl, rfl⟩)
              go_ret
              exact ⟨by rw [HR.out]; rfl, rfl⟩
            · have HR := Lib.hid (HE.out.trans (if_pos ⟨.inl rfl, h9, h10⟩))
              clear HE h9 h10
              go_enter Try.func72, Try.ntmps72
              go_wp2_with (go_at_call 70; (with_reducible refine (hb _).mono ?_); rintro e w' ⟨rfl, rfl⟩)
              go_ret
              exact ⟨by rw [HR.out]; rfl, rfl⟩
            · have HR := Lib.hid (HE.out.trans (if_pos ⟨.inl rfl, h9, h10⟩))
              clear HE h9 h10
              go_enter Try.func72, Try.ntmps72
              go_wp2_with (go_at_call 70; (with_reducible refine (hb _).mono ?_); rintro e w' ⟨rfl, rfl⟩)
              go_ret
              exact ⟨by rw [HR.out]; rfl, rfl⟩
/-- What comes of two elements of kinds. -/
def mxP (f a b x y : Int) : Int × Int := if knE f a b = 0 then mixP f a b x y else (0, knE f a b)
theorem r12mixed_any (f a b x y : Int) (hx : In x) (hy : In y) (w : World) : Calls Try.prog 74 #[.int .i64 f, .int .i64 a, .int .i64 b, .int .i64 x, .int .i64 y] w (GaveP w (mxP f a b x y).1 (mxP f a b x y).2) := by
  have hk := r12kinds_any f a b w
  unfold SaidI at hk
  by_cases h0 : knE f a b = 0
  · rw [h0] at hk
    rw [show mxP f a b x y = mixP f a b x y from if_pos h0]
    clear h0
    by_cases hab : a = b
    · rw [show mixP f a b x y = twoP f x y from if_pos hab]
      have ht := r12two_any f x y hx hy w
      unfold GaveP at ht
      generalize twoP f x y = p at *
      have d1 : (a != b) = false := bne_f hab
      clear hab hx hy
      go_enter Try.func74, Try.ntmps74
      go_wp2_with fail
      refine hk.mono ?_
      clear hk
      rintro e w' ⟨rfl, rfl⟩
      go_wp2_with fail
      refine ht.mono ?_
      clear ht
      rintro e w' ⟨rfl, hC⟩
      go_wp2
      go_ret2
      exact ⟨rfl, hC⟩
    · rw [show mixP f a b x y = (flagI (decide (f = 10)), 0) from if_neg hab]
      have d1 : (a != b) = true := bne_t hab
      have hf := r12flagI
      have d2 : (f == 10) = decide (f = 10) := rfl
      generalize decide (f = 10) = c at *
      clear hab hx hy
      go_enter Try.func74, Try.ntmps74
      go_wp2_with fail
      refine hk.mono ?_
      clear hk
      rintro e w' ⟨rfl, rfl⟩
      go_wp2_with (go_at_call 109; (with_reducible refine (hf _ _).mono ?_); rintro e w' ⟨rfl, rfl⟩)
      go_ret2
      exact ⟨rfl, Chg.refl _ _⟩
  · rw [show mxP f a b x y = (0, knE f a b) from if_neg h0]
    generalize knE f a b = E at *
    have d1 : (E != 0) = true := bne_t h0
    clear h0 hx hy
    go_enter Try.func74, Try.ntmps74
    go_wp2_with fail
    refine hk.mono ?_
    clear hk
    rintro e w' ⟨rfl, rfl⟩
    go_wp2
    go_ret2
    exact ⟨rfl, Chg.refl _ _⟩
end Go.Proofs.Ytjmlekdgipinfaa
