/- Any function of two numbers; which kinds it takes; what it is of two kinds. -/
import Derived.Test.YtjmlekdgipinfaaMt26
import Derived.Test.YtjmlekdgipinfaaMt3
namespace Go.Proofs.Ytjmlekdgipinfaa
open Go.RowKit Go.Shelf

/-- What a function makes of two numbers, and the error. -/
def twoP (f x y : Int) : Int × Int :=
  if f = 1 then (fitN (x + y), fitE (x + y)) else if f = 2 then (fitN (x - y), fitE (x - y)) else if f = 3 then (fitN (x * y), fitE (x * y))
  else if f = 4 then (divN x y, divE x y) else if f = 5 then (remN x y, 0) else if f = 6 then (min x y, 0) else if f = 7 then (max x y, 0) else if f = 8 then (powN x y, powE x y)
  else if f = 9 then (flagI (decide (x = y)), 0) else if f = 10 then (flagI (decide (x ≠ y)), 0) else if f = 11 then (flagI (decide (x < y)), 0) else if f = 12 then (flagI (decide (x ≤ y)), 0)
  else if f = 13 then (flagI (decide (x ≥ y)), 0) else if f = 14 then (flagI (decide (x > y)), 0) else if f = 15 then (andN x y, logE x y) else if f = 16 then (orN x y, logE x y) else (0, 2)
def binB (f : Int) : Bool := decide (1 ≤ f) && decide (f ≤ 16)
theorem binB_iff {f : Int} : binB f = true ↔ 1 ≤ f ∧ f ≤ 16 := by simp [binB]
theorem bin_cases {f : Int} (h : binB f = true) : f = 1 ∨ f = 2 ∨ f = 3 ∨ f = 4 ∨ f = 5 ∨ f = 6 ∨ f = 7 ∨ f = 8 ∨ f = 9 ∨ f = 10 ∨ f = 11 ∨ f = 12 ∨ f = 13 ∨ f = 14 ∨ f = 15 ∨ f = 16 := by
  have := binB_iff.1 h
  omega
theorem bin_none (f : Int) (h : binB f = false) (w : World) : Calls Try.prog 57 #[.int .i64 f] w (fun e w' => e = .returned .nilFunc ∧ w' = w) := by
  have h1 : f < 1 ∨ 16 < f := by
    have : ¬ (1 ≤ f ∧ f ≤ 16) := fun q => by rw [binB_iff.2 q] at h; cases h
    omega
  have n1 : (f == 1) = false := beq_eq_false_iff_ne.2 (by omega)
  have n2 : (f == 2) = false := beq_eq_false_iff_ne.2 (by omega)
  have n3 : (f == 3) = false := beq_eq_false_iff_ne.2 (by omega)
  have n4 : (f == 4) = false := beq_eq_false_iff_ne.2 (by omega)
  have n5 : (f == 5) = false := beq_eq_false_iff_ne.2 (by omega)
  have n6 : (f == 6) = false := beq_eq_false_iff_ne.2 (by omega)
  have n7 : (f == 7) = false := beq_eq_false_iff_ne.2 (by omega)
  have n8 : (f == 8) = false := beq_eq_false_iff_ne.2 (by omega)
  have n9 : (f == 9) = false := beq_eq_false_iff_ne.2 (by omega)
  have n10 : (f == 10) = false := beq_eq_false_iff_ne.2 (by omega)
  have n11 : (f == 11) = false := beq_eq_false_iff_ne.2 (by omega)
  have n12 : (f == 12) = false := beq_eq_false_iff_ne.2 (by omega)
  have n13 : (f == 13) = false := beq_eq_false_iff_ne.2 (by omega)
  have n14 : (f == 14) = false := beq_eq_false_iff_ne.2 (by omega)
  have n15 : (f == 15) = false := beq_eq_false_iff_ne.2 (by omega)
  have n16 : (f == 16) = false := beq_eq_false_iff_ne.2 (by omega)
  clear h h1
  have hl : ∀ w, Calls Try.prog 98 #[.int .i64 f] w (fun e w' => e = .returned .nilFunc ∧ w' = w) := by
    intro w
    go_enter Try.func98, Try.ntmps98
    go_wp2
    go_ret
    exact ⟨rfl, rfl⟩
  go_enter Try.func57, Try.ntmps57
  go_wp2_with (go_at_call 98; (with_reducible refine (hl _).mono ?_); rintro e w' ⟨rfl, rfl⟩)
  go_ret
  exact ⟨rfl, rfl⟩
theorem nil_nilF (w : World) : (binOp .eql 83 .nilFunc .nilFunc).run Try.prog w = .ok (.bool true) w := by
  kernel_rfl
theorem nil_neqF (w : World) : (binOp .neq 83 .nilFunc .nilFunc).run Try.prog w = .ok (.bool false) w := by
  kernel_rfl
theorem func_neqF (k : Nat) (w : World) : (binOp .neq 83 (.func (.func k) #[] #[]) .nilFunc).run Try.prog w = .ok (.bool true) w := by
  kernel_rfl
theorem two_no (f x y : Int) (h : binB f = false) (w : World) : Calls Try.prog 24 #[.int .i64 f, .int .i64 x, .int .i64 y] w (GaveP w 0 2) := by
  have hb := bin_none f h
  have hn := nil_nilF
  clear h
  go_enter Try.func24, Try.ntmps24
  go_wp2_with fail
  refine (hb _).mono ?_
  rintro e w' ⟨rfl, rfl⟩
  go_wp2
  go_ret2
  exact ⟨rfl, Chg.refl _ _⟩
theorem twoP_no {f : Int} (h : binB f = false) (x y : Int) : twoP f x y = (0, 2) := by
  have h1 : f < 1 ∨ 16 < f := by
    have : ¬ (1 ≤ f ∧ f ≤ 16) := fun q => by rw [binB_iff.2 q] at h; cases h
    omega
  unfold twoP
  repeat rw [if_neg (by omega)]
theorem two_any (f x y : Int) (hx : In x) (hy : In y) (w : World) : Calls Try.prog 24 #[.int .i64 f, .int .i64 x, .int .i64 y] w (GaveP w (twoP f x y).1 (twoP f x y).2) := by
  cases h : binB f with
  | false =>
    rw [twoP_no h]
    exact two_no f x y h w
  | true =>
    rcases bin_cases h with rfl | rfl | rfl | rfl | rfl | rfl | rfl | rfl | rfl | rfl | rfl | rfl | rfl | rfl | rfl | rfl
    · exact two_1 x y _ _ w (fun w => add_any x y hx hy w)
    · exact two_2 x y _ _ w (fun w => sub_any x y hx hy w)
    · exact two_3 x y _ _ w (fun w => mul_any x y hx hy w)
    · exact two_4 x y _ _ w (fun w => div_any x y hx hy w)
    · exact two_5 x y _ _ w (fun w => rem_any x y hx w)
    · exact two_6 x y _ _ w (fun w => min_any x y w)
    · exact two_7 x y _ _ w (fun w => max_any x y w)
    · exact two_8 x y _ _ w (fun w => pow_any x y hx hy w)
    · exact two_9 x y _ _ w (fun w => eq_any x y w)
    · exact two_10 x y _ _ w (fun w => ne_any x y w)
    · exact two_11 x y _ _ w (fun w => lt_any x y w)
    · exact two_12 x y _ _ w (fun w => le_any x y w)
    · exact two_13 x y _ _ w (fun w => ge_any x y w)
    · exact two_14 x y _ _ w (fun w => gt_any x y w)
    · exact two_15 x y _ _ w (fun w => and_any x y hx hy w)
    · exact two_16 x y _ _ w (fun w => or_any x y hx hy w)
theorem binF (f : Int) (h : binB f = true) : ∃ k, ∀ w, Calls Try.prog 57 #[.int .i64 f] w (fun e w' => e = .returned (.func (.func k) #[] #[]) ∧ w' = w) := by
  rcases bin_cases h with rfl | rfl | rfl | rfl | rfl | rfl | rfl | rfl | rfl | rfl | rfl | rfl | rfl | rfl | rfl | rfl
  · exact ⟨_, bin_1⟩
  · exact ⟨_, bin_2⟩
  · exact ⟨_, bin_3⟩
  · exact ⟨_, bin_4⟩
  · exact ⟨_, bin_5⟩
  · exact ⟨_, bin_6⟩
  · exact ⟨_, bin_7⟩
  · exact ⟨_, bin_8⟩
  · exact ⟨_, bin_9⟩
  · exact ⟨_, bin_10⟩
  · exact ⟨_, bin_11⟩
  · exact ⟨_, bin_12⟩
  · exact ⟨_, bin_13⟩
  · exact ⟨_, bin_14⟩
  · exact ⟨_, bin_15⟩
  · exact ⟨_, bin_16⟩
/-- A Boolean answer, the world as it was. -/
def SaidB (w : World) (b : Bool) (e : Ending) (w' : World) : Prop := e = .returned (.bool b) ∧ w' = w
def SaidI (w : World) (n : Int) (e : Ending) (w' : World) : Prop := e = .returned (.int .i64 n) ∧ w' = w
theorem binary_any (f : Int) (w : World) : Calls Try.prog 19 #[.int .i64 f] w (SaidB w (binB f)) := by
  cases h : binB f with
  | false =>
    have hb := bin_none f h
    have hn := nil_neqF
    clear h
    go_enter Try.func19, Try.ntmps19
    go_wp2_with (go_at_call 57; (with_reducible refine (hb _).mono ?_); rintro e w' ⟨rfl, rfl⟩)
    go_ret
    exact ⟨rfl, rfl⟩
  | true =>
    obtain ⟨k, hb⟩ := binF f h
    have hn := func_neqF k
    clear h
    go_enter Try.func19, Try.ntmps19
    go_wp2_with (go_at_call 57; (with_reducible refine (hb _).mono ?_); rintro e w' ⟨rfl, rfl⟩)
    go_ret
    exact ⟨rfl, rfl⟩
def kindB (k : Int) : Bool := decide (k = 1) || decide (k = 2)
theorem kind_any (k : Int) (w : World) : Calls Try.prog 83 #[.int .i64 k] w (SaidB w (kindB k)) := by
  by_cases h1 : k = 1
  · subst h1
    go_enter Try.func83, Try.ntmps83
    go_wp2
    go_ret
    exact ⟨rfl, rfl⟩
  · have b1 : (k == 1) = false := beq_eq_false_iff_ne.2 h1
    by_cases h2 : k = 2
    · subst h2
      go_enter Try.func83, Try.ntmps83
      go_wp2
      go_ret
      exact ⟨rfl, rfl⟩
    · have b2 : (k == 2) = false := beq_eq_false_iff_ne.2 h2
      have HR := Lib.hid (show kindB k = false by simp [kindB, h1, h2])
      clear h1 h2
      go_enter Try.func83, Try.ntmps83
      go_wp2
      go_ret
      exact ⟨by rw [HR.out]; rfl, rfl⟩
/-- The error of a function and two kinds. -/
def knE (f a b : Int) : Int := if binB f && (kindB a && kindB b) then (if (a = 2 ∨ b = 2) ∧ f ≠ 9 ∧ f ≠ 10 then 5 else 0) else 2
theorem kinds_any (f a b : Int) (w : World) : Calls Try.prog 48 #[.int .i64 f, .int .i64 a, .int .i64 b] w (SaidI w (knE f a b)) := by
  have hb := binary_any f
  have ha := kind_any a
  have hk := kind_any b
  unfold SaidB at hb ha hk
  cases h1 : binB f with
  | false =>
    have HR := Lib.hid (show knE f a b = 2 by unfold knE; rw [h1]; rfl)
    rw [h1] at hb
    clear h1 ha hk
    go_enter Try.func48, Try.ntmps48
    go_wp2_with (go_at_call 19; (with_reducible refine (hb _).mono ?_); rintro e w' ⟨rfl, rfl⟩)
    go_ret
    exact ⟨by rw [HR.out]; rfl, rfl⟩
  | true =>
    rw [h1] at hb
    cases h2 : kindB a with
    | false =>
      have HR := Lib.hid (show knE f a b = 2 by unfold knE; rw [h1, h2]; rfl)
      rw [h2] at ha
      clear h1 h2 hk
      go_enter Try.func48, Try.ntmps48
      go_wp2_with fail
      refine (hb _).mono ?_
      rintro e w' ⟨rfl, rfl⟩
      go_wp2_with fail
      refine (ha _).mono ?_
      rintro e w' ⟨rfl, rfl⟩
      go_wp2
      go_ret
      exact ⟨by rw [HR.out]; rfl, rfl⟩
    | true =>
      rw [h2] at ha
      cases h3 : kindB b with
      | false =>
        have HR := Lib.hid (show knE f a b = 2 by unfold knE; rw [h1, h2, h3]; rfl)
        rw [h3] at hk
        clear h1 h2 h3
        go_enter Try.func48, Try.ntmps48
        go_wp2_with fail
        refine (hb _).mono ?_
        rintro e w' ⟨rfl, rfl⟩
        go_wp2_with fail
        refine (ha _).mono ?_
        rintro e w' ⟨rfl, rfl⟩
        go_wp2_with fail
        refine (hk _).mono ?_
        rintro e w' ⟨rfl, rfl⟩
        go_wp2
        go_ret
        exact ⟨by rw [HR.out]; rfl, rfl⟩
      | true =>
        rw [h3] at hk
        have hE : knE f a b = if (a = 2 ∨ b = 2) ∧ f ≠ 9 ∧ f ≠ 10 then 5 else 0 := by unfold knE; rw [h1, h2, h3]; rfl
        have hab : (a = 1 ∨ a = 2) ∧ (b = 1 ∨ b = 2) := by
          simp only [kindB, Bool.or_eq_true, decide_eq_true_eq] at h2 h3
          exact ⟨h2, h3⟩
        clear h1 h2 h3
        have HE := Lib.hid hE
        clear hE
        by_cases h9 : f = 9
        · subst h9
          rcases hab with ⟨rfl | rfl, rfl | rfl⟩
          all_goals
            have HR := Lib.hid (HE.out.trans (if_neg (by decide)))
            clear HE
            go_enter Try.func48, Try.ntmps48
            go_wp2_with fail
            refine (hb _).mono ?_
            rintro e w' ⟨rfl, rfl⟩
            go_wp2_with fail
            refine (ha _).mono ?_
            rintro e w' ⟨rfl, rfl⟩
            go_wp2_with fail
            refine (hk _).mono ?_
            rintro e w' ⟨rfl, rfl⟩
            go_wp2
            go_ret
            exact ⟨by rw [HR.out]; rfl, rfl⟩
        · have b9 : (f != 9) = true := bne_iff_ne.2 h9
          by_cases h10 : f = 10
          · subst h10
            rcases hab with ⟨rfl | rfl, rfl | rfl⟩
            all_goals
              have HR := Lib.hid (HE.out.trans (if_neg (by decide)))
              clear HE h9
              go_enter Try.func48, Try.ntmps48
              go_wp2_with fail
              refine (hb _).mono ?_
              rintro e w' ⟨rfl, rfl⟩
              go_wp2_with fail
              refine (ha _).mono ?_
              rintro e w' ⟨rfl, rfl⟩
              go_wp2_with fail
              refine (hk _).mono ?_
              rintro e w' ⟨rfl, rfl⟩
              go_wp2
              go_ret
              exact ⟨by rw [HR.out]; rfl, rfl⟩
          · have b10 : (f != 10) = true := bne_iff_ne.2 h10
            rcases hab with ⟨rfl | rfl, rfl | rfl⟩
            · have HR := Lib.hid (HE.out.trans (if_neg (fun h => h.1.elim (fun h => absurd h (by decide)) (fun h => absurd h (by decide)))))
              clear HE h9 h10
              go_enter Try.func48, Try.ntmps48
              go_wp2_with fail
              refine (hb _).mono ?_
              rintro e w' ⟨rfl, rfl⟩
              go_wp2_with fail
              refine (ha _).mono ?_
              rintro e w' ⟨rfl, rfl⟩
              go_wp2_with fail
              refine (hk _).mono ?_
              rintro e w' ⟨rfl, rfl⟩
              go_wp2
              go_ret
              exact ⟨by rw [HR.out]; rfl, rfl⟩
            · have HR := Lib.hid (HE.out.trans (if_pos ⟨.inr rfl, h9, h10⟩))
              clear HE h9 h10
              go_enter Try.func48, Try.ntmps48
              go_wp2_with fail
              refine (hb _).mono ?_
              rintro e w' ⟨rfl, rfl⟩
              go_wp2_with fail
              refine (ha _).mono ?_
              rintro e w' ⟨rfl, rfl⟩
              go_wp2_with fail
              refine (hk _).mono ?_
              rintro e w' ⟨rfl, rfl⟩
              go_wp2
              go_ret
              exact ⟨by rw [HR.out]; rfl, rfl⟩
            · have HR := Lib.hid (HE.out.trans (if_pos ⟨.inl rfl, h9, h10⟩))
              clear HE h9 h10
              go_enter Try.func48, Try.ntmps48
              go_wp2_with fail
              refine (hb _).mono ?_
              rintro e w' ⟨rfl, rfl⟩
              go_wp2_with fail
              refine (ha _).mono ?_
              rintro e w' ⟨rfl, rfl⟩
              go_wp2_with fail
              refine (hk _).mono ?_
              rintro e w' ⟨rfl, rfl⟩
              go_wp2
              go_ret
              exact ⟨by rw [HR.out]; rfl, rfl⟩
            · have HR := Lib.hid (HE.out.trans (if_pos ⟨.inl rfl, h9, h10⟩))
              clear HE h9 h10
              go_enter Try.func48, Try.ntmps48
              go_wp2_with fail
              refine (hb _).mono ?_
              rintro e w' ⟨rfl, rfl⟩
              go_wp2_with fail
              refine (ha _).mono ?_
              rintro e w' ⟨rfl, rfl⟩
              go_wp2_with fail
              refine (hk _).mono ?_
              rintro e w' ⟨rfl, rfl⟩
              go_wp2
              go_ret
              exact ⟨by rw [HR.out]; rfl, rfl⟩
end Go.Proofs.Ytjmlekdgipinfaa
