/- The functions of numbers: quotients, rests, comparisons, truths. -/
import Derived.Test.YtjmlekdgipinfaaMt21
import Derived.Deep.RegionHeld3
namespace Go.Proofs.Ytjmlekdgipinfaa
open Go.RowKit

theorem div_zero (x : Int) (w : World) : Calls Try.prog 93 #[.agg #[.int .i64 x, .int .i64 0]] w (GaveP w 0 8) := by
  go_enter Try.func93, Try.ntmps93
  go_wp2
  go_ret2
  exact ⟨rfl, (Chg.refl _ w).alloc _⟩
theorem div_over (w : World) : Calls Try.prog 93 #[.agg #[.int .i64 (-9223372036854775808), .int .i64 (-1)]] w (GaveP w 0 7) := by
  go_enter Try.func93, Try.ntmps93
  go_wp2
  go_ret2
  exact ⟨rfl, (Chg.refl _ w).alloc _⟩
set_option maxHeartbeats 4000000 in
/-- The way of a quotient, its tests decided. -/
theorem div_way (x y q r n : Int) (b c d1 d2 z : Bool) (w : World) (h0 : (y == 0) = false) (hx : (x == -9223372036854775808) = b) (hy : (y == -1) = c) (hbc : (b && c) = false) (hq : x.tdiv y = q) (hr : x.tmod y = r) (hqw : wrap64 q = q) (hrz : (r != 0) = z)
    (hqw1 : (z && (d1 != d2)) = true → wrap64 (q - 1) = q - 1) (hd1 : decide (x < 0) = d1) (hd2 : decide (y < 0) = d2) (hn : (if (z && (d1 != d2)) = true then q - 1 else q) = n) (h0' : ¬ y = 0) :
    Calls Try.prog 93 #[.agg #[.int .i64 x, .int .i64 y]] w (GaveP w n 0) := by
  subst hn
  cases b <;> cases c <;> cases z <;> cases d1 <;> cases d2 <;> first
    | (exfalso; revert hbc; decide)
    | (simp only [Bool.and_true, Bool.and_false, bne_self_eq_false, Bool.false_eq_true, if_false, if_true, Bool.true_bne, Bool.false_bne, Bool.not_false]
       clear hbc
       go_enter Try.func93, Try.ntmps93
       go_wp2
       first
         | simp only [hqw, hqw1 rfl]
         | simp only [hqw]
         | skip
       go_ret2
       exact ⟨rfl, (Chg.refl _ w).alloc _⟩)
theorem rem_zero (y : Int) (w : World) : Calls Try.prog 94 #[.agg #[.int .i64 0, .int .i64 y]] w (GaveP w y 0) := by
  go_enter Try.func94, Try.ntmps94
  go_wp2
  go_ret2
  exact ⟨rfl, (Chg.refl _ w).alloc _⟩
set_option maxHeartbeats 4000000 in
/-- The way of a rest, its tests decided. -/
theorem rem_way (x y r n : Int) (d1 d2 z : Bool) (w : World) (h0 : (x == 0) = false) (hr : y.tmod x = r) (hrz : (r != 0) = z)
    (hqw1 : (z && (d1 != d2)) = true → wrap64 (r + x) = r + x) (hd1 : decide (r < 0) = d1) (hd2 : decide (x < 0) = d2) (hn : (if (z && (d1 != d2)) = true then r + x else r) = n) (h0' : ¬ x = 0) :
    Calls Try.prog 94 #[.agg #[.int .i64 x, .int .i64 y]] w (GaveP w n 0) := by
  subst hn
  cases z <;> cases d1 <;> cases d2 <;>
    (simp only [Bool.and_true, Bool.and_false, bne_self_eq_false, Bool.false_eq_true, if_false, if_true, Bool.true_bne, Bool.false_bne, Bool.not_false]
     go_enter Try.func94, Try.ntmps94
     go_wp2
     first
       | simp only [hqw1 rfl]
       | skip
     go_ret2
     exact ⟨rfl, (Chg.refl _ w).alloc _⟩)
theorem min_any (x y : Int) (w : World) : Calls Try.prog 95 #[.agg #[.int .i64 x, .int .i64 y]] w (GaveP w (min x y) 0) := by
  go_enter Try.func95, Try.ntmps95
  go_wp2
  · rw [show min x y = y by omega]
    go_ret2
    exact ⟨rfl, (Chg.refl _ w).alloc _⟩
  · rw [show min x y = x by omega]
    go_ret2
    exact ⟨rfl, (Chg.refl _ w).alloc _⟩
theorem max_any (x y : Int) (w : World) : Calls Try.prog 96 #[.agg #[.int .i64 x, .int .i64 y]] w (GaveP w (max x y) 0) := by
  go_enter Try.func96, Try.ntmps96
  go_wp2
  · rw [show max x y = y by omega]
    go_ret2
    exact ⟨rfl, (Chg.refl _ w).alloc _⟩
  · rw [show max x y = x by omega]
    go_ret2
    exact ⟨rfl, (Chg.refl _ w).alloc _⟩
def flagI (b : Bool) : Int := if b then 1 else 0
theorem truth_any (b : Bool) (w : World) : Calls Try.prog 51 #[.bool b] w (GaveP w (flagI b) 0) := by
  cases b
  · go_enter Try.func51, Try.ntmps51
    go_wp2
    go_ret2
    exact ⟨rfl, (Chg.refl _ w)⟩
  · go_enter Try.func51, Try.ntmps51
    go_wp2
    go_ret2
    exact ⟨rfl, (Chg.refl _ w)⟩
theorem eq_any (x y : Int) (w : World) : Calls Try.prog 124 #[.agg #[.int .i64 x, .int .i64 y]] w (GaveP w (flagI (decide (x = y))) 0) := by
  obtain ⟨b, hb⟩ : ∃ b, decide (x = y) = b := ⟨_, rfl⟩
  have ht := truth_any b
  rw [hb]
  have HB := Lib.hid hb
  clear hb
  go_enter Try.func124, Try.ntmps124
  go_wp2_with fail
  try rw [show (x == y) = decide (x = y) from rfl]
  try rw [show (x != y) = decide (x ≠ y) by simp only [bne, decide_not]; rfl]
  rw [HB.out]
  refine (ht _).mono ?_
  rintro e w' ⟨rfl, hC⟩
  go_wp2
  go_ret2
  exact ⟨rfl, hC.cells1⟩
theorem ne_any (x y : Int) (w : World) : Calls Try.prog 125 #[.agg #[.int .i64 x, .int .i64 y]] w (GaveP w (flagI (decide (x ≠ y))) 0) := by
  obtain ⟨b, hb⟩ : ∃ b, decide (x ≠ y) = b := ⟨_, rfl⟩
  have ht := truth_any b
  rw [hb]
  have HB := Lib.hid hb
  clear hb
  go_enter Try.func125, Try.ntmps125
  go_wp2_with fail
  try rw [show (x == y) = decide (x = y) from rfl]
  try rw [show (x != y) = decide (x ≠ y) by simp only [bne, decide_not]; rfl]
  rw [HB.out]
  refine (ht _).mono ?_
  rintro e w' ⟨rfl, hC⟩
  go_wp2
  go_ret2
  exact ⟨rfl, hC.cells1⟩
theorem lt_any (x y : Int) (w : World) : Calls Try.prog 126 #[.agg #[.int .i64 x, .int .i64 y]] w (GaveP w (flagI (decide (x < y))) 0) := by
  obtain ⟨b, hb⟩ : ∃ b, decide (x < y) = b := ⟨_, rfl⟩
  have ht := truth_any b
  rw [hb]
  have HB := Lib.hid hb
  clear hb
  go_enter Try.func126, Try.ntmps126
  go_wp2_with fail
  try rw [show (x == y) = decide (x = y) from rfl]
  try rw [show (x != y) = decide (x ≠ y) by simp only [bne, decide_not]; rfl]
  rw [HB.out]
  refine (ht _).mono ?_
  rintro e w' ⟨rfl, hC⟩
  go_wp2
  go_ret2
  exact ⟨rfl, hC.cells1⟩
theorem le_any (x y : Int) (w : World) : Calls Try.prog 127 #[.agg #[.int .i64 x, .int .i64 y]] w (GaveP w (flagI (decide (x ≤ y))) 0) := by
  obtain ⟨b, hb⟩ : ∃ b, decide (x ≤ y) = b := ⟨_, rfl⟩
  have ht := truth_any b
  rw [hb]
  have HB := Lib.hid hb
  clear hb
  go_enter Try.func127, Try.ntmps127
  go_wp2_with fail
  try rw [show (x == y) = decide (x = y) from rfl]
  try rw [show (x != y) = decide (x ≠ y) by simp only [bne, decide_not]; rfl]
  rw [HB.out]
  refine (ht _).mono ?_
  rintro e w' ⟨rfl, hC⟩
  go_wp2
  go_ret2
  exact ⟨rfl, hC.cells1⟩
theorem ge_any (x y : Int) (w : World) : Calls Try.prog 128 #[.agg #[.int .i64 x, .int .i64 y]] w (GaveP w (flagI (decide (y ≤ x))) 0) := by
  obtain ⟨b, hb⟩ : ∃ b, decide (y ≤ x) = b := ⟨_, rfl⟩
  have ht := truth_any b
  rw [hb]
  have HB := Lib.hid hb
  clear hb
  go_enter Try.func128, Try.ntmps128
  go_wp2_with fail
  try rw [show (x == y) = decide (x = y) from rfl]
  try rw [show (x != y) = decide (x ≠ y) by simp only [bne, decide_not]; rfl]
  rw [HB.out]
  refine (ht _).mono ?_
  rintro e w' ⟨rfl, hC⟩
  go_wp2
  go_ret2
  exact ⟨rfl, hC.cells1⟩
theorem gt_any (x y : Int) (w : World) : Calls Try.prog 129 #[.agg #[.int .i64 x, .int .i64 y]] w (GaveP w (flagI (decide (y < x))) 0) := by
  obtain ⟨b, hb⟩ : ∃ b, decide (y < x) = b := ⟨_, rfl⟩
  have ht := truth_any b
  rw [hb]
  have HB := Lib.hid hb
  clear hb
  go_enter Try.func129, Try.ntmps129
  go_wp2_with fail
  try rw [show (x == y) = decide (x = y) from rfl]
  try rw [show (x != y) = decide (x ≠ y) by simp only [bne, decide_not]; rfl]
  rw [HB.out]
  refine (ht _).mono ?_
  rintro e w' ⟨rfl, hC⟩
  go_wp2
  go_ret2
  exact ⟨rfl, hC.cells1⟩
/-- Both are 0 or 1. -/
def flagsB (x y : Int) : Bool := (decide (x = 0) || decide (x = 1)) && (decide (y = 0) || decide (y = 1))
theorem flags_any (x y : Int) (hx : In x) (hy : In y) (w : World) : Calls Try.prog 139 #[.agg #[.int .i64 x, .int .i64 y]] w (fun e w' => e = .returned (.bool (flagsB x y)) ∧ Chg (fun _ => False) w w') := by
  unfold In at hx hy
  obtain ⟨b, hb⟩ : ∃ b, (y / 2 == 0) = b := ⟨_, rfl⟩
  have h2 : b = decide (y / 2 = 0) := by rw [← hb]; rfl
  have P1 := Lib.hid (show ¬ x / 2 = 0 → flagsB x y = false by
    intro h
    unfold flagsB
    rw [decide_eq_false (show ¬ x = 0 by omega), decide_eq_false (show ¬ x = 1 by omega)]
    rfl)
  have P2 := Lib.hid (show x / 2 = 0 → flagsB x y = b by
    intro h
    unfold flagsB
    rw [show (decide (x = 0) || decide (x = 1)) = true by simp; omega, Bool.true_and, h2]
    by_cases hy0 : y / 2 = 0
    · rw [decide_eq_true hy0]; simp; omega
    · rw [decide_eq_false hy0]; simp; omega)
  clear h2 hx hy
  go_enter Try.func139, Try.ntmps139
  go_wp2
  all_goals
    rename_i h
    first
      | rw [P1.out h]
      | rw [P2.out h]
    go_ret
    exact ⟨rfl, (Chg.refl _ w).alloc _⟩
end Go.Proofs.Ytjmlekdgipinfaa
