/- The functions of numbers: quotients and rests as they are, truths of two. -/
import Derived.Test.YtjmlekdgipinfaaMt22
import Derived.Test.YtjmlekdgipinfaaMt23
namespace Go.Proofs.Ytjmlekdgipinfaa
open Go.RowKit

theorem w64 (q : Int) (h : In q) : wrap64 q = q := by unfold In at h; rw [show wrap64 q = IntKind.i64.wrap q by rw [IntKind.wrap_i64, wrap64], IntKind.wrap_i64]; omega
theorem tdiv_in (x y : Int) (hx : In x) (h0 : ¬ y = 0) (hov : ¬ (x = -9223372036854775808 ∧ y = -1)) : In (x.tdiv y) := by
  unfold In at *
  by_cases h1 : y = 1
  · subst h1; rw [Int.tdiv_one]; exact hx
  by_cases h2 : y = -1
  · subst h2; rw [Int.tdiv_neg, Int.tdiv_one]; omega
  have h := Int.natAbs_tdiv x y
  have h3 : x.natAbs.div y.natAbs ≤ x.natAbs / 2 := Nat.div_le_div_left (by omega) (by decide)
  omega
theorem fdiv_way (x y : Int) (h0 : ¬ y = 0) : (if ((x.tmod y != 0) && (decide (x < 0) != decide (y < 0))) = true then x.tdiv y - 1 else x.tdiv y) = x.fdiv y := by
  rw [Int.fdiv_eq_tdiv]
  by_cases hr : x.tmod y = 0
  · rw [if_pos (Int.dvd_of_tmod_eq_zero hr), if_neg (by rw [hr]; simp)]; omega
  · rw [if_neg (fun e => hr (Int.tmod_eq_zero_of_dvd e)), show (x.tmod y != 0) = true from bne_iff_ne.2 hr, Bool.true_and]
    by_cases hx : x < 0 <;> by_cases hy : y < 0
    · rw [decide_eq_true hx, decide_eq_true hy, if_neg (by decide), if_neg (by omega), if_neg (by omega), Int.sign_eq_neg_one_of_neg hy]; omega
    · rw [decide_eq_true hx, decide_eq_false hy, if_pos (by decide), if_neg (by omega), if_pos (by omega), Int.sign_eq_one_of_pos (by omega)]
    · rw [decide_eq_false hx, decide_eq_true hy, if_pos (by decide), if_pos (by omega), if_neg (by omega)]
    · rw [decide_eq_false hx, decide_eq_false hy, if_neg (by decide), if_pos (by omega), if_pos (by omega)]; omega
theorem tmod_sign (y x : Int) (h : ¬ y.tmod x = 0) : decide (y.tmod x < 0) = decide (y < 0) := by
  apply decide_eq_decide.2
  constructor
  · intro h1
    apply Classical.byContradiction
    intro h2
    have := Int.tmod_nonneg x (show 0 ≤ y by omega)
    omega
  · intro h1
    have := Int.tmod_nonneg x (show 0 ≤ -y by omega)
    rw [Int.neg_tmod] at this
    omega
theorem fmod_way (x y : Int) : (if ((y.tmod x != 0) && (decide (y.tmod x < 0) != decide (x < 0))) = true then y.tmod x + x else y.tmod x) = y.fmod x := by
  rw [Int.fmod_eq_tmod]
  by_cases hr : y.tmod x = 0
  · rw [if_pos (Int.dvd_of_tmod_eq_zero hr), if_neg (by rw [hr]; simp)]; omega
  · rw [if_neg (fun e => hr (Int.tmod_eq_zero_of_dvd e)), tmod_sign y x hr, show (y.tmod x != 0) = true from bne_iff_ne.2 hr, Bool.true_and]
    by_cases hx : y < 0 <;> by_cases hy : x < 0
    · rw [decide_eq_true hx, decide_eq_true hy, if_neg (by decide), if_neg (by omega), if_neg (by omega)]; omega
    · rw [decide_eq_true hx, decide_eq_false hy, if_pos (by decide), if_neg (by omega), if_pos (by omega)]; omega
    · rw [decide_eq_false hx, decide_eq_true hy, if_pos (by decide), if_pos (by omega), if_neg (by omega)]
    · rw [decide_eq_false hx, decide_eq_false hy, if_neg (by decide), if_pos (by omega), if_pos (by omega)]; omega
theorem fmod_in (x y : Int) (hx : In x) (h0 : ¬ x = 0) : In (y.fmod x) := by
  unfold In at *
  by_cases h : 0 < x
  · have := Int.fmod_nonneg_of_pos y h
    have := Int.fmod_lt_of_pos y h
    omega
  · have h1 : 0 < -x := by omega
    have h2 := Int.fmod_nonneg_of_pos (-y) h1
    have h3 := Int.fmod_lt_of_pos (-y) h1
    rw [Int.neg_fmod_neg] at h2 h3
    omega
def divN (x y : Int) : Int := if y = 0 then 0 else fitN (x.fdiv y)
def divE (x y : Int) : Int := if y = 0 then 8 else fitE (x.fdiv y)
def remN (x y : Int) : Int := if x = 0 then y else y.fmod x
theorem div_any (x y : Int) (hx : In x) (hy : In y) (w : World) : Calls Try.prog 93 #[.agg #[.int .i64 x, .int .i64 y]] w (GaveP w (divN x y) (divE x y)) := by
  unfold divN divE
  by_cases h0 : y = 0
  · rw [if_pos h0, if_pos h0, h0]
    exact div_zero x w
  rw [if_neg h0, if_neg h0]
  by_cases hov : x = -9223372036854775808 ∧ y = -1
  · obtain ⟨rfl, rfl⟩ := hov
    exact div_over w
  have hq := tdiv_in x y hx h0 hov
  have hw := fdiv_way x y h0
  have hf : In (x.fdiv y) ∧ (((x.tmod y != 0) && (decide (x < 0) != decide (y < 0))) = true → In (x.tdiv y - 1)) := by
    by_cases hc : ((x.tmod y != 0) && (decide (x < 0) != decide (y < 0))) = true
    · rw [if_pos hc] at hw
      have h1 : In (x.tdiv y - 1) := by
        have hm := Int.mul_tdiv_add_tmod x y
        have h3 := Int.natAbs_tdiv x y
        have h4 : ¬ x.tmod y = 0 := by
          intro e
          rw [e] at hc
          simp at hc
        have h5 : ¬ y = 1 := fun e => h4 (by rw [e, Int.tmod_one])
        have h6 : ¬ y = -1 := fun e => h4 (by rw [e, Int.tmod_neg, Int.tmod_one])
        have h7 : x.natAbs.div y.natAbs ≤ x.natAbs / 2 := Nat.div_le_div_left (by omega) (by decide)
        unfold In at *
        omega
      exact ⟨by rw [← hw]; exact h1, fun _ => h1⟩
    · rw [if_neg hc] at hw
      exact ⟨by rw [← hw]; exact hq, fun e => absurd e hc⟩
  rw [fitN_in hf.1, fitE_in hf.1]
  refine div_way x y _ _ _ _ _ _ _ _ w (beq_eq_false_iff_ne.2 h0) rfl rfl ?_ rfl rfl (w64 _ hq) rfl (fun e => w64 _ (hf.2 e)) rfl rfl hw h0
  cases hb : (x == -9223372036854775808) && (y == -1) with
  | false => rfl
  | true =>
    simp at hb
    exact absurd hb hov
theorem rem_any (x y : Int) (hx : In x) (w : World) : Calls Try.prog 94 #[.agg #[.int .i64 x, .int .i64 y]] w (GaveP w (remN x y) 0) := by
  unfold remN
  by_cases h0 : x = 0
  · rw [if_pos h0, h0]
    exact rem_zero y w
  rw [if_neg h0]
  have hw := fmod_way x y
  refine rem_way x y _ _ _ _ _ w (beq_eq_false_iff_ne.2 h0) rfl rfl (fun e => ?_) rfl rfl hw h0
  rw [if_pos e] at hw
  rw [hw]
  exact w64 _ (fmod_in x y hx h0)

def andN (x y : Int) : Int := if flagsB x y then x * y else 0
def orN (x y : Int) : Int := if flagsB x y then (if x + y > 0 then 1 else 0) else 0
def logE (x y : Int) : Int := if flagsB x y then 0 else 5
theorem flags_cases {x y : Int} (h : flagsB x y = true) : (x = 0 ∨ x = 1) ∧ (y = 0 ∨ y = 1) := by
  unfold flagsB at h
  simpa using h
theorem two_cells {w w1 : World} {a b : Value} {t : TypeId} (hC : Chg (fun _ => False) (w.alloc (.cells #[a, b] t)) w1) : w1.cell? ⟨w.heap.size, 0, none⟩ = some a ∧ w1.cell? ⟨w.heap.size, 1, none⟩ = some b :=
  ⟨hC.cell (new_cell w #[a, b] t rfl) id, hC.cell (new_cell w #[a, b] t rfl) id⟩
theorem and_yes (x y v : Int) (w : World) (hf : ∀ w, Calls Try.prog 139 #[.agg #[.int .i64 x, .int .i64 y]] w (fun e w' => e = .returned (.bool true) ∧ Chg (fun _ => False) w w')) (hv : bits .and .i64 x y = v) : Calls Try.prog 130 #[.agg #[.int .i64 x, .int .i64 y]] w (GaveP w v 0) := by
  go_enter Try.func130, Try.ntmps130
  go_wp2_with fail
  refine (hf _).mono ?_
  rintro e w1 ⟨rfl, hC⟩
  obtain ⟨c0, c1⟩ := two_cells hC
  go_wp2
  go_ret2
  exact ⟨rfl, hC.cells1⟩
theorem and_no (x y : Int) (w : World) (hf : ∀ w, Calls Try.prog 139 #[.agg #[.int .i64 x, .int .i64 y]] w (fun e w' => e = .returned (.bool false) ∧ Chg (fun _ => False) w w')) : Calls Try.prog 130 #[.agg #[.int .i64 x, .int .i64 y]] w (GaveP w 0 5) := by
  go_enter Try.func130, Try.ntmps130
  go_wp2_with fail
  refine (hf _).mono ?_
  rintro e w1 ⟨rfl, hC⟩
  go_wp2
  go_ret2
  exact ⟨rfl, hC.cells1⟩
theorem and_any (x y : Int) (hx : In x) (hy : In y) (w : World) : Calls Try.prog 130 #[.agg #[.int .i64 x, .int .i64 y]] w (GaveP w (andN x y) (logE x y)) := by
  have hf := flags_any x y hx hy
  unfold andN logE
  by_cases h : flagsB x y = true
  · rw [if_pos h, if_pos h]
    rw [h] at hf
    refine and_yes x y _ w hf ?_
    obtain ⟨rfl | rfl, rfl | rfl⟩ := flags_cases h <;> rfl
  · rw [if_neg h, if_neg h]
    rw [show flagsB x y = false by simpa using h] at hf
    exact and_no x y w hf
theorem or_yes (x y v : Int) (w : World) (hf : ∀ w, Calls Try.prog 139 #[.agg #[.int .i64 x, .int .i64 y]] w (fun e w' => e = .returned (.bool true) ∧ Chg (fun _ => False) w w')) (hv : bits .or .i64 x y = v) : Calls Try.prog 131 #[.agg #[.int .i64 x, .int .i64 y]] w (GaveP w v 0) := by
  go_enter Try.func131, Try.ntmps131
  go_wp2_with fail
  refine (hf _).mono ?_
  rintro e w1 ⟨rfl, hC⟩
  obtain ⟨c0, c1⟩ := two_cells hC
  go_wp2
  go_ret2
  exact ⟨rfl, hC.cells1⟩
theorem or_no (x y : Int) (w : World) (hf : ∀ w, Calls Try.prog 139 #[.agg #[.int .i64 x, .int .i64 y]] w (fun e w' => e = .returned (.bool false) ∧ Chg (fun _ => False) w w')) : Calls Try.prog 131 #[.agg #[.int .i64 x, .int .i64 y]] w (GaveP w 0 5) := by
  go_enter Try.func131, Try.ntmps131
  go_wp2_with fail
  refine (hf _).mono ?_
  rintro e w1 ⟨rfl, hC⟩
  go_wp2
  go_ret2
  exact ⟨rfl, hC.cells1⟩
theorem or_any (x y : Int) (hx : In x) (hy : In y) (w : World) : Calls Try.prog 131 #[.agg #[.int .i64 x, .int .i64 y]] w (GaveP w (orN x y) (logE x y)) := by
  have hf := flags_any x y hx hy
  unfold orN logE
  by_cases h : flagsB x y = true
  · rw [if_pos h, if_pos h]
    rw [h] at hf
    refine or_yes x y _ w hf ?_
    obtain ⟨rfl | rfl, rfl | rfl⟩ := flags_cases h <;> rfl
  · rw [if_neg h, if_neg h]
    rw [show flagsB x y = false by simpa using h] at hf
    exact or_no x y w hf
end Go.Proofs.Ytjmlekdgipinfaa
