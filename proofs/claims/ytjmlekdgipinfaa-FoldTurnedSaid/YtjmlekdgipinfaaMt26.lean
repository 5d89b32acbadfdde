/- The functions of numbers: Two. -/
import Derived.Test.YtjmlekdgipinfaaMt25
namespace Go.Proofs.Ytjmlekdgipinfaa
open Go.RowKit

theorem neg_pow (p : Int) : ∀ n : Nat, (-p) ^ n = if n % 2 = 1 then -(p ^ n) else p ^ n
  | 0 => by rw [Int.pow_zero, Int.pow_zero]; rfl
  | n + 1 => by
    rw [Int.pow_succ, neg_pow p n, Int.pow_succ]
    by_cases h : n % 2 = 1
    · rw [if_pos h, if_neg (by omega), Int.neg_mul_neg]
    · rw [if_neg h, if_pos (by omega), Int.mul_neg]
def powN (x y : Int) : Int := if 0 ≤ y then fitN (x ^ y.toNat) else if x = 1 then 1 else if x = -1 then (if y % 2 = 1 then -1 else 1) else 0
def powE (x y : Int) : Int := if 0 ≤ y then fitE (x ^ y.toNat) else if x = 1 ∨ x = -1 then 0 else 5
theorem one_in : In 1 := by unfold In; decide
theorem pow_any (x y : Int) (hx : In x) (hy : In y) (w : World) : Calls Try.prog 97 #[.agg #[.int .i64 x, .int .i64 y]] w (GaveP w (powN x y) (powE x y)) := by
  by_cases x1 : x = 1
  · subst x1
    have e1 : powN 1 y = 1 := by unfold powN; rw [Int.one_pow, fitN_in one_in]; split <;> rfl
    have e2 : powE 1 y = 0 := by unfold powE; rw [Int.one_pow, fitE_in one_in]; split <;> rfl
    rw [e1, e2]
    exact pow_one y w
  have b1 : (x == 1) = false := beq_eq_false_iff_ne.2 x1
  by_cases y0 : y = 0
  · subst y0
    rw [show powN x 0 = 1 by unfold powN; rw [if_pos (by decide)]; show fitN (x ^ 0) = 1; rw [Int.pow_zero]; exact fitN_in one_in, show powE x 0 = 0 by unfold powE; rw [if_pos (by decide)]; show fitE (x ^ 0) = 0; rw [Int.pow_zero]; exact fitE_in one_in]
    exact pow_y0 x w b1
  have b0 : (y == 0) = false := beq_eq_false_iff_ne.2 y0
  by_cases xm : x = -1
  · subst xm
    have e1 : powN (-1) y = if (y % 2 == 1) = true then -1 else 1 := by
      unfold powN
      rw [neg_pow, Int.one_pow]
      by_cases h : 0 ≤ y
      · rw [if_pos h]
        by_cases h2 : y % 2 = 1
        · rw [if_pos (by omega), if_pos (beq_iff_eq.2 h2)]; rfl
        · rw [if_neg (by omega), if_neg (fun e => h2 (beq_iff_eq.1 e))]; rfl
      · rw [if_neg h, if_neg (by decide), if_pos rfl]
        by_cases h2 : y % 2 = 1
        · rw [if_pos h2, if_pos (beq_iff_eq.2 h2)]
        · rw [if_neg h2, if_neg (fun e => h2 (beq_iff_eq.1 e))]
    have e2 : powE (-1) y = 0 := by
      unfold powE
      rw [neg_pow, Int.one_pow]
      split
      · split <;> rfl
      · rfl
    rw [e1, e2]
    exact pow_m1 y w _ b0 rfl
  have bm : (x == -1) = false := beq_eq_false_iff_ne.2 xm
  by_cases yn : y < 0
  · rw [show powN x y = 0 by unfold powN; rw [if_neg (by omega), if_neg x1, if_neg xm], show powE x y = 5 by unfold powE; rw [if_neg (by omega), if_neg (by omega)]]
    exact pow_neg x y w b1 bm b0 (decide_eq_true yn)
  obtain ⟨n, rfl⟩ := Int.eq_ofNat_of_zero_le (show 0 ≤ y by omega)
  rw [show powN x n = fitN (x ^ n) by unfold powN; rw [if_pos (by omega)]; rfl, show powE x n = fitE (x ^ n) by unfold powE; rw [if_pos (by omega)]; rfl]
  by_cases x0 : x = 0
  · subst x0
    rw [Int.zero_pow (by omega)]
    exact pow_x0 _ w b0 (decide_eq_false (by omega))
  have bx0 : (x == 0) = false := beq_eq_false_iff_ne.2 x0
  have hp2 : 2 ≤ x.natAbs := by omega
  have habs : (x ^ n).natAbs = x.natAbs ^ n := Int.natAbs_pow x n
  by_cases h63 : 63 < n
  · have h1 : 2 ^ 64 ≤ x.natAbs ^ n := Nat.le_trans (Nat.pow_le_pow_left hp2 64) (Nat.pow_le_pow_right (by omega) (by omega))
    have h2 : ¬ In (x ^ n) := by unfold In; omega
    rw [fitN_out h2, fitE_out h2]
    exact pow_63 x n w b1 bm bx0 b0 (decide_eq_false (by omega)) (decide_eq_true (by omega))
  · refine pow_main x n x.natAbs w b1 bm bx0 b0 (decide_eq_false (by omega)) hp2 (by unfold In at hx; omega) (size_any x hx) _ rfl _ rfl _ ?_
    by_cases hxn : x < 0
    · have hxe : x = -(x.natAbs : Int) := by omega
      rw [decide_eq_true hxn, Bool.true_and]
      generalize x.natAbs = p at *
      rw [hxe, neg_pow, Int.natCast_pow]
      by_cases h2 : n % 2 = 1
      · rw [if_pos h2, if_pos (beq_iff_eq.2 (by omega))]
      · rw [if_neg h2, if_neg (fun e => h2 (by have := beq_iff_eq.1 e; omega))]
    · have hxe : x = (x.natAbs : Int) := by omega
      rw [decide_eq_false hxn, Bool.false_and, if_neg (by decide)]
      generalize x.natAbs = p at *
      rw [hxe, Int.natCast_pow]
theorem sfunc_nil (k : Nat) (w : World) : (binOp .eql 83 (.func (.func k) #[] #[]) .nilFunc).run Try.prog w = .ok (.bool false) w := by
  kernel_rfl
theorem bin_1 (w : World) : Calls Try.prog 57 #[.int .i64 1] w (fun e w' => e = .returned (.func (.func 90) #[] #[]) ∧ w' = w) := by
  go_enter Try.func57, Try.ntmps57
  go_wp2
  go_ret
  exact ⟨rfl, rfl⟩
theorem bin_2 (w : World) : Calls Try.prog 57 #[.int .i64 2] w (fun e w' => e = .returned (.func (.func 91) #[] #[]) ∧ w' = w) := by
  go_enter Try.func57, Try.ntmps57
  go_wp2
  go_ret
  exact ⟨rfl, rfl⟩
theorem bin_3 (w : World) : Calls Try.prog 57 #[.int .i64 3] w (fun e w' => e = .returned (.func (.func 92) #[] #[]) ∧ w' = w) := by
  go_enter Try.func57, Try.ntmps57
  go_wp2
  go_ret
  exact ⟨rfl, rfl⟩
theorem bin_4 (w : World) : Calls Try.prog 57 #[.int .i64 4] w (fun e w' => e = .returned (.func (.func 93) #[] #[]) ∧ w' = w) := by
  go_enter Try.func57, Try.ntmps57
  go_wp2
  go_ret
  exact ⟨rfl, rfl⟩
theorem bin_5 (w : World) : Calls Try.prog 57 #[.int .i64 5] w (fun e w' => e = .returned (.func (.func 94) #[] #[]) ∧ w' = w) := by
  go_enter Try.func57, Try.ntmps57
  go_wp2
  go_ret
  exact ⟨rfl, rfl⟩
theorem bin_6 (w : World) : Calls Try.prog 57 #[.int .i64 6] w (fun e w' => e = .returned (.func (.func 95) #[] #[]) ∧ w' = w) := by
  go_enter Try.func57, Try.ntmps57
  go_wp2
  go_ret
  exact ⟨rfl, rfl⟩
theorem bin_7 (w : World) : Calls Try.prog 57 #[.int .i64 7] w (fun e w' => e = .returned (.func (.func 96) #[] #[]) ∧ w' = w) := by
  go_enter Try.func57, Try.ntmps57
  go_wp2
  go_ret
  exact ⟨rfl, rfl⟩
theorem bin_8 (w : World) : Calls Try.prog 57 #[.int .i64 8] w (fun e w' => e = .returned (.func (.func 97) #[] #[]) ∧ w' = w) := by
  go_enter Try.func57, Try.ntmps57
  go_wp2
  go_ret
  exact ⟨rfl, rfl⟩
theorem log_9 (w : World) : Calls Try.prog 98 #[.int .i64 9] w (fun e w' => e = .returned (.func (.func 124) #[] #[]) ∧ w' = w) := by
  go_enter Try.func98, Try.ntmps98
  go_wp2
  go_ret
  exact ⟨rfl, rfl⟩
theorem bin_9 (w : World) : Calls Try.prog 57 #[.int .i64 9] w (fun e w' => e = .returned (.func (.func 124) #[] #[]) ∧ w' = w) := by
  have h := log_9
  go_enter Try.func57, Try.ntmps57
  go_wp2_with (go_at_call 98; (with_reducible refine (h _).mono ?_); rintro e w' ⟨rfl, rfl⟩)
  go_ret
  exact ⟨rfl, rfl⟩
theorem log_10 (w : World) : Calls Try.prog 98 #[.int .i64 10] w (fun e w' => e = .returned (.func (.func 125) #[] #[]) ∧ w' = w) := by
  go_enter Try.func98, Try.ntmps98
  go_wp2
  go_ret
  exact ⟨rfl, rfl⟩
theorem bin_10 (w : World) : Calls Try.prog 57 #[.int .i64 10] w (fun e w' => e = .returned (.func (.func 125) #[] #[]) ∧ w' = w) := by
  have h := log_10
  go_enter Try.func57, Try.ntmps57
  go_wp2_with (go_at_call 98; (with_reducible refine (h _).mono ?_); rintro e w' ⟨rfl, rfl⟩)
  go_ret
  exact ⟨rfl, rfl⟩
theorem log_11 (w : World) : Calls Try.prog 98 #[.int .i64 11] w (fun e w' => e = .returned (.func (.func 126) #[] #[]) ∧ w' = w) := by
  go_enter Try.func98, Try.ntmps98
  go_wp2
  go_ret
  exact ⟨rfl, rfl⟩
theorem bin_11 (w : World) : Calls Try.prog 57 #[.int .i64 11] w (fun e w' => e = .returned (.func (.func 126) #[] #[]) ∧ w' = w) := by
  have h := log_11
  go_enter Try.func57, Try.ntmps57
  go_wp2_with (go_at_call 98; (with_reducible refine (h _).mono ?_); rintro e w' ⟨rfl, rfl⟩)
  go_ret
  exact ⟨rfl, rfl⟩
theorem log_12 (w : World) : Calls Try.prog 98 #[.int .i64 12] w (fun e w' => e = .returned (.func (.func 127) #[] #[]) ∧ w' = w) := by
  go_enter Try.func98, Try.ntmps98
  go_wp2
  go_ret
  exact ⟨rfl, rfl⟩
theorem bin_12 (w : World) : Calls Try.prog 57 #[.int .i64 12] w (fun e w' => e = .returned (.func (.func 127) #[] #[]) ∧ w' = w) := by
  have h := log_12
  go_enter Try.func57, Try.ntmps57
  go_wp2_with (go_at_call 98; (with_reducible refine (h _).mono ?_); rintro e w' ⟨rfl, rfl⟩)
  go_ret
  exact ⟨rfl, rfl⟩
theorem log_13 (w : World) : Calls Try.prog 98 #[.int .i64 13] w (fun e w' => e = .returned (.func (.func 128) #[] #[]) ∧ w' = w) := by
  go_enter Try.func98, Try.ntmps98
  go_wp2
  go_ret
  exact ⟨rfl, rfl⟩
theorem bin_13 (w : World) : Calls Try.prog 57 #[.int .i64 13] w (fun e w' => e = .returned (.func (.func 128) #[] #[]) ∧ w' = w) := by
  have h := log_13
  go_enter Try.func57, Try.ntmps57
  go_wp2_with (go_at_call 98; (with_reducible refine (h _).mono ?_); rintro e w' ⟨rfl, rfl⟩)
  go_ret
  exact ⟨rfl, rfl⟩
theorem log_14 (w : World) : Calls Try.prog 98 #[.int .i64 14] w (fun e w' => e = .returned (.func (.func 129) #[] #[]) ∧ w' = w) := by
  go_enter Try.func98, Try.ntmps98
  go_wp2
  go_ret
  exact ⟨rfl, rfl⟩
theorem bin_14 (w : World) : Calls Try.prog 57 #[.int .i64 14] w (fun e w' => e = .returned (.func (.func 129) #[] #[]) ∧ w' = w) := by
  have h := log_14
  go_enter Try.func57, Try.ntmps57
  go_wp2_with (go_at_call 98; (with_reducible refine (h _).mono ?_); rintro e w' ⟨rfl, rfl⟩)
  go_ret
  exact ⟨rfl, rfl⟩
theorem log_15 (w : World) : Calls Try.prog 98 #[.int .i64 15] w (fun e w' => e = .returned (.func (.func 130) #[] #[]) ∧ w' = w) := by
  go_enter Try.func98, Try.ntmps98
  go_wp2
  go_ret
  exact ⟨rfl, rfl⟩
theorem bin_15 (w : World) : Calls Try.prog 57 #[.int .i64 15] w (fun e w' => e = .returned (.func (.func 130) #[] #[]) ∧ w' = w) := by
  have h := log_15
  go_enter Try.func57, Try.ntmps57
  go_wp2_with (go_at_call 98; (with_reducible refine (h _).mono ?_); rintro e w' ⟨rfl, rfl⟩)
  go_ret
  exact ⟨rfl, rfl⟩
theorem log_16 (w : World) : Calls Try.prog 98 #[.int .i64 16] w (fun e w' => e = .returned (.func (.func 131) #[] #[]) ∧ w' = w) := by
  go_enter Try.func98, Try.ntmps98
  go_wp2
  go_ret
  exact ⟨rfl, rfl⟩
theorem bin_16 (w : World) : Calls Try.prog 57 #[.int .i64 16] w (fun e w' => e = .returned (.func (.func 131) #[] #[]) ∧ w' = w) := by
  have h := log_16
  go_enter Try.func57, Try.ntmps57
  go_wp2_with (go_at_call 98; (with_reducible refine (h _).mono ?_); rintro e w' ⟨rfl, rfl⟩)
  go_ret
  exact ⟨rfl, rfl⟩
theorem two_1 (x y a b : Int) (w : World) (h : ∀ w, Calls Try.prog 90 #[.agg #[.int .i64 x, .int .i64 y]] w (GaveP w a b)) : Calls Try.prog 24 #[.int .i64 1, .int .i64 x, .int .i64 y] w (GaveP w a b) := by
  have hb := bin_1
  have hn := sfunc_nil 90
  go_enter Try.func24, Try.ntmps24
  go_wp2_with fail
  refine (hb _).mono ?_
  rintro e w' ⟨rfl, rfl⟩
  go_wp2_with fail
  refine (h _).mono ?_
  rintro e w' ⟨rfl, hC⟩
  go_wp2
  go_ret2
  exact ⟨rfl, hC⟩
theorem two_2 (x y a b : Int) (w : World) (h : ∀ w, Calls Try.prog 91 #[.agg #[.int .i64 x, .int .i64 y]] w (GaveP w a b)) : Calls Try.prog 24 #[.int .i64 2, .int .i64 x, .int .i64 y] w (GaveP w a b) := by
  have hb := bin_2
  have hn := sfunc_nil 91
  go_enter Try.func24, Try.ntmps24
  go_wp2_with fail
  refine (hb _).mono ?_
  rintro e w' ⟨rfl, rfl⟩
  go_wp2_with fail
  refine (h _).mono ?_
  rintro e w' ⟨rfl, hC⟩
  go_wp2
  go_ret2
  exact ⟨rfl, hC⟩
theorem two_3 (x y a b : Int) (w : World) (h : ∀ w, Calls Try.prog 92 #[.agg #[.int .i64 x, .int .i64 y]] w (GaveP w a b)) : Calls Try.prog 24 #[.int .i64 3, .int .i64 x, .int .i64 y] w (GaveP w a b) := by
  have hb := bin_3
  have hn := sfunc_nil 92
  go_enter Try.func24, Try.ntmps24
  go_wp2_with fail
  refine (hb _).mono ?_
  rintro e w' ⟨rfl, rfl⟩
  go_wp2_with fail
  refine (h _).mono ?_
  rintro e w' ⟨rfl, hC⟩
  go_wp2
  go_ret2
  exact ⟨rfl, hC⟩
theorem two_4 (x y a b : Int) (w : World) (h : ∀ w, Calls Try.prog 93 #[.agg #[.int .i64 x, .int .i64 y]] w (GaveP w a b)) : Calls Try.prog 24 #[.int .i64 4, .int .i64 x, .int .i64 y] w (GaveP w a b) := by
  have hb := bin_4
  have hn := sfunc_nil 93
  go_enter Try.func24, Try.ntmps24
  go_wp2_with fail
  refine (hb _).mono ?_
  rintro e w' ⟨rfl, rfl⟩
  go_wp2_with fail
  refine (h _).mono ?_
  rintro e w' ⟨rfl, hC⟩
  go_wp2
  go_ret2
  exact ⟨rfl, hC⟩
theorem two_5 (x y a b : Int) (w : World) (h : ∀ w, Calls Try.prog 94 #[.agg #[.int .i64 x, .int .i64 y]] w (GaveP w a b)) : Calls Try.prog 24 #[.int .i64 5, .int .i64 x, .int .i64 y] w (GaveP w a b) := by
  have hb := bin_5
  have hn := sfunc_nil 94
  go_enter Try.func24, Try.ntmps24
  go_wp2_with fail
  refine (hb _).mono ?_
  rintro e w' ⟨rfl, rfl⟩
  go_wp2_with fail
  refine (h _).mono ?_
  rintro e w' ⟨rfl, hC⟩
  go_wp2
  go_ret2
  exact ⟨rfl, hC⟩
theorem two_6 (x y a b : Int) (w : World) (h : ∀ w, Calls Try.prog 95 #[.agg #[.int .i64 x, .int .i64 y]] w (GaveP w a b)) : Calls Try.prog 24 #[.int .i64 6, .int .i64 x, .int .i64 y] w (GaveP w a b) := by
  have hb := bin_6
  have hn := sfunc_nil 95
  go_enter Try.func24, Try.ntmps24
  go_wp2_with fail
  refine (hb _).mono ?_
  rintro e w' ⟨rfl, rfl⟩
  go_wp2_with fail
  refine (h _).mono ?_
  rintro e w' ⟨rfl, hC⟩
  go_wp2
  go_ret2
  exact ⟨rfl, hC⟩
theorem two_7 (x y a b : Int) (w : World) (h : ∀ w, Calls Try.prog 96 #[.agg #[.int .i64 x, .int .i64 y]] w (GaveP w a b)) : Calls Try.prog 24 #[.int .i64 7, .int .i64 x, .int .i64 y] w (GaveP w a b) := by
  have hb := bin_7
  have hn := sfunc_nil 96
  go_enter Try.func24, Try.ntmps24
  go_wp2_with fail
  refine (hb _).mono ?_
  rintro e w' ⟨rfl, rfl⟩
  go_wp2_with fail
  refine (h _).mono ?_
  rintro e w' ⟨rfl, hC⟩
  go_wp2
  go_ret2
  exact ⟨rfl, hC⟩
theorem two_8 (x y a b : Int) (w : World) (h : ∀ w, Calls Try.prog 97 #[.agg #[.int .i64 x, .int .i64 y]] w (GaveP w a b)) : Calls Try.prog 24 #[.int .i64 8, .int .i64 x, .int .i64 y] w (GaveP w a b) := by
  have hb := bin_8
  have hn := sfunc_nil 97
  go_enter Try.func24, Try.ntmps24
  go_wp2_with fail
  refine (hb _).mono ?_
  rintro e w' ⟨rfl, rfl⟩
  go_wp2_with fail
  refine (h _).mono ?_
  rintro e w' ⟨rfl, hC⟩
  go_wp2
  go_ret2
  exact ⟨rfl, hC⟩
theorem two_9 (x y a b : Int) (w : World) (h : ∀ w, Calls Try.prog 124 #[.agg #[.int .i64 x, .int .i64 y]] w (GaveP w a b)) : Calls Try.prog 24 #[.int .i64 9, .int .i64 x, .int .i64 y] w (GaveP w a b) := by
  have hb := bin_9
  have hn := sfunc_nil 124
  go_enter Try.func24, Try.ntmps24
  go_wp2_with fail
  refine (hb _).mono ?_
  rintro e w' ⟨rfl, rfl⟩
  go_wp2_with fail
  refine (h _).mono ?_
  rintro e w' ⟨rfl, hC⟩
  go_wp2
  go_ret2
  exact ⟨rfl, hC⟩
theorem two_10 (x y a b : Int) (w : World) (h : ∀ w, Calls Try.prog 125 #[.agg #[.int .i64 x, .int .i64 y]] w (GaveP w a b)) : Calls Try.prog 24 #[.int .i64 10, .int .i64 x, .int .i64 y] w (GaveP w a b) := by
  have hb := bin_10
  have hn := sfunc_nil 125
  go_enter Try.func24, Try.ntmps24
  go_wp2_with fail
  refine (hb _).mono ?_
  rintro e w' ⟨rfl, rfl⟩
  go_wp2_with fail
  refine (h _).mono ?_
  rintro e w' ⟨rfl, hC⟩
  go_wp2
  go_ret2
  exact ⟨rfl, hC⟩
theorem two_11 (x y a b : Int) (w : World) (h : ∀ w, Calls Try.prog 126 #[.agg #[.int .i64 x, .int .i64 y]] w (GaveP w a b)) : Calls Try.prog 24 #[.int .i64 11, .int .i64 x, .int .i64 y] w (GaveP w a b) := by
  have hb := bin_11
  have hn := sfunc_nil 126
  go_enter Try.func24, Try.ntmps24
  go_wp2_with fail
  refine (hb _).mono ?_
  rintro e w' ⟨rfl, rfl⟩
  go_wp2_with fail
  refine (h _).mono ?_
  rintro e w' ⟨rfl, hC⟩
  go_wp2
  go_ret2
  exact ⟨rfl, hC⟩
theorem two_12 (x y a b : Int) (w : World) (h : ∀ w, Calls Try.prog 127 #[.agg #[.int .i64 x, .int .i64 y]] w (GaveP w a b)) : Calls Try.prog 24 #[.int .i64 12, .int .i64 x, .int .i64 y] w (GaveP w a b) := by
  have hb := bin_12
  have hn := sfunc_nil 127
  go_enter Try.func24, Try.ntmps24
  go_wp2_with fail
  refine (hb _).mono ?_
  rintro e w' ⟨rfl, rfl⟩
  go_wp2_with fail
  refine (h _).mono ?_
  rintro e w' ⟨rfl, hC⟩
  go_wp2
  go_ret2
  exact ⟨rfl, hC⟩
theorem two_13 (x y a b : Int) (w : World) (h : ∀ w, Calls Try.prog 128 #[.agg #[.int .i64 x, .int .i64 y]] w (GaveP w a b)) : Calls Try.prog 24 #[.int .i64 13, .int .i64 x, .int .i64 y] w (GaveP w a b) := by
  have hb := bin_13
  have hn := sfunc_nil 128
  go_enter Try.func24, Try.ntmps24
  go_wp2_with fail
  refine (hb _).mono ?_
  rintro e w' ⟨rfl, rfl⟩
  go_wp2_with fail
  refine (h _).mono ?_
  rintro e w' ⟨rfl, hC⟩
  go_wp2
  go_ret2
  exact ⟨rfl, hC⟩
theorem two_14 (x y a b : Int) (w : World) (h : ∀ w, Calls Try.prog 129 #[.agg #[.int .i64 x, .int .i64 y]] w (GaveP w a b)) : Calls Try.prog 24 #[.int .i64 14, .int .i64 x, .int .i64 y] w (GaveP w a b) := by
  have hb := bin_14
  have hn := sfunc_nil 129
  go_enter Try.func24, Try.ntmps24
  go_wp2_with fail
  refine (hb _).mono ?_
  rintro e w' ⟨rfl, rfl⟩
  go_wp2_with fail
  refine (h _).mono ?_
  rintro e w' ⟨rfl, hC⟩
  go_wp2
  go_ret2
  exact ⟨rfl, hC⟩
theorem two_15 (x y a b : Int) (w : World) (h : ∀ w, Calls Try.prog 130 #[.agg #[.int .i64 x, .int .i64 y]] w (GaveP w a b)) : Calls Try.prog 24 #[.int .i64 15, .int .i64 x, .int .i64 y] w (GaveP w a b) := by
  have hb := bin_15
  have hn := sfunc_nil 130
  go_enter Try.func24, Try.ntmps24
  go_wp2_with fail
  refine (hb _).mono ?_
  rintro e w' ⟨rfl, rfl⟩
  go_wp2_with fail
  refine (h _).mono ?_
  rintro e w' ⟨rfl, hC⟩
  go_wp2
  go_ret2
  exact ⟨rfl, hC⟩
theorem two_16 (x y a b : Int) (w : World) (h : ∀ w, Calls Try.prog 131 #[.agg #[.int .i64 x, .int .i64 y]] w (GaveP w a b)) : Calls Try.prog 24 #[.int .i64 16, .int .i64 x, .int .i64 y] w (GaveP w a b) := by
  have hb := bin_16
  have hn := sfunc_nil 131
  go_enter Try.func24, Try.ntmps24
  go_wp2_with fail
  refine (hb _).mono ?_
  rintro e w' ⟨rfl, rfl⟩
  go_wp2_with fail
  refine (h _).mono ?_
  rintro e w' ⟨rfl, hC⟩
  go_wp2
  go_ret2
  exact ⟨rfl, hC⟩
end Go.Proofs.Ytjmlekdgipinfaa
