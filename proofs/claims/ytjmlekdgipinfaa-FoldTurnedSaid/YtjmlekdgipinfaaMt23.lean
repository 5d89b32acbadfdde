/- The functions of numbers: products. -/
import Derived.Test.YtjmlekdgipinfaaMt21
import Derived.Lib.Mul64
import Derived.Laws.Bits64b
import Derived.Deep.RegionHeld3
namespace Go.Proofs.Ytjmlekdgipinfaa
open Go.RowKit

theorem maskM (a : Nat) (ha : a < 18446744073709551616) : bits .and .u64 (a : Int) 4294967295 = ((a % 4294967296 : Nat) : Int) := by
  have h := bits_and_u64_nat a 4294967295 ha (by omega)
  rw [show a &&& 4294967295 = a % 4294967296 from Nat.and_two_pow_sub_one_eq_mod a 32] at h
  exact h
theorem divM (a : Nat) : (a : Int) / 4294967296 = ((a / 4294967296 : Nat) : Int) := by omega
theorem mulM (a b : Nat) : (a : Int) * (b : Int) = ((a * b : Nat) : Int) := (Int.natCast_mul a b).symm
theorem addM (a b : Nat) : (a : Int) + (b : Int) = ((a + b : Nat) : Int) := (Int.natCast_add a b).symm
theorem wrapU (a : Nat) (ha : a < 18446744073709551616) : IntKind.u64.wrap (a : Int) = (a : Int) := by rw [IntKind.wrap_u64]; omega
theorem wrapV (a : Nat) : IntKind.u64.wrap (a : Int) = ((a % 18446744073709551616 : Nat) : Int) := by rw [IntKind.wrap_u64]; omega

set_option maxHeartbeats 1000000 in
theorem mul64_any (x y : Nat) (hx : x < 18446744073709551616) (hy : y < 18446744073709551616) (w : World) :
    Calls Try.prog 121 #[.int .u64 (x : Int), .int .u64 (y : Int)] w fun e w' => e = .returned (.tuple #[.int .u64 ((x * y / 18446744073709551616 : Nat) : Int), .int .u64 ((x * y % 18446744073709551616 : Nat) : Int)]) ∧ w' = w := by
  obtain ⟨bd, bt, bw, hhi⟩ := Lib.mul64_hi x y hx hy
  have ba := Lib.half_mul_le (a := x / 4294967296) (b := y / 4294967296) (by omega) (by omega)
  have bb := Lib.half_mul_le (a := x / 4294967296) (b := y % 4294967296) (by omega) (by omega)
  have bc := Lib.half_mul_le (a := x % 4294967296) (b := y / 4294967296) (by omega) (by omega)
  have ba' : x / 4294967296 * (y / 4294967296) < 18446744073709551616 := by omega
  have bb' : x / 4294967296 * (y % 4294967296) < 18446744073709551616 := by omega
  have bc' : x % 4294967296 * (y / 4294967296) < 18446744073709551616 := by omega
  have bh1 : x / 4294967296 * (y / 4294967296) + (x / 4294967296 * (y % 4294967296) + x % 4294967296 * (y % 4294967296) / 4294967296) / 4294967296 < 18446744073709551616 := by omega
  have bh : x / 4294967296 * (y / 4294967296) + (x / 4294967296 * (y % 4294967296) + x % 4294967296 * (y % 4294967296) / 4294967296) / 4294967296 + ((x / 4294967296 * (y % 4294967296) + x % 4294967296 * (y % 4294967296) / 4294967296) % 4294967296 + x % 4294967296 * (y / 4294967296)) / 4294967296 < 18446744073709551616 := by omega
  go_enter Try.func121, Try.ntmps121
  go_wp2
  simp only [maskM x hx, maskM y hy, divM, mulM, addM, wrapU _ bd, wrapU _ bb', wrapU _ bt, maskM _ bt, wrapU _ bc', wrapU _ bw, wrapU _ ba', wrapU _ bh1, wrapU _ bh, wrapV (x * y)]
  rw [hhi]
  go_ret2
  exact ⟨rfl, rfl⟩

theorem mul_sgn (x y : Int) : (x < 0 → y < 0 → x * y = ((x * y).natAbs : Int)) ∧ (¬ x < 0 → ¬ y < 0 → x * y = ((x * y).natAbs : Int)) ∧ (x < 0 → ¬ y < 0 → x * y = -((x * y).natAbs : Int)) ∧ (¬ x < 0 → y < 0 → x * y = -((x * y).natAbs : Int)) := by
  have e : ((x * y).natAbs : Int) = (x.natAbs : Int) * (y.natAbs : Int) := by rw [Int.natAbs_mul]; exact Int.natCast_mul _ _
  rw [e]
  have a1 : x < 0 → x = -(x.natAbs : Int) := by omega
  have a2 : ¬ x < 0 → x = (x.natAbs : Int) := by omega
  have b1 : y < 0 → y = -(y.natAbs : Int) := by omega
  have b2 : ¬ y < 0 → y = (y.natAbs : Int) := by omega
  generalize (x.natAbs : Int) = p at *
  generalize (y.natAbs : Int) = q at *
  refine ⟨fun h k => ?_, fun h k => ?_, fun h k => ?_, fun h k => ?_⟩
  · rw [a1 h, b1 k, Int.neg_mul_neg]
  · rw [a2 h, b2 k]
  · rw [a1 h, b2 k, Int.neg_mul]
  · rw [a2 h, b1 k, Int.mul_neg]
set_option maxHeartbeats 2000000 in
theorem mul_big (x y : Int) (p q h l : Nat) (s1 : ∀ w, Calls Try.prog 122 #[.int .i64 x] w (fun e w' => e = .returned (.int .u64 (p : Int)) ∧ w' = w)) (s2 : ∀ w, Calls Try.prog 122 #[.int .i64 y] w (fun e w' => e = .returned (.int .u64 (q : Int)) ∧ w' = w))
    (m1 : ∀ w, Calls Try.prog 121 #[.int .u64 (p : Int), .int .u64 (q : Int)] w fun e w' => e = .returned (.tuple #[.int .u64 (h : Int), .int .u64 (l : Int)]) ∧ w' = w) (hh : 0 < h) (w : World) : Calls Try.prog 92 #[.agg #[.int .i64 x, .int .i64 y]] w (GaveP w 0 7) := by
  go_enter Try.func92, Try.ntmps92
  go_wp2_with fail
  go_region_held3 (fun w' => w' = (w.alloc (.cells #[.int .i64 x, .int .i64 y] 93)).drew) (rfl) (first
    | (go_at_call 122; (with_reducible refine (s1 _).mono ?_); rintro e w' ⟨rfl, rfl⟩)
    | (go_at_call 122; (with_reducible refine (s2 _).mono ?_); rintro e w' ⟨rfl, rfl⟩)
    | (go_at_call 121; (with_reducible refine (m1 _).mono ?_); rintro e w' ⟨rfl, rfl⟩))
  all_goals
    go_wp2
    go_ret2
    exact ⟨rfl, ((Chg.refl _ w).alloc _).drew⟩
set_option maxHeartbeats 2000000 in
theorem mul_low (x y : Int) (z : Int) (p q l : Nat) (s1 : ∀ w, Calls Try.prog 122 #[.int .i64 x] w (fun e w' => e = .returned (.int .u64 (p : Int)) ∧ w' = w)) (s2 : ∀ w, Calls Try.prog 122 #[.int .i64 y] w (fun e w' => e = .returned (.int .u64 (q : Int)) ∧ w' = w))
    (m1 : ∀ w, Calls Try.prog 121 #[.int .u64 (p : Int), .int .u64 (q : Int)] w fun e w' => e = .returned (.tuple #[.int .u64 ((0 : Nat) : Int), .int .u64 (l : Int)]) ∧ w' = w) (hl : l < 18446744073709551616)
    (h1 : x < 0 → y < 0 → z = l) (h2 : ¬ x < 0 → ¬ y < 0 → z = l) (h3 : x < 0 → ¬ y < 0 → z = -(l : Int)) (h4 : ¬ x < 0 → y < 0 → z = -(l : Int)) (w : World) : Calls Try.prog 92 #[.agg #[.int .i64 x, .int .i64 y]] w (GaveP w (fitN z) (fitE z)) := by
  by_cases hx : x < 0 <;> by_cases hy : y < 0
  · have hz := h1 hx hy
    have dx : decide (x < 0) = true := decide_eq_true hx
    have dy : decide (y < 0) = true := decide_eq_true hy
    have c1 : ∀ w, Calls Try.prog 123 #[.int .u64 (l : Int), .bool false] w (GaveP w (fitN z) (fitE z)) := fun w => by rw [hz]; exact signed_pos l w hl
    clear h1 h2 h3 h4 hz hx hy
    go_enter Try.func92, Try.ntmps92
    go_wp2_with fail
    go_region_held3 (fun w' => w' = (w.alloc (.cells #[.int .i64 x, .int .i64 y] 93)).drew) (rfl) (first
      | (go_at_call 122; (with_reducible refine (s1 _).mono ?_); rintro e w' ⟨rfl, rfl⟩)
      | (go_at_call 122; (with_reducible refine (s2 _).mono ?_); rintro e w' ⟨rfl, rfl⟩)
      | (go_at_call 121; (with_reducible refine (m1 _).mono ?_); rintro e w' ⟨rfl, rfl⟩))
    all_goals
      go_wp2_with (go_at_call 123; (with_reducible refine (c1 _).mono ?_); rintro e w' ⟨rfl, hC⟩)
      go_ret2
      exact ⟨rfl, (((Chg.refl _ w).alloc _).drew).tr hC⟩
  · have hz := h3 hx hy
    have dx : decide (x < 0) = true := decide_eq_true hx
    have dy : decide (y < 0) = false := decide_eq_false hy
    have c2 : ∀ w, Calls Try.prog 123 #[.int .u64 (l : Int), .bool true] w (GaveP w (fitN z) (fitE z)) := fun w => by rw [hz]; exact signed_neg l w hl
    clear h1 h2 h3 h4 hz hx hy
    go_enter Try.func92, Try.ntmps92
    go_wp2_with fail
    go_region_held3 (fun w' => w' = (w.alloc (.cells #[.int .i64 x, .int .i64 y] 93)).drew) (rfl) (first
      | (go_at_call 122; (with_reducible refine (s1 _).mono ?_); rintro e w' ⟨rfl, rfl⟩)
      | (go_at_call 122; (with_reducible refine (s2 _).mono ?_); rintro e w' ⟨rfl, rfl⟩)
      | (go_at_call 121; (with_reducible refine (m1 _).mono ?_); rintro e w' ⟨rfl, rfl⟩))
    all_goals
      go_wp2_with (go_at_call 123; (with_reducible refine (c2 _).mono ?_); rintro e w' ⟨rfl, hC⟩)
      go_ret2
      exact ⟨rfl, (((Chg.refl _ w).alloc _).drew).tr hC⟩
  · have hz := h4 hx hy
    have dx : decide (x < 0) = false := decide_eq_false hx
    have dy : decide (y < 0) = true := decide_eq_true hy
    have c2 : ∀ w, Calls Try.prog 123 #[.int .u64 (l : Int), .bool true] w (GaveP w (fitN z) (fitE z)) := fun w => by rw [hz]; exact signed_neg l w hl
    clear h1 h2 h3 h4 hz hx hy
    go_enter Try.func92, Try.ntmps92
    go_wp2_with fail
    go_region_held3 (fun w' => w' = (w.alloc (.cells #[.int .i64 x, .int .i64 y] 93)).drew) (rfl) (first
      | (go_at_call 122; (with_reducible refine (s1 _).mono ?_); rintro e w' ⟨rfl, rfl⟩)
      | (go_at_call 122; (with_reducible refine (s2 _).mono ?_); rintro e w' ⟨rfl, rfl⟩)
      | (go_at_call 121; (with_reducible refine (m1 _).mono ?_); rintro e w' ⟨rfl, rfl⟩))
    all_goals
      go_wp2_with (go_at_call 123; (with_reducible refine (c2 _).mono ?_); rintro e w' ⟨rfl, hC⟩)
      go_ret2
      exact ⟨rfl, (((Chg.refl _ w).alloc _).drew).tr hC⟩
  · have hz := h2 hx hy
    have dx : decide (x < 0) = false := decide_eq_false hx
    have dy : decide (y < 0) = false := decide_eq_false hy
    have c1 : ∀ w, Calls Try.prog 123 #[.int .u64 (l : Int), .bool false] w (GaveP w (fitN z) (fitE z)) := fun w => by rw [hz]; exact signed_pos l w hl
    clear h1 h2 h3 h4 hz hx hy
    go_enter Try.func92, Try.ntmps92
    go_wp2_with fail
    go_region_held3 (fun w' => w' = (w.alloc (.cells #[.int .i64 x, .int .i64 y] 93)).drew) (rfl) (first
      | (go_at_call 122; (with_reducible refine (s1 _).mono ?_); rintro e w' ⟨rfl, rfl⟩)
      | (go_at_call 122; (with_reducible refine (s2 _).mono ?_); rintro e w' ⟨rfl, rfl⟩)
      | (go_at_call 121; (with_reducible refine (m1 _).mono ?_); rintro e w' ⟨rfl, rfl⟩))
    all_goals
      go_wp2_with (go_at_call 123; (with_reducible refine (c1 _).mono ?_); rintro e w' ⟨rfl, hC⟩)
      go_ret2
      exact ⟨rfl, (((Chg.refl _ w).alloc _).drew).tr hC⟩
theorem mul_any (x y : Int) (hx : In x) (hy : In y) (w : World) : Calls Try.prog 92 #[.agg #[.int .i64 x, .int .i64 y]] w (GaveP w (fitN (x * y)) (fitE (x * y))) := by
  have hnx : x.natAbs ≤ 9223372036854775808 := by unfold In at hx; omega
  have hny : y.natAbs ≤ 9223372036854775808 := by unfold In at hy; omega
  have hab : (x * y).natAbs = x.natAbs * y.natAbs := Int.natAbs_mul x y
  have s1 := size_any x hx
  have s2 := size_any y hy
  have m1 := mul64_any x.natAbs y.natAbs (by omega) (by omega)
  rw [← hab] at m1
  obtain ⟨h1, h2, h3, h4⟩ := mul_sgn x y
  by_cases hh : (x * y).natAbs < 18446744073709551616
  · rw [Nat.div_eq_of_lt hh, Nat.mod_eq_of_lt hh] at m1
    exact mul_low x y (x * y) _ _ _ s1 s2 m1 hh h1 h2 h3 h4 w
  · have ho : ¬ In (x * y) := by unfold In; omega
    rw [fitN_out ho, fitE_out ho]
    exact mul_big x y _ _ _ _ s1 s2 m1 (by omega) w
end Go.Proofs.Ytjmlekdgipinfaa
