/- The functions of numbers: powers. -/
import Derived.Test.YtjmlekdgipinfaaMt24
import Derived.Laws.Bits128
namespace Go.Proofs.Ytjmlekdgipinfaa
open Go.RowKit

theorem and_one64 (n : Int) : bits .and .i64 n 1 = n % 2 := by
  have h1 : (BitVec.ofInt 64 1).toNat = 2 ^ 1 - 1 := by decide
  have key : (BitVec.ofInt 64 n &&& BitVec.ofInt 64 1).toNat = (n % ((2 ^ 64 : Nat) : Int)).toNat % 2 ^ 1 := by
    rw [BitVec.toNat_and, BitVec.toNat_ofInt, h1, Nat.and_two_pow_sub_one_eq_mod]
  show IntKind.i64.wrap ((BitVec.ofInt 64 n &&& BitVec.ofInt 64 1).toNat : Nat) = n % 2
  rw [key, IntKind.wrap_i64]
  omega
theorem pow_one (y : Int) (w : World) : Calls Try.prog 97 #[.agg #[.int .i64 1, .int .i64 y]] w (GaveP w 1 0) := by
  obtain ⟨o, ho⟩ : ∃ o, bits .and .i64 y 1 = o := ⟨_, rfl⟩
  go_enter Try.func97, Try.ntmps97
  go_wp2
  go_ret2
  exact ⟨rfl, (Chg.refl _ w).alloc _⟩
theorem pow_y0 (x : Int) (w : World) (h1 : (x == 1) = false) : Calls Try.prog 97 #[.agg #[.int .i64 x, .int .i64 0]] w (GaveP w 1 0) := by
  go_enter Try.func97, Try.ntmps97
  go_wp2
  go_ret2
  exact ⟨rfl, (Chg.refl _ w).alloc _⟩
theorem pow_m1 (y : Int) (w : World) (b : Bool) (h0 : (y == 0) = false) (hb : (y % 2 == 1) = b) : Calls Try.prog 97 #[.agg #[.int .i64 (-1), .int .i64 y]] w (GaveP w (if b then -1 else 1) 0) := by
  have ho := and_one64 y
  generalize y % 2 = o at *
  cases b
  · go_enter Try.func97, Try.ntmps97
    go_wp2
    go_ret2
    exact ⟨rfl, (Chg.refl _ w).alloc _⟩
  · go_enter Try.func97, Try.ntmps97
    go_wp2
    go_ret2
    exact ⟨rfl, (Chg.refl _ w).alloc _⟩
theorem pow_neg (x y : Int) (w : World) (h1 : (x == 1) = false) (h2 : (x == -1) = false) (h0 : (y == 0) = false) (hy : decide (y < 0) = true) : Calls Try.prog 97 #[.agg #[.int .i64 x, .int .i64 y]] w (GaveP w 0 5) := by
  have ho := and_one64 y
  generalize y % 2 = o at *
  go_enter Try.func97, Try.ntmps97
  go_wp2
  go_ret2
  exact ⟨rfl, (Chg.refl _ w).alloc _⟩
theorem pow_x0 (y : Int) (w : World) (h0 : (y == 0) = false) (hy : decide (y < 0) = false) : Calls Try.prog 97 #[.agg #[.int .i64 0, .int .i64 y]] w (GaveP w 0 0) := by
  have ho := and_one64 y
  generalize y % 2 = o at *
  go_enter Try.func97, Try.ntmps97
  go_wp2
  go_ret2
  exact ⟨rfl, (Chg.refl _ w).alloc _⟩
theorem pow_63 (x y : Int) (w : World) (h1 : (x == 1) = false) (h2 : (x == -1) = false) (hx0 : (x == 0) = false) (h0 : (y == 0) = false) (hy : decide (y < 0) = false) (h63 : decide (63 < y) = true) : Calls Try.prog 97 #[.agg #[.int .i64 x, .int .i64 y]] w (GaveP w 0 7) := by
  have ho := and_one64 y
  generalize y % 2 = o at *
  go_enter Try.func97, Try.ntmps97
  go_wp2
  go_ret2
  exact ⟨rfl, (Chg.refl _ w).alloc _⟩
set_option maxHeartbeats 4000000 in
theorem pow_main (x : Int) (y p : Nat) (w : World) (h1 : (x == 1) = false) (h2 : (x == -1) = false) (hx0 : (x == 0) = false) (h0 : (((y : Nat) : Int) == 0) = false) (h63 : decide (63 < ((y : Nat) : Int)) = false) (hp2 : 2 ≤ p) (hp : p < 18446744073709551616)
    (s1 : ∀ w, Calls Try.prog 122 #[.int .i64 x] w (fun e w' => e = .returned (.int .u64 (p : Int)) ∧ w' = w)) (b : Bool) (hb : (((y : Nat) : Int) % 2 == 1) = b) (d : Bool) (hd : decide (x < 0) = d) (z : Int)
    (hz : z = if (d && b) = true then -((p ^ y : Nat) : Int) else ((p ^ y : Nat) : Int)) :
    Calls Try.prog 97 #[.agg #[.int .i64 x, .int .i64 ((y : Nat) : Int)]] w (GaveP w (fitN z) (fitE z)) := by
  have ho := and_one64 (y : Int)
  have hy : decide (((y : Nat) : Int) < 0) = false := decide_eq_false (by omega)
  obtain ⟨o, hob⟩ : ∃ o, ((y : Nat) : Int) % 2 = o := ⟨_, rfl⟩
  rw [hob] at ho hb
  have HZ := Lib.hid hz
  have HO := Lib.hid hob
  have HP2 := Lib.hid hp2
  clear hz hob hp2
  have hov : ∀ k, k < y → ¬ p ^ (k + 1) < 18446744073709551616 → fitN z = 0 ∧ fitE z = 7 := by
    intro k hk hbig
    have h1 : p ^ (k + 1) ≤ p ^ y := Nat.pow_le_pow_right (by have := HP2.out; omega) (by omega)
    have h2 : ¬ In z := by
      rw [HZ.out]
      unfold In
      split <;> omega
    exact ⟨fitN_out h2, fitE_out h2⟩
  have HOV := Lib.hid hov
  clear hov
  go_enter Try.func97, Try.ntmps97
  go_wp2
  go_loopw [5, 48] (fun n i wr => ∃ k : Nat, k ≤ y ∧ i = .int .i64 k ∧ n = .int .u64 ((p ^ k : Nat) : Int) ∧ p ^ k < 18446744073709551616 ∧ wr = w.alloc (.cells #[.int .i64 x, .int .i64 ((y : Nat) : Int)] 93))
    (fun _ i _ => y - (intOf i).toNat)
  case atStart => exact ⟨0, Nat.zero_le _, rfl, by rw [Nat.pow_zero]; rfl, by rw [Nat.pow_zero]; decide, rfl⟩
  case round =>
    obtain ⟨k, hk, rfl, rfl, hlt, rfl⟩ := hrel
    by_cases hky : k < y
    · have hky' : (k : Int) < (y : Int) := by omega
      have hy63 : y ≤ 63 := by have := of_decide_eq_false h63; omega
      have hkw : wrap64 ((k : Int) + 1) = (k : Int) + 1 := w64 _ (by unfold In; omega)
      have m1 := mul64_any (p ^ k) p hlt hp
      rw [← Nat.pow_succ] at m1
      have hov := HOV.out k hky
      obtain ⟨n2, hn2⟩ : ∃ n2, p ^ (k + 1) = n2 := ⟨_, rfl⟩
      rw [show k.succ = k + 1 from rfl, hn2] at m1
      rw [hn2] at hov
      have HN2 := Lib.hid hn2
      generalize p ^ k = n at *
      clear hn2
      by_cases hbig : n2 < 18446744073709551616
      · rw [Nat.div_eq_of_lt hbig, Nat.mod_eq_of_lt hbig] at m1
        clear hov
        go_wp2_with (first
          | (go_at_call 122; (with_reducible refine (s1 _).mono ?_); rintro e w' ⟨rfl, rfl⟩)
          | (go_at_call 121; (with_reducible refine (m1 _).mono ?_); rintro e w' ⟨rfl, rfl⟩))
        go_roundw
        case rel => exact ⟨k + 1, by omega, by go_num, by rw [HN2.out], by rw [HN2.out]; exact hbig, by first | rfl | trivial⟩
        case measure => first | (simp [intOf]; done) | (simp [intOf]; omega)
      · obtain ⟨e1, e2⟩ := hov hbig
        rw [e1, e2]
        have hh : 0 < n2 / 18446744073709551616 := by omega
        generalize n2 / 18446744073709551616 = h at *
        generalize n2 % 18446744073709551616 = l at *
        clear hov e1 e2 hbig
        go_wp2_with (first
          | (go_at_call 122; (with_reducible refine (s1 _).mono ?_); rintro e w' ⟨rfl, rfl⟩)
          | (go_at_call 121; (with_reducible refine (m1 _).mono ?_); rintro e w' ⟨rfl, rfl⟩))
        go_ret2
        exact ⟨rfl, (Chg.refl _ w).alloc _⟩
    · obtain rfl : y = k := by omega
      have hz := HZ.out
      generalize p ^ y = n at *
      clear HOV hk
      cases d <;> cases b
      · have c1 : ∀ w, Calls Try.prog 123 #[.int .u64 (n : Int), .bool false] w (GaveP w (fitN z) (fitE z)) := fun w => by rw [hz]; exact signed_pos n w hlt
        clear hz
        go_wp2_with (go_at_call 123; (with_reducible refine (c1 _).mono ?_); rintro e w' ⟨rfl, hC⟩)
        go_ret2
        exact ⟨rfl, hC.cells1⟩
      · have c1 : ∀ w, Calls Try.prog 123 #[.int .u64 (n : Int), .bool false] w (GaveP w (fitN z) (fitE z)) := fun w => by rw [hz]; exact signed_pos n w hlt
        clear hz
        go_wp2_with (go_at_call 123; (with_reducible refine (c1 _).mono ?_); rintro e w' ⟨rfl, hC⟩)
        go_ret2
        exact ⟨rfl, hC.cells1⟩
      · have c1 : ∀ w, Calls Try.prog 123 #[.int .u64 (n : Int), .bool false] w (GaveP w (fitN z) (fitE z)) := fun w => by rw [hz]; exact signed_pos n w hlt
        clear hz
        go_wp2_with (go_at_call 123; (with_reducible refine (c1 _).mono ?_); rintro e w' ⟨rfl, hC⟩)
        go_ret2
        exact ⟨rfl, hC.cells1⟩
      · have c1 : ∀ w, Calls Try.prog 123 #[.int .u64 (n : Int), .bool true] w (GaveP w (fitN z) (fitE z)) := fun w => by rw [hz]; exact signed_neg n w hlt
        clear hz
        go_wp2_with (go_at_call 123; (with_reducible refine (c1 _).mono ?_); rintro e w' ⟨rfl, hC⟩)
        go_ret2
        exact ⟨rfl, hC.cells1⟩
end Go.Proofs.Ytjmlekdgipinfaa
