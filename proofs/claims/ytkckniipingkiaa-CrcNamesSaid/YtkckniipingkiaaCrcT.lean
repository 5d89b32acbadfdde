/- times, and Join. -/
import Derived.Test.YtkckniipingkiaaCrcJ
namespace Go.Proofs.Ytkckniipingkiaa
open Go.RowKit

/-- How often a register is doubled till it is 0. -/
def dbl : Nat → Nat → Nat
  | 0, _ => 0
  | f + 1, b => if b = 0 then 0 else 1 + dbl f (b * 2 % 4294967296)
theorem dbl_fuel : ∀ f c, c < 4294967296 → c * 2 ^ f % 4294967296 = 0 → dbl (f + 1) c = dbl f c
  | 0, c, hc, h => by
    obtain rfl : c = 0 := by simpa [Nat.mod_eq_of_lt hc] using h
    rfl
  | f + 1, c, hc, h => by
    by_cases h0 : c = 0
    · subst h0; rfl
    · show (if c = 0 then 0 else 1 + dbl (f + 1) (c * 2 % 4294967296)) = if c = 0 then 0 else 1 + dbl f (c * 2 % 4294967296)
      rw [if_neg h0, if_neg h0, dbl_fuel f _ (Nat.mod_lt _ (by decide)) (by rw [Nat.mod_mul_mod, Nat.mul_assoc, Nat.mul_comm 2, ← Nat.pow_succ]; exact h)]
theorem dbl_lt (c : Nat) (h0 : c ≠ 0) : dbl 33 (c * 2 % 4294967296) < dbl 33 c := by
  have h1 : dbl 33 c = 1 + dbl 32 (c * 2 % 4294967296) := by show (if c = 0 then 0 else _) = _; rw [if_neg h0]
  rw [h1, dbl_fuel 32 _ (Nat.mod_lt _ (by decide)) (by rw [show (2 : Nat) ^ 32 = 4294967296 from rfl]; omega)]
  omega

theorem bit_at (b k : Nat) (hk : k ≤ 31) : (b * 2 ^ k % 4294967296) / 2147483648 = b / 2 ^ (31 - k) % 2 := by
  have e1 : 4294967296 = 2 ^ (31 - k) * 2 * 2 ^ k := by rw [Nat.mul_right_comm, ← Nat.pow_add, show 31 - k + k = 31 by omega]
  have e2 : 2147483648 = 2 ^ (31 - k) * 2 ^ k := by rw [← Nat.pow_add, show 31 - k + k = 31 by omega]
  rw [e1, e2, Nat.mul_mod_mul_right, Nat.mul_div_mul_right _ _ (Nat.two_pow_pos k), Nat.mod_mul_right_div_self]
theorem next_at (b k : Nat) : b * 2 ^ (k + 1) % 4294967296 = b * 2 ^ k % 4294967296 * 2 % 4294967296 := by
  rw [Nat.pow_succ, ← Nat.mul_assoc, Nat.mod_mul_mod]
theorem tim_rest (a b : Nat) : ∀ d k, k + d = 32 → b * 2 ^ k % 4294967296 = 0 → tim a b k = tim a b 32
  | 0, k, h, _ => by obtain rfl : k = 32 := h; rfl
  | d + 1, k, h, hz => by
    rw [← tim_rest a b d (k + 1) (by omega) (by rw [next_at, hz])]
    have hb := bit_at b k (by omega)
    rw [hz] at hb
    show _ = tim a b k ^^^ _
    rw [Nat.testBit_eq_decide_div_mod_eq, ← hb]
    simp

set_option maxRecDepth 100000 in
set_option maxHeartbeats 1000000 in
theorem times_any (a b : Nat) (w : World) (ha : a < 4294967296) (hb : b < 4294967296) : Calls Try.prog 17 #[.int .u32 a, .int .u32 b] w fun e w' => e = .returned (.int .u32 (timesN a b : Nat)) ∧ w = w' := by
  go_enter Try.func17, Try.ntmps17
  go_wp2
  go_loopw [0, 1, 4] (fun x y z wr => ∃ k : Nat, k ≤ 32 ∧ x = .int .u32 (regN a k : Nat) ∧ y = .int .u32 ((b * 2 ^ k % 4294967296 : Nat) : Int) ∧ z = .int .u32 (tim a b k : Nat) ∧ wr = w)
    (fun _ y _ _ => dbl 33 (intOf y).toNat)
  case atStart => exact ⟨0, Nat.zero_le _, rfl, by rw [Nat.pow_zero, Nat.mul_one, Nat.mod_eq_of_lt hb], rfl, rfl⟩
  case round =>
    obtain ⟨k, hk, rfl, rfl, rfl, rfl⟩ := hrel
    have hq := regN_lt ha k
    have ho : tim a b k < 4294967296 := by
      clear hk hq
      induction k with
      | zero => exact (by decide : 0 < 4294967296)
      | succ k ih => exact xor_lt ih (by split; exact regN_lt ha k; decide)
    have hr := tim_rest a b (32 - k) k (by omega)
    have hbit := bit_at b k
    have hnx := next_at b k
    have hq1 : regN a (k + 1) = stepN (regN a k) := rfl
    have ho1 : tim a b (k + 1) = tim a b k ^^^ (if b.testBit (31 - k) then regN a k else 0) := rfl
    have h32 : k = 32 → b * 2 ^ k % 4294967296 = 0 := fun e => by rw [e, show (2 : Nat) ^ 32 = 4294967296 from rfl]; omega
    rw [Nat.testBit_eq_decide_div_mod_eq] at ho1
    have hc : b * 2 ^ k % 4294967296 < 4294967296 := Nat.mod_lt _ (by decide)
    generalize b * 2 ^ k % 4294967296 = c at *
    generalize regN a k = q at *
    generalize tim a b k = o at *
    by_cases h0 : c = 0
    · rw [hr h0]
      subst h0
      clear hr hbit hnx hq1 ho1 h32
      go_wp2
      go_ret
      exact ⟨rfl, rfl⟩
    · have hk' : k < 32 := by
        rcases Nat.lt_or_ge k 32 with h | h
        · exact h
        · exact absurd (h32 (by omega)) h0
      replace hbit := hbit (by omega)
      rw [← hbit] at ho1
      have h0' : ((c : Int) == 0) = false := by simpa using h0
      have h0'' : ((c : Int) != 0) = true := by simpa using h0
      have hand := and_u32_one q hq
      have hx := xor_u32 o q ho hq
      have hy : bits .xor .u32 ((q : Int) / 2) 3988292384 = ((q / 2 ^^^ 3988292384 : Nat) : Int) := by
        rw [show (q : Int) / 2 = ((q / 2 : Nat) : Int) by omega]; exact xor_u32 _ _ (by omega) (by decide)
      have e2 : ((q / 2 : Nat) : Int) = (q : Int) / 2 := by omega
      have e3 : ((c * 2 % 4294967296 : Nat) : Int) = (c : Int) * 2 % 4294967296 := by omega
      clear hr h32 hbit
      by_cases h1 : c / 2147483648 = 1
      · have s1 : (c : Int) / 2147483648 = 1 := by omega
        rw [h1, decide_eq_true rfl, if_pos rfl] at ho1
        by_cases h2 : q % 2 = 1
        · have s2 : (q : Int) % 2 = 1 := by omega
          have hst : stepN q = q / 2 ^^^ 3988292384 := by unfold stepN; rw [if_pos h2]
          go_wp2
          go_roundw
          case rel => exact ⟨k + 1, by omega, by rw [hq1, hst], by rw [hnx, e3], by rw [ho1], trivial⟩
          case measure =>
            show dbl 33 ((c : Int) * 2 % 4294967296).toNat < dbl 33 (c : Int).toNat
            rw [show ((c : Int) * 2 % 4294967296).toNat = c * 2 % 4294967296 by omega, Int.toNat_natCast]
            exact dbl_lt _ h0
        · have s2 : (q : Int) % 2 = 0 := by omega
          have hst : stepN q = q / 2 := by unfold stepN; rw [if_neg h2]
          go_wp2
          go_roundw
          case rel => exact ⟨k + 1, by omega, by rw [hq1, hst, e2], by rw [hnx, e3], by rw [ho1], trivial⟩
          case measure =>
            show dbl 33 ((c : Int) * 2 % 4294967296).toNat < dbl 33 (c : Int).toNat
            rw [show ((c : Int) * 2 % 4294967296).toNat = c * 2 % 4294967296 by omega, Int.toNat_natCast]
            exact dbl_lt _ h0
      · have s1 : (c : Int) / 2147483648 = 0 := by omega
        have e4 : ((c * 2 % 4294967296 : Nat) : Int) = (c : Int) * 2 := by omega
        rw [decide_eq_false h1, if_neg (by simp), Nat.xor_zero] at ho1
        by_cases h2 : q % 2 = 1
        · have s2 : (q : Int) % 2 = 1 := by omega
          have hst : stepN q = q / 2 ^^^ 3988292384 := by unfold stepN; rw [if_pos h2]
          go_wp2
          go_roundw
          case rel => exact ⟨k + 1, by omega, by rw [hq1, hst], by rw [hnx, e4], by rw [ho1], trivial⟩
          case measure =>
            show dbl 33 ((c : Int) * 2).toNat < dbl 33 (c : Int).toNat
            rw [show ((c : Int) * 2).toNat = c * 2 % 4294967296 by omega, Int.toNat_natCast]
            exact dbl_lt _ h0
        · have s2 : (q : Int) % 2 = 0 := by omega
          have hst : stepN q = q / 2 := by unfold stepN; rw [if_neg h2]
          go_wp2
          go_roundw
          case rel => exact ⟨k + 1, by omega, by rw [hq1, hst, e2], by rw [hnx, e4], by rw [ho1], trivial⟩
          case measure =>
            show dbl 33 ((c : Int) * 2).toNat < dbl 33 (c : Int).toNat
            rw [show ((c : Int) * 2).toNat = c * 2 % 4294967296 by omega, Int.toNat_natCast]
            exact dbl_lt _ h0

theorem and_i64_one (a : Nat) (ha : a < 9223372036854775808) : bits .and .i64 (a : Int) 1 = ((a % 2 : Nat) : Int) := by
  have h1 : (BitVec.ofInt 64 (a : Int)).toNat = a := by
    rw [BitVec.ofInt_natCast, BitVec.toNat_ofNat]; exact Nat.mod_eq_of_lt (by omega)
  have h2 : (BitVec.ofInt 64 ((1 : Nat) : Int)).toNat = 1 := by decide
  show IntKind.i64.wrap ((BitVec.ofInt 64 (a : Int) &&& BitVec.ofInt 64 ((1 : Nat) : Int)).toNat : Int) = _
  rw [BitVec.toNat_and, h1, h2, Nat.and_one_is_mod]
  exact IntWalk.i64_in _ (by omega)

theorem rbytes_any (x : Int) (hx : x = 32768) (w : World) : Calls Try.prog 26 #[.int .u32 x] w fun e w' => e = .returned (.int .u32 8388608) ∧ w = w' := by
  subst hx
  go_enter Try.func26, Try.ntmps26
  go_wp2
  go_ret
  exact ⟨congrArg (fun z => Ending.returned (Value.int .u32 z)) (by decide +kernel), rfl⟩
theorem reverse_any (w : World) : Calls Try.prog 16 #[.int .u32 256] w fun e w' => e = .returned (.int .u32 8388608) ∧ w = w' := by
  go_enter Try.func16, Try.ntmps16
  go_wp2_with fail
  refine (rbytes_any _ (by decide +kernel) w).mono ?_
  rintro e w' ⟨rfl, rfl⟩
  go_wp2
  go_ret
  exact ⟨rfl, rfl⟩

set_option maxRecDepth 100000 in
set_option maxHeartbeats 1000000 in
theorem join_any (f s : Nat) (n : Int) (w : World) (hf : f < 4294967296) (hs : s < 4294967296) (hn : n < 9223372036854775808) :
    Calls Try.prog 10 #[.int .u32 f, .int .u32 s, .int .i64 n] w fun e w' => e = .returned (if n < 0 then .tuple #[.int .u32 0, .int .i64 2] else .tuple #[.int .u32 ((regN f (8 * n.toNat) ^^^ s : Nat) : Int), .int .i64 0]) ∧ w = w' := by
  by_cases h0 : n < 0
  · rw [if_pos h0]
    go_enter Try.func10, Try.ntmps10
    go_wp2
    go_ret2
    exact ⟨rfl, rfl⟩
  · obtain ⟨n0, rfl⟩ := Int.eq_ofNat_of_zero_le (show 0 ≤ n by omega)
    rw [if_neg h0, Int.toNat_natCast]
    have hr := reverse_any w
    have HN := Lib.hid hn
    clear h0 hn
    obtain ⟨V, hV⟩ : ∃ V : Nat, regN f (8 * n0) ^^^ s = V := ⟨_, rfl⟩
    rw [hV]
    have HV := Lib.hid hV
    clear hV
    have hd : decide ((n0 : Int) < 0) = false := decide_eq_false (by omega)
    go_enter Try.func10, Try.ntmps10
    go_wp2_with fail
    refine hr.mono ?_
    clear hr
    rintro e w' ⟨rfl, rfl⟩
    go_wp2
    go_loopw [2, 8, 9] (fun x y z wr => ∃ p m q : Nat, x = .int .i64 q ∧ y = .int .u32 (E p : Nat) ∧ z = .int .u32 (E m : Nat) ∧ p + m * q = 8 * n0 ∧ q ≤ n0 ∧ wr = w)
      (fun x _ _ _ => (intOf x).toNat)
    case atStart => exact ⟨0, 8, n0, rfl, rfl, by rw [E8]; rfl, by omega, Nat.le_refl _, rfl⟩
    case round =>
      obtain ⟨p, m, q, rfl, rfl, rfl, hpm, hq, rfl⟩ := hrel
      by_cases h0 : 0 < q
      · have hand := and_i64_one q (by have := HN.out; omega)
        have t1 := times_any (E p) (E m) wr (E_lt p) (E_lt m)
        have t2 := times_any (E m) (E m) wr (E_lt m) (E_lt m)
        rw [times_EE] at t1 t2
        have h0' : (0 : Int) < (q : Int) := by omega
        by_cases h1 : q % 2 = 1
        · have s1 : (q : Int) % 2 = 1 := by omega
          have hnx : p + m + (m + m) * (q / 2) = 8 * n0 := by
            rw [← hpm, Nat.add_assoc, show q = 2 * (q / 2) + 1 by omega, Nat.mul_add, ← Nat.mul_assoc, show (2 * (q / 2) + 1) / 2 = q / 2 by omega, Nat.mul_two, Nat.mul_one, Nat.add_comm m]
          go_wp2_with (first | (go_at_call 17; (with_reducible refine t1.mono ?_); rintro e w' ⟨rfl, rfl⟩) | (go_at_call 17; (with_reducible refine t2.mono ?_); rintro e w' ⟨rfl, rfl⟩))
          go_roundw
          case rel => exact ⟨p + m, m + m, q / 2, by go_num, rfl, rfl, hnx, by omega, trivial⟩
          case measure => first | (simp [intOf]; done) | (simp [intOf]; omega)
        · have s1 : (q : Int) % 2 = 0 := by omega
          have hnx : p + (m + m) * (q / 2) = 8 * n0 := by
            rw [← hpm, show q = 2 * (q / 2) by omega, ← Nat.mul_assoc, Nat.mul_two, show 2 * (q / 2) / 2 = q / 2 by omega]
          go_wp2_with (go_at_call 17; (with_reducible refine t2.mono ?_); rintro e w' ⟨rfl, rfl⟩)
          go_roundw
          case rel => exact ⟨p, m + m, q / 2, by go_num, rfl, rfl, hnx, by omega, trivial⟩
          case measure => first | (simp [intOf]; done) | (simp [intOf]; omega)
      · obtain rfl : q = 0 := by omega
        have hp : p = 8 * n0 := by omega
        have t1 := times_any f (E p) wr hf (E_lt p)
        rw [times_E f hf p, show regN f p = regN f (8 * n0) by rw [hp]] at t1
        have hb : regN f (8 * n0) < 4294967296 := regN_lt hf _
        have hx := xor_u32 _ s hb hs
        rw [HV.out] at hx
        clear HV
        generalize regN f (8 * n0) = r at *
        generalize E p = g at *
        go_wp2_with (go_at_call 17; (with_reducible refine t1.mono ?_); rintro e w' ⟨rfl, rfl⟩)
        go_ret2
        exact ⟨rfl, rfl⟩
end Go.Proofs.Ytkckniipingkiaa
