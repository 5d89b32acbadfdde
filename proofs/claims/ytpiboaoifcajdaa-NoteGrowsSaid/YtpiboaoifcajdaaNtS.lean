/- The document's Encode and Decode of a note. -/
import Derived.Test.YtpiboaoifcajdaaNtR
import Derived.Deep.RegionHeld3
namespace Go.Proofs.Ytpiboaoifcajdaa
open Go.RowKit

theorem r9enc_any (k a b n : Int) (hn : n ≤ 9223372036854775807) (w : World) : Calls Try.prog 10 #[noteV k a b n] w (GaveBE w (encL k a b n) (encE k a b n)) := by
  have key : mayB k a b n = false → Calls Try.prog 10 #[.agg #[.int .i64 k, .int .i64 a, .int .i64 b, .int .i64 n]] w (GaveBE w [] 90) := by
    intro h
    by_cases c1 : k < 1
    · exact r9no_1 k a b n w (decide_eq_true c1)
    have d1 := decide_eq_false c1
    by_cases c2 : 5 < k
    · exact r9no_2 k a b n w d1 (decide_eq_true c2)
    have d2 := decide_eq_false c2
    by_cases c3 : a < 0
    · exact r9no_3 k a b n w d1 d2 (decide_eq_true c3)
    have d3 := decide_eq_false c3
    by_cases c4 : 1048576 < a
    · exact r9no_4 k a b n w d1 d2 d3 (decide_eq_true c4)
    have d4 := decide_eq_false c4
    by_cases c5 : b < 0
    · exact r9no_5 k a b n w d1 d2 d3 d4 (decide_eq_true c5)
    have d5 := decide_eq_false c5
    by_cases c6 : 1048576 < b
    · exact r9no_6 k a b n w d1 d2 d3 d4 d5 (decide_eq_true c6)
    have d6 := decide_eq_false c6
    by_cases c7 : n < 0
    · exact r9no_7 k a b n w d1 d2 d3 d4 d5 d6 (decide_eq_true c7)
    have d7 := decide_eq_false c7
    unfold mayB inB at h
    rw [decide_eq_true (show 0 ≤ a by omega), decide_eq_true (show a ≤ 1048576 by omega), decide_eq_true (show 0 ≤ b by omega), decide_eq_true (show b ≤ 1048576 by omega), decide_eq_true (show 0 ≤ n by omega)] at h
    simp only [Bool.true_and] at h
    by_cases k1 : k = 1
    · subst k1
      by_cases hb : 0 < b
      · exact r9no_1b a b n w d3 d4 d5 d6 d7 (decide_eq_true hb)
      by_cases hn0 : 0 < n
      · exact r9no_1n a b n w d3 d4 d5 d6 d7 (decide_eq_false hb) (decide_eq_true hn0)
      rw [show b = 0 by omega, show n = 0 by omega] at h
      cases h
    by_cases k4 : k = 4
    · subst k4
      by_cases hb : 0 < b
      · exact r9no_4b a b n w d3 d4 d5 d6 d7 (decide_eq_true hb)
      by_cases hn0 : 0 < n
      · exact r9no_4n a b n w d3 d4 d5 d6 d7 (decide_eq_false hb) (decide_eq_true hn0)
      rw [show b = 0 by omega, show n = 0 by omega] at h
      cases h
    by_cases k5 : k = 5
    · subst k5
      by_cases hn0 : 0 < n
      · exact r9no_5n a b n w d3 d4 d5 d6 d7 (decide_eq_true hn0)
      rw [show n = 0 by omega] at h
      cases h
    rw [if_neg (by omega), if_neg k5] at h
    have : k = 2 ∨ k = 3 := by omega
    rcases this with rfl | rfl <;> cases h
  unfold noteV encL encE
  cases h : mayB k a b n with
  | false => exact key h
  | true =>
    clear key
    obtain ⟨⟨k1, k2⟩, ⟨a1, a2⟩, ⟨b1, b2⟩, n1⟩ := may_bounds h
    obtain ⟨a, rfl⟩ := Int.eq_ofNat_of_zero_le a1
    obtain ⟨b, rfl⟩ := Int.eq_ofNat_of_zero_le b1
    obtain ⟨n, rfl⟩ := Int.eq_ofNat_of_zero_le n1
    have hz : (k = 1 ∨ k = 4 → b = 0 ∧ n = 0) ∧ (k = 5 → n = 0) := by
      unfold mayB at h
      rw [Bool.and_eq_true, Bool.and_eq_true, Bool.and_eq_true] at h
      obtain ⟨_, _, _, h⟩ := h
      constructor
      · intro hk
        rw [if_pos hk, Bool.and_eq_true] at h
        have := eq_of_beq h.1
        have := eq_of_beq h.2
        omega
      · intro hk
        rw [if_neg (by omega), if_pos hk] at h
        have := eq_of_beq h
        omega
    have : k = 1 ∨ k = 2 ∨ k = 3 ∨ k = 4 ∨ k = 5 := by omega
    simp only [if_true, Int.toNat_natCast]
    rcases this with rfl | rfl | rfl | rfl | rfl
    · exact r9yes_1 a b n w (by omega) (by omega) (by omega) (decide_eq_false (by omega)) (decide_eq_false (by omega))
    · exact r9yes_2 a b n w (by omega) (by omega) (by omega)
    · exact r9yes_3 a b n w (by omega) (by omega) (by omega)
    · exact r9yes_4 a b n w (by omega) (by omega) (by omega) (decide_eq_false (by omega)) (decide_eq_false (by omega))
    · exact r9yes_5 a b n w (by omega) (by omega) (by omega) (decide_eq_false (by omega))
theorem noteL_inj17 (xs : List UInt8) (h : xs.length ≠ 17) : decOk xs = false := by
  unfold decOk
  rw [decide_eq_false (fun e => h (by rw [← e, noteL_length])), Bool.and_false]
/-- The numbers of seventeen bytes. -/
theorem read17 (xs : List UInt8) (h : xs.length = 17) : rK xs = wholeM (xs.take 1) ∧ rA xs = wholeM ((xs.take 5).drop 1) ∧ rB xs = wholeM ((xs.take 9).drop 5) ∧ rN xs = IntKind.i64.wrap (wholeM ((xs.take 17).drop 9) : Nat) := by
  have key : ∀ (p s : Nat), (szd s = true) → p + s ≤ 17 → rErr (xs.drop p) s = 0 := by
    intro p s hz hp
    unfold rErr
    rw [if_pos hz, if_pos (by rw [List.length_drop, Int.toNat_natCast]; omega)]
  have v : ∀ (p s : Nat), (szd s = true) → p + s ≤ 17 → rVal (xs.drop p) s = wholeM ((xs.take (p + s)).drop p) := by
    intro p s hz hp
    unfold rVal
    rw [if_pos (key p s hz hp), Int.toNat_natCast, List.drop_take, show p + s - p = s by omega]
  have q : ∀ (p s : Nat), (szd s = true) → p + s ≤ 17 → rPos (xs.drop p) s p = p + s := by
    intro p s hz hp
    unfold rPos
    rw [if_pos (key p s hz hp), Int.toNat_natCast]
  have p1 : rp1 xs = 1 := q 0 1 rfl (by decide)
  have p2 : rp2 xs = 5 := by unfold rp2; rw [p1]; exact q 1 4 rfl (by decide)
  have p3 : rp3 xs = 9 := by unfold rp3; rw [p2]; exact q 5 4 rfl (by decide)
  refine ⟨v 0 1 rfl (by decide), ?_, ?_, ?_⟩
  · unfold rA; rw [p1]; exact v 1 4 rfl (by decide)
  · unfold rB; rw [p2]; exact v 5 4 rfl (by decide)
  · unfold rN; rw [p3]; exact congrArg (fun z : Nat => IntKind.i64.wrap (z : Int)) (v 9 8 rfl (by decide))
end Go.Proofs.Ytpiboaoifcajdaa
