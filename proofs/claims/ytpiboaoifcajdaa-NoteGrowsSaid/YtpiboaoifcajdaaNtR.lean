/- The document's Encode of a note. -/
import Derived.Test.YtpiboaoifcajdaaNtC
namespace Go.Proofs.Ytpiboaoifcajdaa
open Go.RowKit

theorem r9no_1 (k a b n : Int) (w : World) (h1 : decide (k < 1) = true) : Calls Try.prog 10 #[.agg #[.int .i64 k, .int .i64 a, .int .i64 b, .int .i64 n]] w (GaveBE w [] 90) := by
  go_enter Try.func10, Try.ntmps10
  go_wp2
  go_ret2
  exact ⟨_, rfl, World.ownsRow_nil _ _ _ _, (Chg.refl _ w).alloc _⟩
theorem r9no_2 (k a b n : Int) (w : World) (h1 : decide (k < 1) = false) (h2 : decide (5 < k) = true) : Calls Try.prog 10 #[.agg #[.int .i64 k, .int .i64 a, .int .i64 b, .int .i64 n]] w (GaveBE w [] 90) := by
  go_enter Try.func10, Try.ntmps10
  go_wp2
  go_ret2
  exact ⟨_, rfl, World.ownsRow_nil _ _ _ _, (Chg.refl _ w).alloc _⟩
theorem r9no_3 (k a b n : Int) (w : World) (h1 : decide (k < 1) = false) (h2 : decide (5 < k) = false) (h3 : decide (a < 0) = true) : Calls Try.prog 10 #[.agg #[.int .i64 k, .int .i64 a, .int .i64 b, .int .i64 n]] w (GaveBE w [] 90) := by
  go_enter Try.func10, Try.ntmps10
  go_wp2
  go_ret2
  exact ⟨_, rfl, World.ownsRow_nil _ _ _ _, (Chg.refl _ w).alloc _⟩
theorem r9no_4 (k a b n : Int) (w : World) (h1 : decide (k < 1) = false) (h2 : decide (5 < k) = false) (h3 : decide (a < 0) = false) (h4 : decide (1048576 < a) = true) : Calls Try.prog 10 #[.agg #[.int .i64 k, .int .i64 a, .int .i64 b, .int .i64 n]] w (GaveBE w [] 90) := by
  go_enter Try.func10, Try.ntmps10
  go_wp2
  go_ret2
  exact ⟨_, rfl, World.ownsRow_nil _ _ _ _, (Chg.refl _ w).alloc _⟩
theorem r9no_5 (k a b n : Int) (w : World) (h1 : decide (k < 1) = false) (h2 : decide (5 < k) = false) (h3 : decide (a < 0) = false) (h4 : decide (1048576 < a) = false) (h5 : decide (b < 0) = true) : Calls Try.prog 10 #[.agg #[.int .i64 k, .int .i64 a, .int .i64 b, .int .i64 n]] w (GaveBE w [] 90) := by
  go_enter Try.func10, Try.ntmps10
  go_wp2
  go_ret2
  exact ⟨_, rfl, World.ownsRow_nil _ _ _ _, (Chg.refl _ w).alloc _⟩
theorem r9no_6 (k a b n : Int) (w : World) (h1 : decide (k < 1) = false) (h2 : decide (5 < k) = false) (h3 : decide (a < 0) = false) (h4 : decide (1048576 < a) = false) (h5 : decide (b < 0) = false) (h6 : decide (1048576 < b) = true) : Calls Try.prog 10 #[.agg #[.int .i64 k, .int .i64 a, .int .i64 b, .int .i64 n]] w (GaveBE w [] 90) := by
  go_enter Try.func10, Try.ntmps10
  go_wp2
  go_ret2
  exact ⟨_, rfl, World.ownsRow_nil _ _ _ _, (Chg.refl _ w).alloc _⟩
theorem r9no_7 (k a b n : Int) (w : World) (h1 : decide (k < 1) = false) (h2 : decide (5 < k) = false) (h3 : decide (a < 0) = false) (h4 : decide (1048576 < a) = false) (h5 : decide (b < 0) = false) (h6 : decide (1048576 < b) = false) (h7 : decide (n < 0) = true) : Calls Try.prog 10 #[.agg #[.int .i64 k, .int .i64 a, .int .i64 b, .int .i64 n]] w (GaveBE w [] 90) := by
  go_enter Try.func10, Try.ntmps10
  go_wp2
  go_ret2
  exact ⟨_, rfl, World.ownsRow_nil _ _ _ _, (Chg.refl _ w).alloc _⟩
theorem r9no_1b (a b n : Int) (w : World) (h3 : decide (a < 0) = false) (h4 : decide (1048576 < a) = false) (h5 : decide (b < 0) = false) (h6 : decide (1048576 < b) = false) (h7 : decide (n < 0) = false) (h8 : decide (0 < b) = true) : Calls Try.prog 10 #[.agg #[.int .i64 1, .int .i64 a, .int .i64 b, .int .i64 n]] w (GaveBE w [] 90) := by
  go_enter Try.func10, Try.ntmps10
  go_wp2
  go_ret2
  exact ⟨_, rfl, World.ownsRow_nil _ _ _ _, (Chg.refl _ w).alloc _⟩
theorem r9no_1n (a b n : Int) (w : World) (h3 : decide (a < 0) = false) (h4 : decide (1048576 < a) = false) (h5 : decide (b < 0) = false) (h6 : decide (1048576 < b) = false) (h7 : decide (n < 0) = false) (h8 : decide (0 < b) = false) (h9 : decide (0 < n) = true) : Calls Try.prog 10 #[.agg #[.int .i64 1, .int .i64 a, .int .i64 b, .int .i64 n]] w (GaveBE w [] 90) := by
  go_enter Try.func10, Try.ntmps10
  go_wp2
  go_ret2
  exact ⟨_, rfl, World.ownsRow_nil _ _ _ _, (Chg.refl _ w).alloc _⟩
theorem r9no_4b (a b n : Int) (w : World) (h3 : decide (a < 0) = false) (h4 : decide (1048576 < a) = false) (h5 : decide (b < 0) = false) (h6 : decide (1048576 < b) = false) (h7 : decide (n < 0) = false) (h8 : decide (0 < b) = true) : Calls Try.prog 10 #[.agg #[.int .i64 4, .int .i64 a, .int .i64 b, .int .i64 n]] w (GaveBE w [] 90) := by
  go_enter Try.func10, Try.ntmps10
  go_wp2
  go_ret2
  exact ⟨_, rfl, World.ownsRow_nil _ _ _ _, (Chg.refl _ w).alloc _⟩
theorem r9no_4n (a b n : Int) (w : World) (h3 : decide (a < 0) = false) (h4 : decide (1048576 < a) = false) (h5 : decide (b < 0) = false) (h6 : decide (1048576 < b) = false) (h7 : decide (n < 0) = false) (h8 : decide (0 < b) = false) (h9 : decide (0 < n) = true) : Calls Try.prog 10 #[.agg #[.int .i64 4, .int .i64 a, .int .i64 b, .int .i64 n]] w (GaveBE w [] 90) := by
  go_enter Try.func10, Try.ntmps10
  go_wp2
  go_ret2
  exact ⟨_, rfl, World.ownsRow_nil _ _ _ _, (Chg.refl _ w).alloc _⟩
theorem r9no_5n (a b n : Int) (w : World) (h3 : decide (a < 0) = false) (h4 : decide (1048576 < a) = false) (h5 : decide (b < 0) = false) (h6 : decide (1048576 < b) = false) (h7 : decide (n < 0) = false) (h9 : decide (0 < n) = true) : Calls Try.prog 10 #[.agg #[.int .i64 5, .int .i64 a, .int .i64 b, .int .i64 n]] w (GaveBE w [] 90) := by
  go_enter Try.func10, Try.ntmps10
  go_wp2
  go_ret2
  exact ⟨_, rfl, World.ownsRow_nil _ _ _ _, (Chg.refl _ w).alloc _⟩
set_option maxHeartbeats 2000000 in
theorem r9yes_1 (a b n : Nat) (w : World) (ha : a ≤ 1048576) (hb : b ≤ 1048576) (hn : n < 9223372036854775808) (hb8 : decide (0 < b) = false) (hn8 : decide (0 < n) = false) : Calls Try.prog 10 #[.agg #[.int .i64 1, .int .i64 (a : Int), .int .i64 (b : Int), .int .i64 (n : Int)]] w (GaveBE w (noteL 1 a b n) 0) := by
  have h3 : decide ((a : Int) < 0) = false := decide_eq_false (by omega)
  have h4 : decide (1048576 < (a : Int)) = false := decide_eq_false (by omega)
  have h5 : decide ((b : Int) < 0) = false := decide_eq_false (by omega)
  have h6 : decide (1048576 < (b : Int)) = false := decide_eq_false (by omega)
  have h7 : decide ((n : Int) < 0) = false := decide_eq_false (by omega)
  have u2 : IntKind.u64.wrap (a : Int) = a := by rw [wrap_u64_mod]; omega
  have u3 : IntKind.u64.wrap (b : Int) = b := by rw [wrap_u64_mod]; omega
  obtain ⟨a1, a2⟩ := num_fit 4 a rfl (by omega)
  obtain ⟨b1, b2⟩ := num_fit 4 b rfl (by omega)
  obtain ⟨i0, hi, hz0, hz1, hz2⟩ := info_parts Try.info5
  have q1 := fun w' => refNum_any 4 a w' (by omega) (by omega)
  rw [Int.toNat_natCast, show (4 : Int) = ((4 : Nat) : Int) from rfl, a1, a2] at q1
  have q2 := fun w' => refNum_any 4 b w' (by omega) (by omega)
  rw [Int.toNat_natCast, show (4 : Int) = ((4 : Nat) : Int) from rfl, b1, b2] at q2
  have q3 := fun w' => refInt_any n w'
  rw [show ((n : Int) % 18446744073709551616).toNat = n by omega] at q3
  have HN := Lib.hid (show be 1 1 = [UInt8.ofNat 1] from rfl)
  clear a1 a2 b1 b2 ha hb hn
  go_enter Try.func10, Try.ntmps10
  go_wp2_with fail
  refine (q1 _).mono ?_
  clear q1
  rintro e w1 ⟨v1, rfl, ho1, hC1⟩
  have c2 : w1.cell? ⟨w.heap.size, 2, none⟩ = some (.int .i64 (b : Int)) := hC1.cell (new_cell w _ _ rfl) id
  have c3 : w1.cell? ⟨w.heap.size, 3, none⟩ = some (.int .i64 (n : Int)) := hC1.cell (new_cell w _ _ rfl) id
  have c0 : w1.cell? ⟨w.heap.size, 0, none⟩ = some (.int .i64 1) := hC1.cell (new_cell w _ _ rfl) id
  go_wp2_with fail
  refine (q2 _).mono ?_
  clear q2
  rintro e w2 ⟨v2, rfl, ho2, hC2⟩
  replace c0 := hC2.cell c0 id
  replace c3 := hC2.cell c3 id
  have hs1 := (Sl.of_owns ho1).fr hC2
  have hs2 := Sl.of_owns ho2
  clear ho1 ho2
  obtain ⟨p1, d1, rfl, _⟩ := hs1.form
  obtain ⟨p2, d2, rfl, _⟩ := hs2.form
  rw [List.length_map, be_length] at hs1 hs2
  rw [List.length_map, be_length, List.length_map, be_length]
  have hF2 : Chg (fun _ => False) w w2 := (((Chg.refl _ w).alloc _).tr hC1).tr hC2
  clear hC1 hC2 c2
  have hL := World.ownsRow_lit (base := w2.heap.size) (e := 5) (size := 1) w2 #[.int .u8 1] 1 (Nat.le_refl _) (by unfold maxLen; decide) rfl
  have hs1' := (hs1.fr ((Chg.refl _ w2).alloc (.cells #[.int .u8 1] 5))).src
  have c3' := alloc_cell c3 (.cells #[.int .u8 1] 5)
  go_wp2_with (first
    | (refine wpList_append_own_any rfl (.tmp 87) (.tmp 88) 24 rfl w2.heap.size 5 i0 (.int .u8 0) 1 1 Try.underlying24 hi hz0 hz1 hz2 rfl (by decide) (.slice (some ⟨w2.heap.size, 0, none⟩) 1 1) 1 [.int .u8 1] rfl hL p1 4 d1 ((be 4 a).map B) rfl (by rw [List.length_map, be_length]) hs1' (oneCell_B _) (by unfold maxLen; decide) (by decide) (by simp) ?_; intro v4 w4 hown4 hg4 _ _; have hD4 : Chg (fun _ => False) w2 w4 := ((Chg.refl _ w2).alloc _).grown hg4 (fun k e => .inr (by simp [Value.ownBlock] at e; omega)); have hs2' := (hs2.fr hD4).src)
    | (refine wpList_append_own_any rfl (.tmp 90) (.tmp 91) 24 rfl w2.heap.size 5 i0 (.int .u8 0) 1 1 Try.underlying24 hi hz0 hz1 hz2 rfl (by decide) v4 _ _ rfl hown4 p2 4 d2 ((be 4 b).map B) rfl (by rw [List.length_map, be_length]) hs2' (oneCell_B _) (by unfold maxLen; decide) (by decide) hD4.size ?_; intro v5 w5 hown5 hg5 _ _; have hD5 : Chg (fun _ => False) w2 w5 := hD4.grown hg5 (fun k e => .inr (hown4.lt k e).1); have c5 := hD5.cell c3 id))
  refine (q3 _).mono ?_
  rintro e w6 ⟨v6, rfl, ho6, hC6⟩
  have hown6 := hC6.owns hown5 (fun _ _ => id)
  have hs6 := Sl.of_owns ho6
  obtain ⟨p6, d6, rfl, _⟩ := hs6.form
  rw [List.length_map, be_length] at hs6
  rw [List.length_map, be_length]
  have hs6' := hs6.src
  have hz6 : w2.heap.size ≤ w6.heap.size := by have := hD5.size; have := hC6.size; omega
  go_wp2_with (refine wpList_append_own_any rfl (.tmp 93) (.tmp 96) 24 rfl w2.heap.size 5 i0 (.int .u8 0) 1 1 Try.underlying24 hi hz0 hz1 hz2 rfl (by decide) v5 _ _ rfl hown6 p6 8 d6 ((be 8 n).map B) rfl (by rw [List.length_map, be_length]) hs6' (oneCell_B _) (by unfold maxLen; decide) (by decide) hz6 ?_; intro v7 w7 hown7 hg7 _ _)
  go_ret2
  have hl : [Value.int .u8 1] ++ (be 4 a).map B ++ (be 4 b).map B ++ (be 8 n).map B = (noteL 1 a b n).map B := by
    unfold noteL
    rw [HN.out, List.map_append, List.map_append, List.map_append]
    rfl
  rw [hl] at hown7
  refine ⟨_, rfl, ?_, ((hF2.tr hD5).tr hC6).grown hg7 (fun k e => .inr (by have := (hown6.lt k e).1; have := hF2.size; omega))⟩
  rw [noteL_length]
  exact owns_mono hown7 hF2.size
set_option maxHeartbeats 2000000 in
theorem r9yes_2 (a b n : Nat) (w : World) (ha : a ≤ 1048576) (hb : b ≤ 1048576) (hn : n < 9223372036854775808)  : Calls Try.prog 10 #[.agg #[.int .i64 2, .int .i64 (a : Int), .int .i64 (b : Int), .int .i64 (n : Int)]] w (GaveBE w (noteL 2 a b n) 0) := by
  have h3 : decide ((a : Int) < 0) = false := decide_eq_false (by omega)
  have h4 : decide (1048576 < (a : Int)) = false := decide_eq_false (by omega)
  have h5 : decide ((b : Int) < 0) = false := decide_eq_false (by omega)
  have h6 : decide (1048576 < (b : Int)) = false := decide_eq_false (by omega)
  have h7 : decide ((n : Int) < 0) = false := decide_eq_false (by omega)
  have u2 : IntKind.u64.wrap (a : Int) = a := by rw [wrap_u64_mod]; omega
  have u3 : IntKind.u64.wrap (b : Int) = b := by rw [wrap_u64_mod]; omega
  obtain ⟨a1, a2⟩ := num_fit 4 a rfl (by omega)
  obtain ⟨b1, b2⟩ := num_fit 4 b rfl (by omega)
  obtain ⟨i0, hi, hz0, hz1, hz2⟩ := info_parts Try.info5
  have q1 := fun w' => refNum_any 4 a w' (by omega) (by omega)
  rw [Int.toNat_natCast, show (4 : Int) = ((4 : Nat) : Int) from rfl, a1, a2] at q1
  have q2 := fun w' => refNum_any 4 b w' (by omega) (by omega)
  rw [Int.toNat_natCast, show (4 : Int) = ((4 : Nat) : Int) from rfl, b1, b2] at q2
  have q3 := fun w' => refInt_any n w'
  rw [show ((n : Int) % 18446744073709551616).toNat = n by omega] at q3
  have HN := Lib.hid (show be 1 2 = [UInt8.ofNat 2] from rfl)
  clear a1 a2 b1 b2 ha hb hn
  go_enter Try.func10, Try.ntmps10
  go_wp2_with fail
  refine (q1 _).mono ?_
  clear q1
  rintro e w1 ⟨v1, rfl, ho1, hC1⟩
  have c2 : w1.cell? ⟨w.heap.size, 2, none⟩ = some (.int .i64 (b : Int)) := hC1.cell (new_cell w _ _ rfl) id
  have c3 : w1.cell? ⟨w.heap.size, 3, none⟩ = some (.int .i64 (n : Int)) := hC1.cell (new_cell w _ _ rfl) id
  have c0 : w1.cell? ⟨w.heap.size, 0, none⟩ = some (.int .i64 2) := hC1.cell (new_cell w _ _ rfl) id
  go_wp2_with fail
  refine (q2 _).mono ?_
  clear q2
  rintro e w2 ⟨v2, rfl, ho2, hC2⟩
  replace c0 := hC2.cell c0 id
  replace c3 := hC2.cell c3 id
  have hs1 := (Sl.of_owns ho1).fr hC2
  have hs2 := Sl.of_owns ho2
  clear ho1 ho2
  obtain ⟨p1, d1, rfl, _⟩ := hs1.form
  obtain ⟨p2, d2, rfl, _⟩ := hs2.form
  rw [List.length_map, be_length] at hs1 hs2
  rw [List.length_map, be_length, List.length_map, be_length]
  have hF2 : Chg (fun _ => False) w w2 := (((Chg.refl _ w).alloc _).tr hC1).tr hC2
  clear hC1 hC2 c2
  have hL := World.ownsRow_lit (base := w2.heap.size) (e := 5) (size := 1) w2 #[.int .u8 2] 1 (Nat.le_refl _) (by unfold maxLen; decide) rfl
  have hs1' := (hs1.fr ((Chg.refl _ w2).alloc (.cells #[.int .u8 2] 5))).src
  have c3' := alloc_cell c3 (.cells #[.int .u8 2] 5)
  go_wp2_with (first
    | (refine wpList_append_own_any rfl (.tmp 87) (.tmp 88) 24 rfl w2.heap.size 5 i0 (.int .u8 0) 1 1 Try.underlying24 hi hz0 hz1 hz2 rfl (by decide) (.slice (some ⟨w2.heap.size, 0, none⟩) 1 1) 1 [.int .u8 2] rfl hL p1 4 d1 ((be 4 a).map B) rfl (by rw [List.length_map, be_length]) hs1' (oneCell_B _) (by unfold maxLen; decide) (by decide) (by simp) ?_; intro v4 w4 hown4 hg4 _ _; have hD4 : Chg (fun _ => False) w2 w4 := ((Chg.refl _ w2).alloc _).grown hg4 (fun k e => .inr (by simp [Value.ownBlock] at e; omega)); have hs2' := (hs2.fr hD4).src)
    | (refine wpList_append_own_any rfl (.tmp 90) (.tmp 91) 24 rfl w2.heap.size 5 i0 (.int .u8 0) 1 1 Try.underlying24 hi hz0 hz1 hz2 rfl (by decide) v4 _ _ rfl hown4 p2 4 d2 ((be 4 b).map B) rfl (by rw [List.length_map, be_length]) hs2' (oneCell_B _) (by unfold maxLen; decide) (by decide) hD4.size ?_; intro v5 w5 hown5 hg5 _ _; have hD5 : Chg (fun _ => False) w2 w5 := hD4.grown hg5 (fun k e => .inr (hown4.lt k e).1); have c5 := hD5.cell c3 id))
  refine (q3 _).mono ?_
  rintro e w6 ⟨v6, rfl, ho6, hC6⟩
  have hown6 := hC6.owns hown5 (fun _ _ => id)
  have hs6 := Sl.of_owns ho6
  obtain ⟨p6, d6, rfl, _⟩ := hs6.form
  rw [List.length_map, be_length] at hs6
  rw [List.length_map, be_length]
  have hs6' := hs6.src
  have hz6 : w2.heap.size ≤ w6.heap.size := by have := hD5.size; have := hC6.size; omega
  go_wp2_with (refine wpList_append_own_any rfl (.tmp 93) (.tmp 96) 24 rfl w2.heap.size 5 i0 (.int .u8 0) 1 1 Try.underlying24 hi hz0 hz1 hz2 rfl (by decide) v5 _ _ rfl hown6 p6 8 d6 ((be 8 n).map B) rfl (by rw [List.length_map, be_length]) hs6' (oneCell_B _) (by unfold maxLen; decide) (by decide) hz6 ?_; intro v7 w7 hown7 hg7 _ _)
  go_ret2
  have hl : [Value.int .u8 2] ++ (be 4 a).map B ++ (be 4 b).map B ++ (be 8 n).map B = (noteL 2 a b n).map B := by
    unfold noteL
    rw [HN.out, List.map_append, List.map_append, List.map_append]
    rfl
  rw [hl] at hown7
  refine ⟨_, rfl, ?_, ((hF2.tr hD5).tr hC6).grown hg7 (fun k e => .inr (by have := (hown6.lt k e).1; have := hF2.size; omega))⟩
  rw [noteL_length]
  exact owns_mono hown7 hF2.size
set_option maxHeartbeats 2000000 in
theorem r9yes_3 (a b n : Nat) (w : World) (ha : a ≤ 1048576) (hb : b ≤ 1048576) (hn : n < 9223372036854775808)  : Calls Try.prog 10 #[.agg #[.int .i64 3, .int .i64 (a : Int), .int .i64 (b : Int), .int .i64 (n : Int)]] w (GaveBE w (noteL 3 a b n) 0) := by
  have h3 : decide ((a : Int) < 0) = false := decide_eq_false (by omega)
  have h4 : decide (1048576 < (a : Int)) = false := decide_eq_false (by omega)
  have h5 : decide ((b : Int) < 0) = false := decide_eq_false (by omega)
  have h6 : decide (1048576 < (b : Int)) = false := decide_eq_false (by omega)
  have h7 : decide ((n : Int) < 0) = false := decide_eq_false (by omega)
  have u2 : IntKind.u64.wrap (a : Int) = a := by rw [wrap_u64_mod]; omega
  have u3 : IntKind.u64.wrap (b : Int) = b := by rw [wrap_u64_mod]; omega
  obtain ⟨a1, a2⟩ := num_fit 4 a rfl (by omega)
  obtain ⟨b1, b2⟩ := num_fit 4 b rfl (by omega)
  obtain ⟨i0, hi, hz0, hz1, hz2⟩ := info_parts Try.info5
  have q1 := fun w' => refNum_any 4 a w' (by omega) (by omega)
  rw [Int.toNat_natCast, show (4 : Int) = ((4 : Nat) : Int) from rfl, a1, a2] at q1
  have q2 := fun w' => refNum_any 4 b w' (by omega) (by omega)
  rw [Int.toNat_natCast, show (4 : Int) = ((4 : Nat) : Int) from rfl, b1, b2] at q2
  have q3 := fun w' => refInt_any n w'
  rw [show ((n : Int) % 18446744073709551616).toNat = n by omega] at q3
  have HN := Lib.hid (show be 1 3 = [UInt8.ofNat 3] from rfl)
  clear a1 a2 b1 b2 ha hb hn
  go_enter Try.func10, Try.ntmps10
  go_wp2_with fail
  refine (q1 _).mono ?_
  clear q1
  rintro e w1 ⟨v1, rfl, ho1, hC1⟩
  have c2 : w1.cell? ⟨w.heap.size, 2, none⟩ = some (.int .i64 (b : Int)) := hC1.cell (new_cell w _ _ rfl) id
  have c3 : w1.cell? ⟨w.heap.size, 3, none⟩ = some (.int .i64 (n : Int)) := hC1.cell (new_cell w _ _ rfl) id
  have c0 : w1.cell? ⟨w.heap.size, 0, none⟩ = some (.int .i64 3) := hC1.cell (new_cell w _ _ rfl) id
  go_wp2_with fail
  refine (q2 _).mono ?_
  clear q2
  rintro e w2 ⟨v2, rfl, ho2, hC2⟩
  replace c0 := hC2.cell c0 id
  replace c3 := hC2.cell c3 id
  have hs1 := (Sl.of_owns ho1).fr hC2
  have hs2 := Sl.of_owns ho2
  clear ho1 ho2
  obtain ⟨p1, d1, rfl, _⟩ := hs1.form
  obtain ⟨p2, d2, rfl, _⟩ := hs2.form
  rw [List.length_map, be_length] at hs1 hs2
  rw [List.length_map, be_length, List.length_map, be_length]
  have hF2 : Chg (fun _ => False) w w2 := (((Chg.refl _ w).alloc _).tr hC1).tr hC2
  clear hC1 hC2 c2
  have hL := World.ownsRow_lit (base := w2.heap.size) (e := 5) (size := 1) w2 #[.int .u8 3] 1 (Nat.le_refl _) (by unfold maxLen; decide) rfl
  have hs1' := (hs1.fr ((Chg.refl _ w2).alloc (.cells #[.int .u8 3] 5))).src
  have c3' := alloc_cell c3 (.cells #[.int .u8 3] 5)
  go_wp2_with (first
    | (refine wpList_append_own_any rfl (.tmp 87) (.tmp 88) 24 rfl w2.heap.size 5 i0 (.int .u8 0) 1 1 Try.underlying24 hi hz0 hz1 hz2 rfl (by decide) (.slice (some ⟨w2.heap.size, 0, none⟩) 1 1) 1 [.int .u8 3] rfl hL p1 4 d1 ((be 4 a).map B) rfl (by rw [List.length_map, be_length]) hs1' (oneCell_B _) (by unfold maxLen; decide) (by decide) (by simp) ?_; intro v4 w4 hown4 hg4 _ _; have hD4 : Chg (fun _ => False) w2 w4 := ((Chg.refl _ w2).alloc _).grown hg4 (fun k e => .inr (by simp [Value.ownBlock] at e; omega)); have hs2' := (hs2.fr hD4).src)
    | (refine wpList_append_own_any rfl (.tmp 90) (.tmp 91) 24 rfl w2.heap.size 5 i0 (.int .u8 0) 1 1 Try.underlying24 hi hz0 hz1 hz2 rfl (by decide) v4 _ _ rfl hown4 p2 4 d2 ((be 4 b).map B) rfl (by rw [List.length_map, be_length]) hs2' (oneCell_B _) (by unfold maxLen; decide) (by decide) hD4.size ?_; intro v5 w5 hown5 hg5 _ _; have hD5 : Chg (fun _ => False) w2 w5 := hD4.grown hg5 (fun k e => .inr (hown4.lt k e).1); have c5 := hD5.cell c3 id))
  refine (q3 _).mono ?_
  rintro e w6 ⟨v6, rfl, ho6, hC6⟩
  have hown6 := hC6.owns hown5 (fun _ _ => id)
  have hs6 := Sl.of_owns ho6
  obtain ⟨p6, d6, rfl, _⟩ := hs6.form
  rw [List.length_map, be_length] at hs6
  rw [List.length_map, be_length]
  have hs6' := hs6.src
  have hz6 : w2.heap.size ≤ w6.heap.size := by have := hD5.size; have := hC6.size; omega
  go_wp2_with (refine wpList_append_own_any rfl (.tmp 93) (.tmp 96) 24 rfl w2.heap.size 5 i0 (.int .u8 0) 1 1 Try.underlying24 hi hz0 hz1 hz2 rfl (by decide) v5 _ _ rfl hown6 p6 8 d6 ((be 8 n).map B) rfl (by rw [List.length_map, be_length]) hs6' (oneCell_B _) (by unfold maxLen; decide) (by decide) hz6 ?_; intro v7 w7 hown7 hg7 _ _)
  go_ret2
  have hl : [Value.int .u8 3] ++ (be 4 a).map B ++ (be 4 b).map B ++ (be 8 n).map B = (noteL 3 a b n).map B := by
    unfold noteL
    rw [HN.out, List.map_append, List.map_append, List.map_append]
    rfl
  rw [hl] at hown7
  refine ⟨_, rfl, ?_, ((hF2.tr hD5).tr hC6).grown hg7 (fun k e => .inr (by have := (hown6.lt k e).1; have := hF2.size; omega))⟩
  rw [noteL_length]
  exact owns_mono hown7 hF2.size
set_option maxHeartbeats 2000000 in
theorem r9yes_4 (a b n : Nat) (w : World) (ha : a ≤ 1048576) (hb : b ≤ 1048576) (hn : n < 9223372036854775808) (hb8 : decide (0 < b) = false) (hn8 : decide (0 < n) = false) : Calls Try.prog 10 #[.agg #[.int .i64 4, .int .i64 (a : Int), .int .i64 (b : Int), .int .i64 (n : Int)]] w (GaveBE w (noteL 4 a b n) 0) := by
  have h3 : decide ((a : Int) < 0) = false := decide_eq_false (by omega)
  have h4 : decide (1048576 < (a : Int)) = false := decide_eq_false (by omega)
  have h5 : decide ((b : Int) < 0) = false := decide_eq_false (by omega)
  have h6 : decide (1048576 < (b : Int)) = false := decide_eq_false (by omega)
  have h7 : decide ((n : Int) < 0) = false := decide_eq_false (by omega)
  have u2 : IntKind.u64.wrap (a : Int) = a := by rw [wrap_u64_mod]; omega
  have u3 : IntKind.u64.wrap (b : Int) = b := by rw [wrap_u64_mod]; omega
  obtain ⟨a1, a2⟩ := num_fit 4 a rfl (by omega)
  obtain ⟨b1, b2⟩ := num_fit 4 b rfl (by omega)
  obtain ⟨i0, hi, hz0, hz1, hz2⟩ := info_parts Try.info5
  have q1 := fun w' => refNum_any 4 a w' (by omega) (by omega)
  rw [Int.toNat_natCast, show (4 : Int) = ((4 : Nat) : Int) from rfl, a1, a2] at q1
  have q2 := fun w' => refNum_any 4 b w' (by omega) (by omega)
  rw [Int.toNat_natCast, show (4 : Int) = ((4 : Nat) : Int) from rfl, b1, b2] at q2
  have q3 := fun w' => refInt_any n w'
  rw [show ((n : Int) % 18446744073709551616).toNat = n by omega] at q3
  have HN := Lib.hid (show be 1 4 = [UInt8.ofNat 4] from rfl)
  clear a1 a2 b1 b2 ha hb hn
  go_enter Try.func10, Try.ntmps10
  go_wp2_with fail
  refine (q1 _).mono ?_
  clear q1
  rintro e w1 ⟨v1, rfl, ho1, hC1⟩
  have c2 : w1.cell? ⟨w.heap.size, 2, none⟩ = some (.int .i64 (b : Int)) := hC1.cell (new_cell w _ _ rfl) id
  have c3 : w1.cell? ⟨w.heap.size, 3, none⟩ = some (.int .i64 (n : Int)) := hC1.cell (new_cell w _ _ rfl) id
  have c0 : w1.cell? ⟨w.heap.size, 0, none⟩ = some (.int .i64 4) := hC1.cell (new_cell w _ _ rfl) id
  go_wp2_with fail
  refine (q2 _).mono ?_
  clear q2
  rintro e w2 ⟨v2, rfl, ho2, hC2⟩
  replace c0 := hC2.cell c0 id
  replace c3 := hC2.cell c3 id
  have hs1 := (Sl.of_owns ho1).fr hC2
  have hs2 := Sl.of_owns ho2
  clear ho1 ho2
  obtain ⟨p1, d1, rfl, _⟩ := hs1.form
  obtain ⟨p2, d2, rfl, _⟩ := hs2.form
  rw [List.length_map, be_length] at hs1 hs2
  rw [List.length_map, be_length, List.length_map, be_length]
  have hF2 : Chg (fun _ => False) w w2 := (((Chg.refl _ w).alloc _).tr hC1).tr hC2
  clear hC1 hC2 c2
  have hL := World.ownsRow_lit (base := w2.heap.size) (e := 5) (size := 1) w2 #[.int .u8 4] 1 (Nat.le_refl _) (by unfold maxLen; decide) rfl
  have hs1' := (hs1.fr ((Chg.refl _ w2).alloc (.cells #[.int .u8 4] 5))).src
  have c3' := alloc_cell c3 (.cells #[.int .u8 4] 5)
  go_wp2_with (first
    | (refine wpList_append_own_any rfl (.tmp 87) (.tmp 88) 24 rfl w2.heap.size 5 i0 (.int .u8 0) 1 1 Try.underlying24 hi hz0 hz1 hz2 rfl (by decide) (.slice (some ⟨w2.heap.size, 0, none⟩) 1 1) 1 [.int .u8 4] rfl hL p1 4 d1 ((be 4 a).map B) rfl (by rw [List.length_map, be_length]) hs1' (oneCell_B _) (by unfold maxLen; decide) (by decide) (by simp) ?_; intro v4 w4 hown4 hg4 _ _; have hD4 : Chg (fun _ => False) w2 w4 := ((Chg.refl _ w2).alloc _).grown hg4 (fun k e => .inr (by simp [Value.ownBlock] at e; omega)); have hs2' := (hs2.fr hD4).src)
    | (refine wpList_append_own_any rfl (.tmp 90) (.tmp 91) 24 rfl w2.heap.size 5 i0 (.int .u8 0) 1 1 Try.underlying24 hi hz0 hz1 hz2 rfl (by decide) v4 _ _ rfl hown4 p2 4 d2 ((be 4 b).map B) rfl (by rw [List.length_map, be_length]) hs2' (oneCell_B _) (by unfold maxLen; decide) (by decide) hD4.size ?_; intro v5 w5 hown5 hg5 _ _; have hD5 : Chg (fun _ => False) w2 w5 := hD4.grown hg5 (fun k e => .inr (hown4.lt k e).1); have c5 := hD5.cell c3 id))
  refine (q3 _).mono ?_
  rintro e w6 ⟨v6, rfl, ho6, hC6⟩
  have hown6 := hC6.owns hown5 (fun _ _ => id)
  have hs6 := Sl.of_owns ho6
  obtain ⟨p6, d6, rfl, _⟩ := hs6.form
  rw [List.length_map, be_length] at hs6
  rw [List.length_map, be_length]
  have hs6' := hs6.src
  have hz6 : w2.heap.size ≤ w6.heap.size := by have := hD5.size; have := hC6.size; omega
  go_wp2_with (refine wpList_append_own_any rfl (.tmp 93) (.tmp 96) 24 rfl w2.heap.size 5 i0 (.int .u8 0) 1 1 Try.underlying24 hi hz0 hz1 hz2 rfl (by decide) v5 _ _ rfl hown6 p6 8 d6 ((be 8 n).map B) rfl (by rw [List.length_map, be_length]) hs6' (oneCell_B _) (by unfold maxLen; decide) (by decide) hz6 ?_; intro v7 w7 hown7 hg7 _ _)
  go_ret2
  have hl : [Value.int .u8 4] ++ (be 4 a).map B ++ (be 4 b).map B ++ (be 8 n).map B = (noteL 4 a b n).map B := by
    unfold noteL
    rw [HN.out, List.map_append, List.map_append, List.map_append]
    rfl
  rw [hl] at hown7
  refine ⟨_, rfl, ?_, ((hF2.tr hD5).tr hC6).grown hg7 (fun k e => .inr (by have := (hown6.lt k e).1; have := hF2.size; omega))⟩
  rw [noteL_length]
  exact owns_mono hown7 hF2.size
set_option maxHeartbeats 2000000 in
theorem r9yes_5 (a b n : Nat) (w : World) (ha : a ≤ 1048576) (hb : b ≤ 1048576) (hn : n < 9223372036854775808) (hn8 : decide (0 < n) = false) : Calls Try.prog 10 #[.agg #[.int .i64 5, .int .i64 (a : Int), .int .i64 (b : Int), .int .i64 (n : Int)]] w (GaveBE w (noteL 5 a b n) 0) := by
  have h3 : decide ((a : Int) < 0) = false := decide_eq_false (by omega)
  have h4 : decide (1048576 < (a : Int)) = false := decide_eq_false (by omega)
  have h5 : decide ((b : Int) < 0) = false := decide_eq_false (by omega)
  have h6 : decide (1048576 < (b : Int)) = false := decide_eq_false (by omega)
  have h7 : decide ((n : Int) < 0) = false := decide_eq_false (by omega)
  have u2 : IntKind.u64.wrap (a : Int) = a := by rw [wrap_u64_mod]; omega
  have u3 : IntKind.u64.wrap (b : Int) = b := by rw [wrap_u64_mod]; omega
  obtain ⟨a1, a2⟩ := num_fit 4 a rfl (by omega)
  obtain ⟨b1, b2⟩ := num_fit 4 b rfl (by omega)
  obtain ⟨i0, hi, hz0, hz1, hz2⟩ := info_parts Try.info5
  have q1 := fun w' => refNum_any 4 a w' (by omega) (by omega)
  rw [Int.toNat_natCast, show (4 : Int) = ((4 : Nat) : Int) from rfl, a1, a2] at q1
  have q2 := fun w' => refNum_any 4 b w' (by omega) (by omega)
  rw [Int.toNat_natCast, show (4 : Int) = ((4 : Nat) : Int) from rfl, b1, b2] at q2
  have q3 := fun w' => refInt_any n w'
  rw [show ((n : Int) % 18446744073709551616).toNat = n by omega] at q3
  have HN := Lib.hid (show be 1 5 = [UInt8.ofNat 5] from rfl)
  clear a1 a2 b1 b2 ha hb hn
  go_enter Try.func10, Try.ntmps10
  go_wp2_with fail
  refine (q1 _).mono ?_
  clear q1
  rintro e w1 ⟨v1, rfl, ho1, hC1⟩
  have c2 : w1.cell? ⟨w.heap.size, 2, none⟩ = some (.int .i64 (b : Int)) := hC1.cell (new_cell w _ _ rfl) id
  have c3 : w1.cell? ⟨w.heap.size, 3, none⟩ = some (.int .i64 (n : Int)) := hC1.cell (new_cell w _ _ rfl) id
  have c0 : w1.cell? ⟨w.heap.size, 0, none⟩ = some (.int .i64 5) := hC1.cell (new_cell w _ _ rfl) id
  go_wp2_with fail
  refine (q2 _).mono ?_
  clear q2
  rintro e w2 ⟨v2, rfl, ho2, hC2⟩
  replace c0 := hC2.cell c0 id
  replace c3 := hC2.cell c3 id
  have hs1 := (Sl.of_owns ho1).fr hC2
  have hs2 := Sl.of_owns ho2
  clear ho1 ho2
  obtain ⟨p1, d1, rfl, _⟩ := hs1.form
  obtain ⟨p2, d2, rfl, _⟩ := hs2.form
  rw [List.length_map, be_length] at hs1 hs2
  rw [List.length_map, be_length, List.length_map, be_length]
  have hF2 : Chg (fun _ => False) w w2 := (((Chg.refl _ w).alloc _).tr hC1).tr hC2
  clear hC1 hC2 c2
  have hL := World.ownsRow_lit (base := w2.heap.size) (e := 5) (size := 1) w2 #[.int .u8 5] 1 (Nat.le_refl _) (by unfold maxLen; decide) rfl
  have hs1' := (hs1.fr ((Chg.refl _ w2).alloc (.cells #[.int .u8 5] 5))).src
  have c3' := alloc_cell c3 (.cells #[.int .u8 5] 5)
  go_wp2_with (first
    | (refine wpList_append_own_any rfl (.tmp 87) (.tmp 88) 24 rfl w2.heap.size 5 i0 (.int .u8 0) 1 1 Try.underlying24 hi hz0 hz1 hz2 rfl (by decide) (.slice (some ⟨w2.heap.size, 0, none⟩) 1 1) 1 [.int .u8 5] rfl hL p1 4 d1 ((be 4 a).map B) rfl (by rw [List.length_map, be_length]) hs1' (oneCell_B _) (by unfold maxLen; decide) (by decide) (by simp) ?_; intro v4 w4 hown4 hg4 _ _; have hD4 : Chg (fun _ => False) w2 w4 := ((Chg.refl _ w2).alloc _).grown hg4 (fun k e => .inr (by simp [Value.ownBlock] at e; omega)); have hs2' := (hs2.fr hD4).src)
    | (refine wpList_append_own_any rfl (.tmp 90) (.tmp 91) 24 rfl w2.heap.size 5 i0 (.int .u8 0) 1 1 Try.underlying24 hi hz0 hz1 hz2 rfl (by decide) v4 _ _ rfl hown4 p2 4 d2 ((be 4 b).map B) rfl (by rw [List.length_map, be_length]) hs2' (oneCell_B _) (by unfold maxLen; decide) (by decide) hD4.size ?_; intro v5 w5 hown5 hg5 _ _; have hD5 : Chg (fun _ => False) w2 w5 := hD4.grown hg5 (fun k e => .inr (hown4.lt k e).1); have c5 := hD5.cell c3 id))
  refine (q3 _).mono ?_
  rintro e w6 ⟨v6, rfl, ho6, hC6⟩
  have hown6 := hC6.owns hown5 (fun _ _ => id)
  have hs6 := Sl.of_owns ho6
  obtain ⟨p6, d6, rfl, _⟩ := hs6.form
  rw [List.length_map, be_length] at hs6
  rw [List.length_map, be_length]
  have hs6' := hs6.src
  have hz6 : w2.heap.size ≤ w6.heap.size := by have := hD5.size; have := hC6.size; omega
  go_wp2_with (refine wpList_append_own_any rfl (.tmp 93) (.tmp 96) 24 rfl w2.heap.size 5 i0 (.int .u8 0) 1 1 Try.underlying24 hi hz0 hz1 hz2 rfl (by decide) v5 _ _ rfl hown6 p6 8 d6 ((be 8 n).map B) rfl (by rw [List.length_map, be_length]) hs6' (oneCell_B _) (by unfold maxLen; decide) (by decide) hz6 ?_; intro v7 w7 hown7 hg7 _ _)
  go_ret2
  have hl : [Value.int .u8 5] ++ (be 4 a).map B ++ (be 4 b).map B ++ (be 8 n).map B = (noteL 5 a b n).map B := by
    unfold noteL
    rw [HN.out, List.map_append, List.map_append, List.map_append]
    rfl
  rw [hl] at hown7
  refine ⟨_, rfl, ?_, ((hF2.tr hD5).tr hC6).grown hg7 (fun k e => .inr (by have := (hown6.lt k e).1; have := hF2.size; omega))⟩
  rw [noteL_length]
  exact owns_mono hown7 hF2.size
end Go.Proofs.Ytpiboaoifcajdaa
