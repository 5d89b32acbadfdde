/- CrcJoins' walk. -/
import Derived.Test.YtkckniipingkiaaCrcT
import Derived.Test.YtkckniipingkiaaOpen
namespace Go.Proofs.Ytkckniipingkiaa
open Go.RowKit

theorem join_at (f s : Nat) (n : Int) (k : Nat) (w : World) (hf : f < 4294967296) (hs : s < 4294967296) (hk : n = (k : Int)) (hn : k < 9223372036854775808) :
    Calls Try.prog 10 #[.int .u32 f, .int .u32 s, .int .i64 n] w fun e w' => e = .returned (.tuple #[.int .u32 ((regN f (8 * k) ^^^ s : Nat) : Int), .int .i64 0]) ∧ w = w' := by
  have h := join_any f s n w hf hs (by omega)
  rw [if_neg (by omega), show n.toNat = k by omega] at h
  exact h

set_option maxRecDepth 100000 in
set_option maxHeartbeats 3000000 in
theorem crcJoins_main (xs ys zs : List UInt8) (l1 l2 l3 : Nat) (m1 : xs.length = l1) (m2 : ys.length = l2) (m3 : zs.length = l3) (a1 a2 a3 : Option Addr) (c1 c2 c3 : Nat) (W : World) (hA : Sl W (.slice a1 l1 c1) (xs.map B)) (hB : Sl W (.slice a2 l2 c2) (ys.map B)) (hZ : Sl W (.slice a3 l3 c3) (zs.map B))
    (h1 : ¬ (3000 : Int) < l1) (h2 : ¬ (3000 : Int) < l2) (h3 : ¬ (3000 : Int) < l3) :
    Calls Try.prog 4 #[.slice a1 l1 c1, .slice a2 l2 c2, .slice a3 l3 c3] W (True_ W) := by
  obtain ⟨i0, hi, hz0, hz1, hz2⟩ := info_parts Try.info5
  have HA := Lib.hid hA
  have HB := Lib.hid hB
  have HZ := Lib.hid hZ
  clear hA hB hZ
  go_enter Try.func4, Try.ntmps4
  go_wp2_with fail
  refine (alive_any W).mono ?_
  rintro e w1 ⟨rfl, hC1⟩
  go_wp2_with (first
    | (refine wpList_append_own_any rfl (.tmp 37) (.tmp 38) 22 rfl W.heap.size 5 i0 (.int .u8 0) 1 1 Try.underlying22 hi hz0 hz1 hz2 rfl (by decide) (.slice (some ⟨w1.heap.size, 0, none⟩) 0 0) 0 [] rfl (World.ownsRow_lit w1 #[] 0 hC1.size (Nat.zero_le _) rfl) a1 l1 c1 (xs.map B) rfl (by rw [List.length_map]; omega) ((HA.out.fr hC1).fr ((Chg.refl _ w1).alloc _)).src (by simp [B, Value.oneCell']) (by unfold maxLen; omega) (by omega) (by have := hC1.size; simp; omega) ?_; intro v2 w2 hown2 hg2 _ hO2; have hC2 := (hC1.alloc (.cells #[] 5)).grown hg2 (fun k e => .inr (by have := hC1.size; simp [Value.ownBlock] at e; omega)))
    | (refine wpList_append_own_any rfl (.tmp 39) (.tmp 40) 22 rfl W.heap.size 5 i0 (.int .u8 0) 1 1 Try.underlying22 hi hz0 hz1 hz2 rfl (by decide) v2 _ _ rfl hown2 a2 l2 c2 (ys.map B) rfl (by rw [List.length_map]; omega) (HB.out.fr hC2).src (by simp [B, Value.oneCell']) (by unfold maxLen; omega) (by omega) hC2.size ?_; intro v3 w3 hown3 hg3 _ hO3; have hC3 := hC2.grown hg3 (fun k e => .inr (hown2.lt k e).1))
    | (refine wpList_append_own_any rfl (.tmp 41) (.tmp 42) 22 rfl W.heap.size 5 i0 (.int .u8 0) 1 1 Try.underlying22 hi hz0 hz1 hz2 rfl (by decide) v3 _ _ rfl hown3 a3 l3 c3 (zs.map B) rfl (by rw [List.length_map]; omega) (HZ.out.fr hC3).src (by simp [B, Value.oneCell']) (by unfold maxLen; omega) (by omega) hC3.size ?_; intro v4 w4 hown4 hg4 _ hO4; have hC4 := hC3.grown hg4 (fun k e => .inr (hown3.lt k e).1)))
  have hAll := Sl.of_owns hown4
  have eAll : ([] ++ xs.map B ++ ys.map B ++ zs.map B) = (xs ++ ys ++ zs).map B := by simp
  rw [eAll] at hAll
  clear eAll hown2 hown3 hg2 hg3 hg4 hO2 hO3 hO4 hC1 hC2 hC3
  have hlen : (xs ++ ys ++ zs).length ≤ 140737488355328 := by rw [List.length_append, List.length_append]; omega
  obtain ⟨ao, L, c, rfl, hL⟩ := owns_name hown4
  clear hown4 hL
  have x12 : regN (moreN 0 xs) (8 * l2) ^^^ moreN 0 ys = moreN 0 (xs ++ ys) := by rw [← m2]; exact more_join xs ys
  have x123 : regN (moreN 0 (xs ++ ys)) (8 * l3) ^^^ moreN 0 zs = moreN 0 (xs ++ ys ++ zs) := by rw [← m3]; exact more_join (xs ++ ys) zs
  have x23 : regN (moreN 0 ys) (8 * l3) ^^^ moreN 0 zs = moreN 0 (ys ++ zs) := by rw [← m3]; exact more_join ys zs
  have x123' : regN (moreN 0 xs) (8 * (l2 + l3)) ^^^ moreN 0 (ys ++ zs) = moreN 0 (xs ++ ys ++ zs) := by rw [← m2, ← m3, ← List.length_append, List.append_assoc]; exact more_join xs (ys ++ zs)
  have xm := more_behind (xs ++ ys) zs
  have b1 : moreN 0 xs < 4294967296 := moreN_lt _ (by decide)
  have b2 : moreN 0 ys < 4294967296 := moreN_lt _ (by decide)
  have b3 : moreN 0 zs < 4294967296 := moreN_lt _ (by decide)
  have b12 : moreN 0 (xs ++ ys) < 4294967296 := moreN_lt _ (by decide)
  have b23 : moreN 0 (ys ++ zs) < 4294967296 := moreN_lt _ (by decide)
  obtain ⟨p1, e1⟩ : ∃ p, moreN 0 xs = p := ⟨_, rfl⟩
  obtain ⟨p2, e2⟩ : ∃ p, moreN 0 ys = p := ⟨_, rfl⟩
  obtain ⟨p3, e3⟩ : ∃ p, moreN 0 zs = p := ⟨_, rfl⟩
  obtain ⟨p12, e12⟩ : ∃ p, moreN 0 (xs ++ ys) = p := ⟨_, rfl⟩
  obtain ⟨p23, e23⟩ : ∃ p, moreN 0 (ys ++ zs) = p := ⟨_, rfl⟩
  obtain ⟨p, e0⟩ : ∃ p, moreN 0 (xs ++ ys ++ zs) = p := ⟨_, rfl⟩
  rw [e1] at x12 x123' b1
  rw [e2] at x12 x23 b2
  rw [e3] at x123 x23 b3
  rw [e12] at x12 x123 xm b12
  rw [e23] at x23 x123' b23
  rw [e0] at x123 x123' xm
  have oA : ∀ w', Chg (fun _ => False) W w' → Calls Try.prog 9 #[.slice a1 l1 c1] w' (Gave w' (.int .u32 p1)) := fun w' h => by rw [← e1]; exact of_any _ xs w' (HA.out.fr h) (by omega)
  have oB : ∀ w', Chg (fun _ => False) W w' → Calls Try.prog 9 #[.slice a2 l2 c2] w' (Gave w' (.int .u32 p2)) := fun w' h => by rw [← e2]; exact of_any _ ys w' (HB.out.fr h) (by omega)
  have oZ : ∀ w', Chg (fun _ => False) W w' → Calls Try.prog 9 #[.slice a3 l3 c3] w' (Gave w' (.int .u32 p3)) := fun w' h => by rw [← e3]; exact of_any _ zs w' (HZ.out.fr h) (by omega)
  have oS : ∀ w', Chg (fun _ => False) w4 w' → Calls Try.prog 9 #[.slice ao L c] w' (Gave w' (.int .u32 p)) := fun w' h => by rw [← e0]; exact of_any _ _ w' (hAll.fr h) hlen
  have oM : ∀ w', Chg (fun _ => False) W w' → Calls Try.prog 11 #[.int .u32 p12, .slice a3 l3 c3] w' (Gave w' (.int .u32 p)) := fun w' h => by rw [← xm]; exact more_any p12 _ zs w' b12 (HZ.out.fr h) (by omega)
  clear e1 e2 e3 e12 e23 e0 hAll hlen HA HB HZ xm
  have hw : IntKind.i64.wrap ((l2 : Int) + (l3 : Int)) = (l2 : Int) + (l3 : Int) := IntWalk.i64_in _ (by omega)
  have hD4 := Chg.refl (fun _ => False) w4
  go_wp2_with fail
  refine (oA _ hC4).mono ?_
  rintro e w5 ⟨rfl, hN⟩
  have hC5 := hC4.tr hN
  have hD5 := hD4.tr hN
  clear hN
  go_wp2_with fail
  refine (oB _ hC5).mono ?_
  rintro e w6 ⟨rfl, hN⟩
  have hC6 := hC5.tr hN
  have hD6 := hD5.tr hN
  clear hN
  go_wp2_with fail
  have hJ := join_at p1 p2 _ l2 w6 b1 b2 rfl (by omega)
  rw [x12] at hJ
  refine hJ.mono ?_
  clear hJ
  rintro e w' ⟨rfl, rfl⟩
  go_wp2_with fail
  refine (oZ _ hC6).mono ?_
  rintro e w7 ⟨rfl, hN⟩
  have hC7 := hC6.tr hN
  have hD7 := hD6.tr hN
  clear hN
  go_wp2_with fail
  have hJ := join_at p12 p3 _ l3 w7 b12 b3 rfl (by omega)
  rw [x123] at hJ
  refine hJ.mono ?_
  clear hJ
  rintro e w' ⟨rfl, rfl⟩
  go_wp2_with fail
  refine (oB _ hC7).mono ?_
  rintro e w8 ⟨rfl, hN⟩
  have hC8 := hC7.tr hN
  have hD8 := hD7.tr hN
  clear hN
  go_wp2_with fail
  refine (oZ _ hC8).mono ?_
  rintro e w9 ⟨rfl, hN⟩
  have hC9 := hC8.tr hN
  have hD9 := hD8.tr hN
  clear hN
  go_wp2_with fail
  have hJ := join_at p2 p3 _ l3 w9 b2 b3 rfl (by omega)
  rw [x23] at hJ
  refine hJ.mono ?_
  clear hJ
  rintro e w' ⟨rfl, rfl⟩
  go_wp2_with fail
  refine (oA _ hC9).mono ?_
  rintro e w10 ⟨rfl, hN⟩
  have hC10 := hC9.tr hN
  have hD10 := hD9.tr hN
  clear hN
  go_wp2_with fail
  have hJ := join_at p1 p23 ((l2 : Int) + (l3 : Int)) (l2 + l3) w10 b1 b23 (by omega) (by omega)
  rw [x123'] at hJ
  refine hJ.mono ?_
  clear hJ
  rintro e w' ⟨rfl, rfl⟩
  go_wp2_with fail
  refine (oS _ hD10).mono ?_
  rintro e w11 ⟨rfl, hN⟩
  have hC11 := hC10.tr hN
  have hD11 := hD10.tr hN
  clear hN
  go_wp2_with fail
  refine (oM _ hC11).mono ?_
  rintro e w12 ⟨rfl, hN⟩
  have hC12 := hC11.tr hN
  have hD12 := hD11.tr hN
  clear hN
  go_wp2
  go_ret
  exact ⟨by simp, hC12⟩

theorem crcJoins_big1 (l1 l2 l3 : Nat) (a1 a2 a3 : Option Addr) (c1 c2 c3 : Nat) (W : World) (h1 : (3000 : Int) < l1) :
    Calls Try.prog 4 #[.slice a1 l1 c1, .slice a2 l2 c2, .slice a3 l3 c3] W (True_ W) := by
  go_enter Try.func4, Try.ntmps4
  go_wp2_with fail
  refine (alive_any W).mono ?_
  rintro e w1 ⟨rfl, hC1⟩
  go_wp2
  go_ret
  exact ⟨rfl, hC1⟩
theorem crcJoins_big2 (l1 l2 l3 : Nat) (a1 a2 a3 : Option Addr) (c1 c2 c3 : Nat) (W : World) (h1 : ¬ (3000 : Int) < l1) (h2 : (3000 : Int) < l2) :
    Calls Try.prog 4 #[.slice a1 l1 c1, .slice a2 l2 c2, .slice a3 l3 c3] W (True_ W) := by
  go_enter Try.func4, Try.ntmps4
  go_wp2_with fail
  refine (alive_any W).mono ?_
  rintro e w1 ⟨rfl, hC1⟩
  go_wp2
  go_ret
  exact ⟨rfl, hC1⟩
theorem crcJoins_big3 (l1 l2 l3 : Nat) (a1 a2 a3 : Option Addr) (c1 c2 c3 : Nat) (W : World) (h1 : ¬ (3000 : Int) < l1) (h2 : ¬ (3000 : Int) < l2) (h3 : (3000 : Int) < l3) :
    Calls Try.prog 4 #[.slice a1 l1 c1, .slice a2 l2 c2, .slice a3 l3 c3] W (True_ W) := by
  go_enter Try.func4, Try.ntmps4
  go_wp2_with fail
  refine (alive_any W).mono ?_
  rintro e w1 ⟨rfl, hC1⟩
  go_wp2
  go_ret
  exact ⟨rfl, hC1⟩

theorem crcJoins_walk (va : Value) (xs : List UInt8) (vb : Value) (ys : List UInt8) (vc : Value) (zs : List UInt8) (W : World) (hA : Sl W va (xs.map B)) (hB : Sl W vb (ys.map B)) (hZ : Sl W vc (zs.map B)) :
    Calls Try.prog 4 #[va, vb, vc] W (True_ W) := by
  obtain ⟨a1, c1, rfl, _⟩ := hA.form
  obtain ⟨a2, c2, rfl, _⟩ := hB.form
  obtain ⟨a3, c3, rfl, _⟩ := hZ.form
  rw [List.length_map] at hA hB hZ
  rw [List.length_map, List.length_map, List.length_map]
  by_cases h1 : (3000 : Int) < xs.length
  · exact crcJoins_big1 _ _ _ a1 a2 a3 c1 c2 c3 W h1
  · by_cases h2 : (3000 : Int) < ys.length
    · exact crcJoins_big2 _ _ _ a1 a2 a3 c1 c2 c3 W h1 h2
    · by_cases h3 : (3000 : Int) < zs.length
      · exact crcJoins_big3 _ _ _ a1 a2 a3 c1 c2 c3 W h1 h2 h3
      · exact crcJoins_main xs ys zs _ _ _ rfl rfl rfl a1 a2 a3 c1 c2 c3 W hA hB hZ h1 h2 h3
end Go.Proofs.Ytkckniipingkiaa
