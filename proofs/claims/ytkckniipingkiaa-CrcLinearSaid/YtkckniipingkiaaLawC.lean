/- CrcLinear: sums go with bits: the plain law, and the walk. -/
import Derived.Test.YtkckniipingkiaaCrcO
import Derived.Deep.RegionHeld3
namespace Go.Proofs.Ytkckniipingkiaa
open Go.RowKit

theorem xor_div2 (a b : Nat) (k : Nat) : (a ^^^ b) / 2 ^ k = (a / 2 ^ k) ^^^ (b / 2 ^ k) := by
  rw [← Nat.shiftRight_eq_div_pow, ← Nat.shiftRight_eq_div_pow, ← Nat.shiftRight_eq_div_pow, Nat.shiftRight_xor_distrib]
theorem xor_mod2 (a b : Nat) (k : Nat) : (a ^^^ b) % 2 ^ k = (a % 2 ^ k) ^^^ (b % 2 ^ k) := Nat.xor_mod_two_pow
theorem stepN_eq (c : Nat) : stepN c = (c / 2) ^^^ (if c % 2 = 1 then 3988292384 else 0) := by
  unfold stepN
  split <;> simp
theorem stepN_xor (a b : Nat) : stepN (a ^^^ b) = stepN a ^^^ stepN b := by
  have h1 : (a ^^^ b) / 2 = (a / 2) ^^^ (b / 2) := xor_div2 a b 1
  have h2 : (a ^^^ b) % 2 = (a % 2) ^^^ (b % 2) := xor_mod2 a b 1
  rw [stepN_eq, stepN_eq a, stepN_eq b, h1, h2]
  rcases Nat.mod_two_eq_zero_or_one a with ha | ha <;> rcases Nat.mod_two_eq_zero_or_one b with hb | hb <;> rw [ha, hb] <;> simp
  · rw [Nat.xor_assoc]
  · rw [Nat.xor_assoc, Nat.xor_comm (b / 2), Nat.xor_assoc]
  · rw [Nat.xor_assoc, ← Nat.xor_assoc 3988292384, Nat.xor_comm 3988292384 (b / 2), Nat.xor_assoc (b / 2), Nat.xor_self, Nat.xor_zero]
theorem regN_xor (a b : Nat) : ∀ k, regN (a ^^^ b) k = regN a k ^^^ regN b k
  | 0 => rfl
  | k + 1 => by show stepN _ = stepN _ ^^^ stepN _; rw [regN_xor a b k, stepN_xor]
theorem tabN_xor (a b : Nat) : tabN (a ^^^ b) = tabN a ^^^ tabN b := regN_xor a b 8
theorem xor4 (a b c d : Nat) : (a ^^^ b) ^^^ (c ^^^ d) = (a ^^^ c) ^^^ (b ^^^ d) := by
  rw [Nat.xor_assoc, Nat.xor_assoc, ← Nat.xor_assoc b, Nat.xor_comm b c, Nat.xor_assoc c]
/-- One byte more. -/
theorem sum_step_xor (p q x y : Nat) : (p ^^^ q) / 256 ^^^ tabN ((p ^^^ q) % 256 ^^^ (x ^^^ y)) = (p / 256 ^^^ tabN (p % 256 ^^^ x)) ^^^ (q / 256 ^^^ tabN (q % 256 ^^^ y)) := by
  have h1 : (p ^^^ q) / 256 = (p / 256) ^^^ (q / 256) := xor_div2 p q 8
  have h2 : (p ^^^ q) % 256 = (p % 256) ^^^ (q % 256) := xor_mod2 p q 8
  rw [h1, h2, xor4 (p % 256), tabN_xor, xor4]

/-- The bytes of three, laid over one another. -/
def xor3 (xs ys zs : List UInt8) (k : Nat) : List UInt8 := (List.range k).map fun j => xs[j]?.getD 0 ^^^ ys[j]?.getD 0 ^^^ zs[j]?.getD 0
theorem xor3_length (xs ys zs : List UInt8) (k : Nat) : (xor3 xs ys zs k).length = k := by simp [xor3]
theorem xor3_succ (xs ys zs : List UInt8) (k : Nat) : xor3 xs ys zs (k + 1) = xor3 xs ys zs k ++ [xs[k]?.getD 0 ^^^ ys[k]?.getD 0 ^^^ zs[k]?.getD 0] := by simp [xor3, List.range_succ]
theorem sum_xor3 (a b c : Nat) (xs ys zs : List UInt8) (k : Nat) (h1 : k ≤ xs.length) (h2 : k ≤ ys.length) (h3 : k ≤ zs.length) :
    sumN (a ^^^ b ^^^ c) (xor3 xs ys zs k) = sumN a (xs.take k) ^^^ sumN b (ys.take k) ^^^ sumN c (zs.take k) := by
  induction k with
  | zero => rfl
  | succ k ih =>
    rw [xor3_succ, sumN_snoc, ih (by omega) (by omega) (by omega), List.take_succ_eq_append_getElem (by omega), List.take_succ_eq_append_getElem (l := ys) (by omega), List.take_succ_eq_append_getElem (l := zs) (by omega), sumN_snoc, sumN_snoc, sumN_snoc,
      List.getElem?_eq_getElem (by omega), List.getElem?_eq_getElem (l := ys) (by omega), List.getElem?_eq_getElem (l := zs) (by omega), Option.getD_some, Option.getD_some, Option.getD_some, UInt8.toNat_xor, UInt8.toNat_xor, sum_step_xor, sum_step_xor]
theorem more_xor3 (xs ys zs : List UInt8) (k : Nat) (h1 : k ≤ xs.length) (h2 : k ≤ ys.length) (h3 : k ≤ zs.length) :
    moreN 0 (xor3 xs ys zs k) = (moreN 0 (xs.take k) ^^^ moreN 0 (ys.take k)) ^^^ moreN 0 (zs.take k) := by
  have h := sum_xor3 4294967295 4294967295 4294967295 xs ys zs k h1 h2 h3
  rw [Nat.xor_self, Nat.zero_xor] at h
  unfold moreN
  rw [Nat.xor_zero, h]
  generalize sumN 4294967295 (xs.take k) = p
  generalize sumN 4294967295 (ys.take k) = q
  generalize sumN 4294967295 (zs.take k) = r
  rw [xor4 4294967295 p, Nat.xor_self, Nat.zero_xor, ← Nat.xor_assoc, ← Nat.xor_assoc, ← Nat.xor_assoc, Nat.xor_comm (p ^^^ q), ← Nat.xor_assoc]

theorem sizeOf_u8 (w : World) : (sizeOf 5).run Try.prog w = .ok 1 w := by kernel_rfl

set_option maxRecDepth 100000 in
set_option maxHeartbeats 1000000 in
theorem crcLinear_a (xs ys zs : List UInt8) (l1 l2 l3 : Nat) (m1 : xs.length = l1) (m2 : ys.length = l2) (m3 : zs.length = l3) (a1 a2 a3 : Option Addr) (c1 c2 c3 : Nat) (W : World) (hA : Sl W (.slice a1 l1 c1) (xs.map B)) (hB : Sl W (.slice a2 l2 c2) (ys.map B)) (hZ : Sl W (.slice a3 l3 c3) (zs.map B)) (h1 : l3 < l2) (h2 : l3 < l1) :
    Calls Try.prog 3 #[.slice a1 l1 c1, .slice a2 l2 c2, .slice a3 l3 c3] W (True_ W) := by
  obtain ⟨i0, hi, hz0, hz1, hz2⟩ := info_parts Try.info5
  have HA := Lib.hid hA
  have HB := Lib.hid hB
  have HZ := Lib.hid hZ
  clear hA hB hZ
  go_enter Try.func3, Try.ntmps3
  go_wp2_with fail
  refine (alive_any W).mono ?_
  rintro e w1 ⟨rfl, hC1⟩
  have hn1 : l3 ≤ xs.length := by omega
  have hn2 : l3 ≤ ys.length := by omega
  have hn3 : l3 ≤ zs.length := by omega
  by_cases hbig : (3000 : Int) < l3
  · go_wp2
    go_ret
    exact ⟨rfl, hC1⟩
  · go_wp2
    go_loopw [9, 10] (fun v i wr => ∃ k : Nat, k ≤ l3 ∧ i = .int .i64 k ∧ wr.ownsRow W.heap.size 5 1 v k ((xor3 xs ys zs k).map B) ∧ Chg (fun _ => False) W wr)
      (fun _ i _ => l3 - (intOf i).toNat)
    case atStart => exact ⟨0, Nat.zero_le _, rfl, World.ownsRow_nil _ _ _ _, hC1⟩
    case round =>
      obtain ⟨k, hk, rfl, hown, hC⟩ := hrel
      by_cases hlt : k < l3
      · have hnx := xor3_succ xs ys zs k
        obtain ⟨b1, o1, d1, e1, hx⟩ := (HA.out.fr hC).at (j := k) (by rw [List.length_map]; omega)
        obtain ⟨b2, o2, d2, e2, hy⟩ := (HB.out.fr hC).at (j := k) (by rw [List.length_map]; omega)
        obtain ⟨b3, o3, d3, e3, hz⟩ := (HZ.out.fr hC).at (j := k) (by rw [List.length_map]; omega)
        injection e1 with e1 f1 f2
        injection e2 with e2 f3 f4
        injection e3 with e3 f5 f6
        subst e1 e2 e3
        clear f1 f2 f3 f4 f5 f6
        rw [List.getElem_map] at hx hy hz
        rw [List.getElem?_eq_getElem (by omega), List.getElem?_eq_getElem (l := ys) (by omega), List.getElem?_eq_getElem (l := zs) (by omega), Option.getD_some, Option.getD_some, Option.getD_some] at hnx
        generalize xs[k] = x at *
        generalize ys[k] = y at *
        generalize zs[k] = z at *
        have x1 : bits .xor .u8 (x.toNat : Int) (y.toNat : Int) = ((x ^^^ y).toNat : Int) := by rw [xor_u8 _ _ x.toNat_lt y.toNat_lt, UInt8.toNat_xor]
        have x2 : bits .xor .u8 ((x ^^^ y).toNat : Int) (z.toNat : Int) = ((x ^^^ y ^^^ z).toNat : Int) := by rw [xor_u8 _ _ (x ^^^ y).toNat_lt z.toNat_lt, ← UInt8.toNat_xor]
        generalize x ^^^ y ^^^ z = t at *
        generalize (x ^^^ y).toNat = xy at *
        have q1 : (k : Int) < (l1 : Int) := by omega
        have q2 : (k : Int) < (l2 : Int) := by omega
        have q3 : (k : Int) < (l3 : Int) := by omega
        have hlt' : (k : Int) < (l3 : Int) := by omega
        unfold B at hx hy hz
        have HNX := Lib.hid hnx
        have hsz := hC.size
        clear hnx HA HB HZ hC1
        go_wp2
        go_region_law (refine step_append_own rfl (.tmp 32) (.tmp 47) 22 rfl W.heap.size 5 i0 (.int .u8 0) 1 1 Try.underlying22 hi hz0 hz1 hz2 rfl (by decide) u9 _ _ (by simp [Act.eval]) (hown.alloc _) (some ⟨wr.heap.size, 0, none⟩) 1 1 [.int .u8 (t.toNat : Int)] (by simp [Act.eval]) rfl (fun j u hu => ⟨_, rfl, cell_one_new wr _ _ j u hu⟩) (by simp [Value.oneCell']) (by unfold maxLen; omega) (by omega) (by simp; omega) ?_; intro v2 w2 hown2 hg _ hO2; have hC2 := ((hC.alloc (.cells #[.int .u8 (t.toNat : Int)] 5)).drew).grown hg (fun j e => .inr (hown.lt j e).1))
        all_goals
          go_wp2
          go_roundw
          case rel => exact ⟨k + 1, by omega, by go_num, by rw [HNX.out, List.map_append]; exact hown2, hC2⟩
          case measure => first | (simp [intOf]; done) | (simp [intOf]; omega)
      · obtain rfl : l3 = k := by omega
        have hm := more_xor3 xs ys zs l3 hn1 hn2 hn3
        have hCd := (Chg.refl (fun _ => False) wr).drew
        obtain ⟨ao, L, c, rfl, hL⟩ := owns_name hown
        have hA0 := (Sl.of_owns hown).fr hCd
        obtain ⟨ao1, d1, hA1, _, _, _, hcut1⟩ := ((HA.out.fr hC).fr hCd).slice 22 5 Try.underlying22 sizeOf_u8 0 l3 (Nat.zero_le _) (by rw [List.length_map]; exact hn1)
        obtain ⟨ao2, d2, hA2, _, _, _, hcut2⟩ := ((HB.out.fr hC).fr hCd).slice 22 5 Try.underlying22 sizeOf_u8 0 l3 (Nat.zero_le _) (by rw [List.length_map]; exact hn2)
        obtain ⟨ao3, d3, hA3, _, _, _, hcut3⟩ := ((HZ.out.fr hC).fr hCd).slice 22 5 Try.underlying22 sizeOf_u8 0 l3 (Nat.zero_le _) (by rw [List.length_map]; exact hn3)
        replace hcut1 := hcut1 rfl
        replace hcut2 := hcut2 rfl
        replace hcut3 := hcut3 rfl
        rw [Nat.sub_zero] at hA1 hA2 hA3 hcut1 hcut2 hcut3
        rw [List.drop_zero, ← List.map_take] at hA1 hA2 hA3
        have o0 : ∀ w', Chg (fun _ => False) wr.drew w' → _ := fun w' h => of_any _ _ w' (hA0.fr h) (by rw [xor3_length]; omega)
        have o1 : ∀ w', Chg (fun _ => False) wr.drew w' → _ := fun w' h => of_any _ _ w' (hA1.fr h) (by rw [List.length_take]; omega)
        have o2 : ∀ w', Chg (fun _ => False) wr.drew w' → _ := fun w' h => of_any _ _ w' (hA2.fr h) (by rw [List.length_take]; omega)
        have o3 : ∀ w', Chg (fun _ => False) wr.drew w' → _ := fun w' h => of_any _ _ w' (hA3.fr h) (by rw [List.length_take]; omega)
        have b1 : moreN 0 (xs.take l3) < 4294967296 := moreN_lt _ (by decide)
        have b2 : moreN 0 (ys.take l3) < 4294967296 := moreN_lt _ (by decide)
        have b3 : moreN 0 (zs.take l3) < 4294967296 := moreN_lt _ (by decide)
        generalize moreN 0 (xor3 xs ys zs l3) = p0 at *
        generalize moreN 0 (xs.take l3) = p1 at *
        generalize moreN 0 (ys.take l3) = p2 at *
        generalize moreN 0 (zs.take l3) = p3 at *
        have y1 := xor_u32 p1 p2 b1 b2
        have y2 := xor_u32 (p1 ^^^ p2) p3 (xor_lt b1 b2) b3
        rw [← hm] at y2
        generalize p1 ^^^ p2 = r at *
        have r1 : ((l3 : Nat) : Int) ≤ (l1 : Int) := by omega
        have r2 : ((l3 : Nat) : Int) ≤ (l2 : Int) := by omega
        have r3 : ((l3 : Nat) : Int) ≤ (l3 : Int) := by omega
        clear hm hA0 hA1 hA2 hA3 hown HA HB HZ b1 b2 b3 hC1 hL
        go_wp2
        go_region_held3 (fun w' => Chg (fun _ => False) wr.drew w') (first | exact Chg.refl _ _ | exact hC2 | exact hC2.tr hC3 | exact (hC2.tr hC3).tr hC4 | exact ((hC2.tr hC3).tr hC4).tr hC5) (first
          | (go_at_call 9; (with_reducible refine (o0 _ (Chg.refl _ _)).mono ?_); rintro e w2 ⟨rfl, hC2⟩)
          | (go_at_call 9; (with_reducible refine (o1 _ hC2).mono ?_); rintro e w3 ⟨rfl, hC3⟩)
          | (go_at_call 9; (with_reducible refine (o2 _ (hC2.tr hC3)).mono ?_); rintro e w4 ⟨rfl, hC4⟩)
          | (go_at_call 9; (with_reducible refine (o3 _ ((hC2.tr hC3).tr hC4)).mono ?_); rintro e w5 ⟨rfl, hC5⟩))
        all_goals
          go_wp2
          go_ret
          exact ⟨by simp, hC.tr (hCd.tr (((hC2.tr hC3).tr hC4).tr hC5))⟩
set_option maxRecDepth 100000 in
set_option maxHeartbeats 1000000 in
theorem crcLinear_b (xs ys zs : List UInt8) (l1 l2 l3 : Nat) (m1 : xs.length = l1) (m2 : ys.length = l2) (m3 : zs.length = l3) (a1 a2 a3 : Option Addr) (c1 c2 c3 : Nat) (W : World) (hA : Sl W (.slice a1 l1 c1) (xs.map B)) (hB : Sl W (.slice a2 l2 c2) (ys.map B)) (hZ : Sl W (.slice a3 l3 c3) (zs.map B)) (h1 : l3 < l2) (h2 : ¬ l3 < l1) :
    Calls Try.prog 3 #[.slice a1 l1 c1, .slice a2 l2 c2, .slice a3 l3 c3] W (True_ W) := by
  obtain ⟨i0, hi, hz0, hz1, hz2⟩ := info_parts Try.info5
  have HA := Lib.hid hA
  have HB := Lib.hid hB
  have HZ := Lib.hid hZ
  clear hA hB hZ
  go_enter Try.func3, Try.ntmps3
  go_wp2_with fail
  refine (alive_any W).mono ?_
  rintro e w1 ⟨rfl, hC1⟩
  have hn1 : l1 ≤ xs.length := by omega
  have hn2 : l1 ≤ ys.length := by omega
  have hn3 : l1 ≤ zs.length := by omega
  by_cases hbig : (3000 : Int) < l1
  · go_wp2
    go_ret
    exact ⟨rfl, hC1⟩
  · go_wp2
    go_loopw [9, 10] (fun v i wr => ∃ k : Nat, k ≤ l1 ∧ i = .int .i64 k ∧ wr.ownsRow W.heap.size 5 1 v k ((xor3 xs ys zs k).map B) ∧ Chg (fun _ => False) W wr)
      (fun _ i _ => l1 - (intOf i).toNat)
    case atStart => exact ⟨0, Nat.zero_le _, rfl, World.ownsRow_nil _ _ _ _, hC1⟩
    case round =>
      obtain ⟨k, hk, rfl, hown, hC⟩ := hrel
      by_cases hlt : k < l1
      · have hnx := xor3_succ xs ys zs k
        obtain ⟨b1, o1, d1, e1, hx⟩ := (HA.out.fr hC).at (j := k) (by rw [List.length_map]; omega)
        obtain ⟨b2, o2, d2, e2, hy⟩ := (HB.out.fr hC).at (j := k) (by rw [List.length_map]; omega)
        obtain ⟨b3, o3, d3, e3, hz⟩ := (HZ.out.fr hC).at (j := k) (by rw [List.length_map]; omega)
        injection e1 with e1 f1 f2
        injection e2 with e2 f3 f4
        injection e3 with e3 f5 f6
        subst e1 e2 e3
        clear f1 f2 f3 f4 f5 f6
        rw [List.getElem_map] at hx hy hz
        rw [List.getElem?_eq_getElem (by omega), List.getElem?_eq_getElem (l := ys) (by omega), List.getElem?_eq_getElem (l := zs) (by omega), Option.getD_some, Option.getD_some, Option.getD_some] at hnx
        generalize xs[k] = x at *
        generalize ys[k] = y at *
        generalize zs[k] = z at *
        have x1 : bits .xor .u8 (x.toNat : Int) (y.toNat : Int) = ((x ^^^ y).toNat : Int) := by rw [xor_u8 _ _ x.toNat_lt y.toNat_lt, UInt8.toNat_xor]
        have x2 : bits .xor .u8 ((x ^^^ y).toNat : Int) (z.toNat : Int) = ((x ^^^ y ^^^ z).toNat : Int) := by rw [xor_u8 _ _ (x ^^^ y).toNat_lt z.toNat_lt, ← UInt8.toNat_xor]
        generalize x ^^^ y ^^^ z = t at *
        generalize (x ^^^ y).toNat = xy at *
        have q1 : (k : Int) < (l1 : Int) := by omega
        have q2 : (k : Int) < (l2 : Int) := by omega
        have q3 : (k : Int) < (l3 : Int) := by omega
        have hlt' : (k : Int) < (l1 : Int) := by omega
        unfold B at hx hy hz
        have HNX := Lib.hid hnx
        have hsz := hC.size
        clear hnx HA HB HZ hC1
        go_wp2
        go_region_law (refine step_append_own rfl (.tmp 32) (.tmp 47) 22 rfl W.heap.size 5 i0 (.int .u8 0) 1 1 Try.underlying22 hi hz0 hz1 hz2 rfl (by decide) u9 _ _ (by simp [Act.eval]) (hown.alloc _) (some ⟨wr.heap.size, 0, none⟩) 1 1 [.int .u8 (t.toNat : Int)] (by simp [Act.eval]) rfl (fun j u hu => ⟨_, rfl, cell_one_new wr _ _ j u hu⟩) (by simp [Value.oneCell']) (by unfold maxLen; omega) (by omega) (by simp; omega) ?_; intro v2 w2 hown2 hg _ hO2; have hC2 := ((hC.alloc (.cells #[.int .u8 (t.toNat : Int)] 5)).drew).grown hg (fun j e => .inr (hown.lt j e).1))
        all_goals
          go_wp2
          go_roundw
          case rel => exact ⟨k + 1, by omega, by go_num, by rw [HNX.out, List.map_append]; exact hown2, hC2⟩
          case measure => first | (simp [intOf]; done) | (simp [intOf]; omega)
      · obtain rfl : l1 = k := by omega
        have hm := more_xor3 xs ys zs l1 hn1 hn2 hn3
        have hCd := (Chg.refl (fun _ => False) wr).drew
        obtain ⟨ao, L, c, rfl, hL⟩ := owns_name hown
        have hA0 := (Sl.of_owns hown).fr hCd
        obtain ⟨ao1, d1, hA1, _, _, _, hcut1⟩ := ((HA.out.fr hC).fr hCd).slice 22 5 Try.underlying22 sizeOf_u8 0 l1 (Nat.zero_le _) (by rw [List.length_map]; exact hn1)
        obtain ⟨ao2, d2, hA2, _, _, _, hcut2⟩ := ((HB.out.fr hC).fr hCd).slice 22 5 Try.underlying22 sizeOf_u8 0 l1 (Nat.zero_le _) (by rw [List.length_map]; exact hn2)
        obtain ⟨ao3, d3, hA3, _, _, _, hcut3⟩ := ((HZ.out.fr hC).fr hCd).slice 22 5 Try.underlying22 sizeOf_u8 0 l1 (Nat.zero_le _) (by rw [List.length_map]; exact hn3)
        replace hcut1 := hcut1 rfl
        replace hcut2 := hcut2 rfl
        replace hcut3 := hcut3 rfl
        rw [Nat.sub_zero] at hA1 hA2 hA3 hcut1 hcut2 hcut3
        rw [List.drop_zero, ← List.map_take] at hA1 hA2 hA3
        have o0 : ∀ w', Chg (fun _ => False) wr.drew w' → _ := fun w' h => of_any _ _ w' (hA0.fr h) (by rw [xor3_length]; omega)
        have o1 : ∀ w', Chg (fun _ => False) wr.drew w' → _ := fun w' h => of_any _ _ w' (hA1.fr h) (by rw [List.length_take]; omega)
        have o2 : ∀ w', Chg (fun _ => False) wr.drew w' → _ := fun w' h => of_any _ _ w' (hA2.fr h) (by rw [List.length_take]; omega)
        have o3 : ∀ w', Chg (fun _ => False) wr.drew w' → _ := fun w' h => of_any _ _ w' (hA3.fr h) (by rw [List.length_take]; omega)
        have b1 : moreN 0 (xs.take l1) < 4294967296 := moreN_lt _ (by decide)
        have b2 : moreN 0 (ys.take l1) < 4294967296 := moreN_lt _ (by decide)
        have b3 : moreN 0 (zs.take l1) < 4294967296 := moreN_lt _ (by decide)
        generalize moreN 0 (xor3 xs ys zs l1) = p0 at *
        generalize moreN 0 (xs.take l1) = p1 at *
        generalize moreN 0 (ys.take l1) = p2 at *
        generalize moreN 0 (zs.take l1) = p3 at *
        have y1 := xor_u32 p1 p2 b1 b2
        have y2 := xor_u32 (p1 ^^^ p2) p3 (xor_lt b1 b2) b3
        rw [← hm] at y2
        generalize p1 ^^^ p2 = r at *
        have r1 : ((l1 : Nat) : Int) ≤ (l1 : Int) := by omega
        have r2 : ((l1 : Nat) : Int) ≤ (l2 : Int) := by omega
        have r3 : ((l1 : Nat) : Int) ≤ (l3 : Int) := by omega
        clear hm hA0 hA1 hA2 hA3 hown HA HB HZ b1 b2 b3 hC1 hL
        go_wp2
        go_region_held3 (fun w' => Chg (fun _ => False) wr.drew w') (first | exact Chg.refl _ _ | exact hC2 | exact hC2.tr hC3 | exact (hC2.tr hC3).tr hC4 | exact ((hC2.tr hC3).tr hC4).tr hC5) (first
          | (go_at_call 9; (with_reducible refine (o0 _ (Chg.refl _ _)).mono ?_); rintro e w2 ⟨rfl, hC2⟩)
          | (go_at_call 9; (with_reducible refine (o1 _ hC2).mono ?_); rintro e w3 ⟨rfl, hC3⟩)
          | (go_at_call 9; (with_reducible refine (o2 _ (hC2.tr hC3)).mono ?_); rintro e w4 ⟨rfl, hC4⟩)
          | (go_at_call 9; (with_reducible refine (o3 _ ((hC2.tr hC3).tr hC4)).mono ?_); rintro e w5 ⟨rfl, hC5⟩))
        all_goals
          go_wp2
          go_ret
          exact ⟨by simp, hC.tr (hCd.tr (((hC2.tr hC3).tr hC4).tr hC5))⟩
set_option maxRecDepth 100000 in
set_option maxHeartbeats 1000000 in
theorem crcLinear_c (xs ys zs : List UInt8) (l1 l2 l3 : Nat) (m1 : xs.length = l1) (m2 : ys.length = l2) (m3 : zs.length = l3) (a1 a2 a3 : Option Addr) (c1 c2 c3 : Nat) (W : World) (hA : Sl W (.slice a1 l1 c1) (xs.map B)) (hB : Sl W (.slice a2 l2 c2) (ys.map B)) (hZ : Sl W (.slice a3 l3 c3) (zs.map B)) (h1 : ¬ l3 < l2) (h2 : l2 < l1) :
    Calls Try.prog 3 #[.slice a1 l1 c1, .slice a2 l2 c2, .slice a3 l3 c3] W (True_ W) := by
  obtain ⟨i0, hi, hz0, hz1, hz2⟩ := info_parts Try.info5
  have HA := Lib.hid hA
  have HB := Lib.hid hB
  have HZ := Lib.hid hZ
  clear hA hB hZ
  go_enter Try.func3, Try.ntmps3
  go_wp2_with fail
  refine (alive_any W).mono ?_
  rintro e w1 ⟨rfl, hC1⟩
  have hn1 : l2 ≤ xs.length := by omega
  have hn2 : l2 ≤ ys.length := by omega
  have hn3 : l2 ≤ zs.length := by omega
  by_cases hbig : (3000 : Int) < l2
  · go_wp2
    go_ret
    exact ⟨rfl, hC1⟩
  · go_wp2
    go_loopw [9, 10] (fun v i wr => ∃ k : Nat, k ≤ l2 ∧ i = .int .i64 k ∧ wr.ownsRow W.heap.size 5 1 v k ((xor3 xs ys zs k).map B) ∧ Chg (fun _ => False) W wr)
      (fun _ i _ => l2 - (intOf i).toNat)
    case atStart => exact ⟨0, Nat.zero_le _, rfl, World.ownsRow_nil _ _ _ _, hC1⟩
    case round =>
      obtain ⟨k, hk, rfl, hown, hC⟩ := hrel
      by_cases hlt : k < l2
      · have hnx := xor3_succ xs ys zs k
        obtain ⟨b1, o1, d1, e1, hx⟩ := (HA.out.fr hC).at (j := k) (by rw [List.length_map]; omega)
        obtain ⟨b2, o2, d2, e2, hy⟩ := (HB.out.fr hC).at (j := k) (by rw [List.length_map]; omega)
        obtain ⟨b3, o3, d3, e3, hz⟩ := (HZ.out.fr hC).at (j := k) (by rw [List.length_map]; omega)
        injection e1 with e1 f1 f2
        injection e2 with e2 f3 f4
        injection e3 with e3 f5 f6
        subst e1 e2 e3
        clear f1 f2 f3 f4 f5 f6
        rw [List.getElem_map] at hx hy hz
        rw [List.getElem?_eq_getElem (by omega), List.getElem?_eq_getElem (l := ys) (by omega), List.getElem?_eq_getElem (l := zs) (by omega), Option.getD_some, Option.getD_some, Option.getD_some] at hnx
        generalize xs[k] = x at *
        generalize ys[k] = y at *
        generalize zs[k] = z at *
        have x1 : bits .xor .u8 (x.toNat : Int) (y.toNat : Int) = ((x ^^^ y).toNat : Int) := by rw [xor_u8 _ _ x.toNat_lt y.toNat_lt, UInt8.toNat_xor]
        have x2 : bits .xor .u8 ((x ^^^ y).toNat : Int) (z.toNat : Int) = ((x ^^^ y ^^^ z).toNat : Int) := by rw [xor_u8 _ _ (x ^^^ y).toNat_lt z.toNat_lt, ← UInt8.toNat_xor]
        generalize x ^^^ y ^^^ z = t at *
        generalize (x ^^^ y).toNat = xy at *
        have q1 : (k : Int) < (l1 : Int) := by omega
        have q2 : (k : Int) < (l2 : Int) := by omega
        have q3 : (k : Int) < (l3 : Int) := by omega
        have hlt' : (k : Int) < (l2 : Int) := by omega
        unfold B at hx hy hz
        have HNX := Lib.hid hnx
        have hsz := hC.size
        clear hnx HA HB HZ hC1
        go_wp2
        go_region_law (refine step_append_own rfl (.tmp 32) (.tmp 47) 22 rfl W.heap.size 5 i0 (.int .u8 0) 1 1 Try.underlying22 hi hz0 hz1 hz2 rfl (by decide) u9 _ _ (by simp [Act.eval]) (hown.alloc _) (some ⟨wr.heap.size, 0, none⟩) 1 1 [.int .u8 (t.toNat : Int)] (by simp [Act.eval]) rfl (fun j u hu => ⟨_, rfl, cell_one_new wr _ _ j u hu⟩) (by simp [Value.oneCell']) (by unfold maxLen; omega) (by omega) (by simp; omega) ?_; intro v2 w2 hown2 hg _ hO2; have hC2 := ((hC.alloc (.cells #[.int .u8 (t.toNat : Int)] 5)).drew).grown hg (fun j e => .inr (hown.lt j e).1))
        all_goals
          go_wp2
          go_roundw
          case rel => exact ⟨k + 1, by omega, by go_num, by rw [HNX.out, List.map_append]; exact hown2, hC2⟩
          case measure => first | (simp [intOf]; done) | (simp [intOf]; omega)
      · obtain rfl : l2 = k := by omega
        have hm := more_xor3 xs ys zs l2 hn1 hn2 hn3
        have hCd := (Chg.refl (fun _ => False) wr).drew
        obtain ⟨ao, L, c, rfl, hL⟩ := owns_name hown
        have hA0 := (Sl.of_owns hown).fr hCd
        obtain ⟨ao1, d1, hA1, _, _, _, hcut1⟩ := ((HA.out.fr hC).fr hCd).slice 22 5 Try.underlying22 sizeOf_u8 0 l2 (Nat.zero_le _) (by rw [List.length_map]; exact hn1)
        obtain ⟨ao2, d2, hA2, _, _, _, hcut2⟩ := ((HB.out.fr hC).fr hCd).slice 22 5 Try.underlying22 sizeOf_u8 0 l2 (Nat.zero_le _) (by rw [List.length_map]; exact hn2)
        obtain ⟨ao3, d3, hA3, _, _, _, hcut3⟩ := ((HZ.out.fr hC).fr hCd).slice 22 5 Try.underlying22 sizeOf_u8 0 l2 (Nat.zero_le _) (by rw [List.length_map]; exact hn3)
        replace hcut1 := hcut1 rfl
        replace hcut2 := hcut2 rfl
        replace hcut3 := hcut3 rfl
        rw [Nat.sub_zero] at hA1 hA2 hA3 hcut1 hcut2 hcut3
        rw [List.drop_zero, ← List.map_take] at hA1 hA2 hA3
        have o0 : ∀ w', Chg (fun _ => False) wr.drew w' → _ := fun w' h => of_any _ _ w' (hA0.fr h) (by rw [xor3_length]; omega)
        have o1 : ∀ w', Chg (fun _ => False) wr.drew w' → _ := fun w' h => of_any _ _ w' (hA1.fr h) (by rw [List.length_take]; omega)
        have o2 : ∀ w', Chg (fun _ => False) wr.drew w' → _ := fun w' h => of_any _ _ w' (hA2.fr h) (by rw [List.length_take]; omega)
        have o3 : ∀ w', Chg (fun _ => False) wr.drew w' → _ := fun w' h => of_any _ _ w' (hA3.fr h) (by rw [List.length_take]; omega)
        have b1 : moreN 0 (xs.take l2) < 4294967296 := moreN_lt _ (by decide)
        have b2 : moreN 0 (ys.take l2) < 4294967296 := moreN_lt _ (by decide)
        have b3 : moreN 0 (zs.take l2) < 4294967296 := moreN_lt _ (by decide)
        generalize moreN 0 (xor3 xs ys zs l2) = p0 at *
        generalize moreN 0 (xs.take l2) = p1 at *
        generalize moreN 0 (ys.take l2) = p2 at *
        generalize moreN 0 (zs.take l2) = p3 at *
        have y1 := xor_u32 p1 p2 b1 b2
        have y2 := xor_u32 (p1 ^^^ p2) p3 (xor_lt b1 b2) b3
        rw [← hm] at y2
        generalize p1 ^^^ p2 = r at *
        have r1 : ((l2 : Nat) : Int) ≤ (l1 : Int) := by omega
        have r2 : ((l2 : Nat) : Int) ≤ (l2 : Int) := by omega
        have r3 : ((l2 : Nat) : Int) ≤ (l3 : Int) := by omega
        clear hm hA0 hA1 hA2 hA3 hown HA HB HZ b1 b2 b3 hC1 hL
        go_wp2
        go_region_held3 (fun w' => Chg (fun _ => False) wr.drew w') (first | exact Chg.refl _ _ | exact hC2 | exact hC2.tr hC3 | exact (hC2.tr hC3).tr hC4 | exact ((hC2.tr hC3).tr hC4).tr hC5) (first
          | (go_at_call 9; (with_reducible refine (o0 _ (Chg.refl _ _)).mono ?_); rintro e w2 ⟨rfl, hC2⟩)
          | (go_at_call 9; (with_reducible refine (o1 _ hC2).mono ?_); rintro e w3 ⟨rfl, hC3⟩)
          | (go_at_call 9; (with_reducible refine (o2 _ (hC2.tr hC3)).mono ?_); rintro e w4 ⟨rfl, hC4⟩)
          | (go_at_call 9; (with_reducible refine (o3 _ ((hC2.tr hC3).tr hC4)).mono ?_); rintro e w5 ⟨rfl, hC5⟩))
        all_goals
          go_wp2
          go_ret
          exact ⟨by simp, hC.tr (hCd.tr (((hC2.tr hC3).tr hC4).tr hC5))⟩
set_option maxRecDepth 100000 in
set_option maxHeartbeats 1000000 in
theorem crcLinear_d (xs ys zs : List UInt8) (l1 l2 l3 : Nat) (m1 : xs.length = l1) (m2 : ys.length = l2) (m3 : zs.length = l3) (a1 a2 a3 : Option Addr) (c1 c2 c3 : Nat) (W : World) (hA : Sl W (.slice a1 l1 c1) (xs.map B)) (hB : Sl W (.slice a2 l2 c2) (ys.map B)) (hZ : Sl W (.slice a3 l3 c3) (zs.map B)) (h1 : ¬ l3 < l2) (h2 : ¬ l2 < l1) :
    Calls Try.prog 3 #[.slice a1 l1 c1, .slice a2 l2 c2, .slice a3 l3 c3] W (True_ W) := by
  obtain ⟨i0, hi, hz0, hz1, hz2⟩ := info_parts Try.info5
  have HA := Lib.hid hA
  have HB := Lib.hid hB
  have HZ := Lib.hid hZ
  clear hA hB hZ
  go_enter Try.func3, Try.ntmps3
  go_wp2_with fail
  refine (alive_any W).mono ?_
  rintro e w1 ⟨rfl, hC1⟩
  have hn1 : l1 ≤ xs.length := by omega
  have hn2 : l1 ≤ ys.length := by omega
  have hn3 : l1 ≤ zs.length := by omega
  by_cases hbig : (3000 : Int) < l1
  · go_wp2
    go_ret
    exact ⟨rfl, hC1⟩
  · go_wp2
    go_loopw [9, 10] (fun v i wr => ∃ k : Nat, k ≤ l1 ∧ i = .int .i64 k ∧ wr.ownsRow W.heap.size 5 1 v k ((xor3 xs ys zs k).map B) ∧ Chg (fun _ => False) W wr)
      (fun _ i _ => l1 - (intOf i).toNat)
    case atStart => exact ⟨0, Nat.zero_le _, rfl, World.ownsRow_nil _ _ _ _, hC1⟩
    case round =>
      obtain ⟨k, hk, rfl, hown, hC⟩ := hrel
      by_cases hlt : k < l1
      · have hnx := xor3_succ xs ys zs k
        obtain ⟨b1, o1, d1, e1, hx⟩ := (HA.out.fr hC).at (j := k) (by rw [List.length_map]; omega)
        obtain ⟨b2, o2, d2, e2, hy⟩ := (HB.out.fr hC).at (j := k) (by rw [List.length_map]; omega)
        obtain ⟨b3, o3, d3, e3, hz⟩ := (HZ.out.fr hC).at (j := k) (by rw [List.length_map]; omega)
        injection e1 with e1 f1 f2
        injection e2 with e2 f3 f4
        injection e3 with e3 f5 f6
        subst e1 e2 e3
        clear f1 f2 f3 f4 f5 f6
        rw [List.getElem_map] at hx hy hz
        rw [List.getElem?_eq_getElem (by omega), List.getElem?_eq_getElem (l := ys) (by omega), List.getElem?_eq_getElem (l := zs) (by omega), Option.getD_some, Option.getD_some, Option.getD_some] at hnx
        generalize xs[k] = x at *
        generalize ys[k] = y at *
        generalize zs[k] = z at *
        have x1 : bits .xor .u8 (x.toNat : Int) (y.toNat : Int) = ((x ^^^ y).toNat : Int) := by rw [xor_u8 _ _ x.toNat_lt y.toNat_lt, UInt8.toNat_xor]
        have x2 : bits .xor .u8 ((x ^^^ y).toNat : Int) (z.toNat : Int) = ((x ^^^ y ^^^ z).toNat : Int) := by rw [xor_u8 _ _ (x ^^^ y).toNat_lt z.toNat_lt, ← UInt8.toNat_xor]
        generalize x ^^^ y ^^^ z = t at *
        generalize (x ^^^ y).toNat = xy at *
        have q1 : (k : Int) < (l1 : Int) := by omega
        have q2 : (k : Int) < (l2 : Int) := by omega
        have q3 : (k : Int) < (l3 : Int) := by omega
        have hlt' : (k : Int) < (l1 : Int) := by omega
        unfold B at hx hy hz
        have HNX := Lib.hid hnx
        have hsz := hC.size
        clear hnx HA HB HZ hC1
        go_wp2
        go_region_law (refine step_append_own rfl (.tmp 32) (.tmp 47) 22 rfl W.heap.size 5 i0 (.int .u8 0) 1 1 Try.underlying22 hi hz0 hz1 hz2 rfl (by decide) u9 _ _ (by simp [Act.eval]) (hown.alloc _) (some ⟨wr.heap.size, 0, none⟩) 1 1 [.int .u8 (t.toNat : Int)] (by simp [Act.eval]) rfl (fun j u hu => ⟨_, rfl, cell_one_new wr _ _ j u hu⟩) (by simp [Value.oneCell']) (by unfold maxLen; omega) (by omega) (by simp; omega) ?_; intro v2 w2 hown2 hg _ hO2; have hC2 := ((hC.alloc (.cells #[.int .u8 (t.toNat : Int)] 5)).drew).grown hg (fun j e => .inr (hown.lt j e).1))
        all_goals
          go_wp2
          go_roundw
          case rel => exact ⟨k + 1, by omega, by go_num, by rw [HNX.out, List.map_append]; exact hown2, hC2⟩
          case measure => first | (simp [intOf]; done) | (simp [intOf]; omega)
      · obtain rfl : l1 = k := by omega
        have hm := more_xor3 xs ys zs l1 hn1 hn2 hn3
        have hCd := (Chg.refl (fun _ => False) wr).drew
        obtain ⟨ao, L, c, rfl, hL⟩ := owns_name hown
        have hA0 := (Sl.of_owns hown).fr hCd
        obtain ⟨ao1, d1, hA1, _, _, _, hcut1⟩ := ((HA.out.fr hC).fr hCd).slice 22 5 Try.underlying22 sizeOf_u8 0 l1 (Nat.zero_le _) (by rw [List.length_map]; exact hn1)
        obtain ⟨ao2, d2, hA2, _, _, _, hcut2⟩ := ((HB.out.fr hC).fr hCd).slice 22 5 Try.underlying22 sizeOf_u8 0 l1 (Nat.zero_le _) (by rw [List.length_map]; exact hn2)
        obtain ⟨ao3, d3, hA3, _, _, _, hcut3⟩ := ((HZ.out.fr hC).fr hCd).slice 22 5 Try.underlying22 sizeOf_u8 0 l1 (Nat.zero_le _) (by rw [List.length_map]; exact hn3)
        replace hcut1 := hcut1 rfl
        replace hcut2 := hcut2 rfl
        replace hcut3 := hcut3 rfl
        rw [Nat.sub_zero] at hA1 hA2 hA3 hcut1 hcut2 hcut3
        rw [List.drop_zero, ← List.map_take] at hA1 hA2 hA3
        have o0 : ∀ w', Chg (fun _ => False) wr.drew w' → _ := fun w' h => of_any _ _ w' (hA0.fr h) (by rw [xor3_length]; omega)
        have o1 : ∀ w', Chg (fun _ => False) wr.drew w' → _ := fun w' h => of_any _ _ w' (hA1.fr h) (by rw [List.length_take]; omega)
        have o2 : ∀ w', Chg (fun _ => False) wr.drew w' → _ := fun w' h => of_any _ _ w' (hA2.fr h) (by rw [List.length_take]; omega)
        have o3 : ∀ w', Chg (fun _ => False) wr.drew w' → _ := fun w' h => of_any _ _ w' (hA3.fr h) (by rw [List.length_take]; omega)
        have b1 : moreN 0 (xs.take l1) < 4294967296 := moreN_lt _ (by decide)
        have b2 : moreN 0 (ys.take l1) < 4294967296 := moreN_lt _ (by decide)
        have b3 : moreN 0 (zs.take l1) < 4294967296 := moreN_lt _ (by decide)
        generalize moreN 0 (xor3 xs ys zs l1) = p0 at *
        generalize moreN 0 (xs.take l1) = p1 at *
        generalize moreN 0 (ys.take l1) = p2 at *
        generalize moreN 0 (zs.take l1) = p3 at *
        have y1 := xor_u32 p1 p2 b1 b2
        have y2 := xor_u32 (p1 ^^^ p2) p3 (xor_lt b1 b2) b3
        rw [← hm] at y2
        generalize p1 ^^^ p2 = r at *
        have r1 : ((l1 : Nat) : Int) ≤ (l1 : Int) := by omega
        have r2 : ((l1 : Nat) : Int) ≤ (l2 : Int) := by omega
        have r3 : ((l1 : Nat) : Int) ≤ (l3 : Int) := by omega
        clear hm hA0 hA1 hA2 hA3 hown HA HB HZ b1 b2 b3 hC1 hL
        go_wp2
        go_region_held3 (fun w' => Chg (fun _ => False) wr.drew w') (first | exact Chg.refl _ _ | exact hC2 | exact hC2.tr hC3 | exact (hC2.tr hC3).tr hC4 | exact ((hC2.tr hC3).tr hC4).tr hC5) (first
          | (go_at_call 9; (with_reducible refine (o0 _ (Chg.refl _ _)).mono ?_); rintro e w2 ⟨rfl, hC2⟩)
          | (go_at_call 9; (with_reducible refine (o1 _ hC2).mono ?_); rintro e w3 ⟨rfl, hC3⟩)
          | (go_at_call 9; (with_reducible refine (o2 _ (hC2.tr hC3)).mono ?_); rintro e w4 ⟨rfl, hC4⟩)
          | (go_at_call 9; (with_reducible refine (o3 _ ((hC2.tr hC3).tr hC4)).mono ?_); rintro e w5 ⟨rfl, hC5⟩))
        all_goals
          go_wp2
          go_ret
          exact ⟨by simp, hC.tr (hCd.tr (((hC2.tr hC3).tr hC4).tr hC5))⟩

theorem crcLinear_walk (va : Value) (xs : List UInt8) (vb : Value) (ys : List UInt8) (vc : Value) (zs : List UInt8) (W : World) (hA : Sl W va (xs.map B)) (hB : Sl W vb (ys.map B)) (hZ : Sl W vc (zs.map B)) :
    Calls Try.prog 3 #[va, vb, vc] W (True_ W) := by
  obtain ⟨a1, c1, rfl, _⟩ := hA.form
  obtain ⟨a2, c2, rfl, _⟩ := hB.form
  obtain ⟨a3, c3, rfl, _⟩ := hZ.form
  rw [List.length_map] at hA hB hZ
  rw [List.length_map, List.length_map, List.length_map]
  by_cases h1 : zs.length < ys.length
  · by_cases h2 : zs.length < xs.length
    · exact crcLinear_a xs ys zs _ _ _ rfl rfl rfl a1 a2 a3 c1 c2 c3 W hA hB hZ h1 h2
    · exact crcLinear_b xs ys zs _ _ _ rfl rfl rfl a1 a2 a3 c1 c2 c3 W hA hB hZ h1 h2
  · by_cases h2 : ys.length < xs.length
    · exact crcLinear_c xs ys zs _ _ _ rfl rfl rfl a1 a2 a3 c1 c2 c3 W hA hB hZ h1 h2
    · exact crcLinear_d xs ys zs _ _ _ rfl rfl rfl a1 a2 a3 c1 c2 c3 W hA hB hZ h1 h2
end Go.Proofs.Ytkckniipingkiaa
