/- TileReads' walk. -/
import Derived.Test.YtccpmbonipfmpaaTlY
import Derived.Test.YtccpmbonipfmpaaTlK
import Derived.StillTailTactics
namespace Go.Proofs.Ytccpmbonipfmpaa
open Go.RowKit

/-- Numbers that stand in a block from its beginning on, and may be written. -/
def RowI (w : World) (g : Nat) (l : List Int) : Prop := ∀ j y, l[j]? = some y → w.cell? ⟨g, j, none⟩ = some (I y) ∧ w.frozen? ⟨g, j, none⟩ = false
theorem RowI.fr {w w' : World} {g : Nat} {l : List Int} {S : Nat → Prop} (h : RowI w g l) (hC : Chg S w w') (hS : ¬ S g) : RowI w' g l := fun j y hj => ⟨hC.cell (h j y hj).1 hS, hC.frozen (h j y hj).1 (h j y hj).2 hS⟩
theorem RowI.set {w : World} {g j : Nat} {l : List Int} (h : RowI w g l) (hj : j < l.length) (y : Int) : RowI (w.setCell ⟨g, j, none⟩ (I y)) g (l.set j y) := fun i z hi => by
  by_cases e : i = j
  · subst e
    rw [List.getElem?_set_self hj] at hi
    cases hi
    have hc := h i _ (List.getElem?_eq_getElem hj)
    exact ⟨World.cell?_setCell_same' _ _ _ (by rw [hc.1]; rfl), by rw [World.frozen?_setCell]; exact hc.2⟩
  · rw [List.getElem?_set_ne (fun e' => e e'.symm)] at hi
    have hc := h i _ hi
    exact ⟨by rw [World.cell?_setCell_other _ _ _ _ (by first | (simp; done) | (simp; omega))]; exact hc.1, by rw [World.frozen?_setCell]; exact hc.2⟩
theorem rowI_of {w : World} {base : Nat} {v : Value} {l : List Int} (h : w.ownsRow base 2 1 v l.length (l.map I)) :
    ∃ ao c, v = .slice ao l.length c ∧ (∀ b, v.ownBlock = some b → base ≤ b) ∧ (0 < l.length → ∃ g, ao = some ⟨g, 0, none⟩ ∧ RowI w g l) := by
  rcases h.2 with ⟨hv, h0⟩ | ⟨g, cap, cur, hv, hb, hg, _, _, _, _⟩
  · exact ⟨none, 0, by rw [hv, h0], fun b e => (h.lt b e).1, fun hp => by omega⟩
  · subst hv
    refine ⟨_, cap, rfl, fun b e => (h.lt b e).1, fun _ => ⟨g, rfl, fun j y hj => ?_⟩⟩
    have hx : (l.map I)[j]? = some (I y) := by rw [List.getElem?_map, hj]; rfl
    have hc := h.cells (g := g) rfl j _ hx
    rw [Addr.add_lit, Nat.zero_add] at hc
    exact ⟨hc, by unfold World.frozen?; rw [hg]; simp⟩
theorem reads_big (n c : Nat) (ao : Option Addr) (W : World) (h1 : (9000 : Int) < n) : Calls Try.prog 5 #[.slice ao n c] W (True_ W) := by
  go_enter Try.func5, Try.ntmps5
  go_wp2
  go_ret
  exact ⟨rfl, Chg.refl _ W⟩
set_option maxRecDepth 100000 in
set_option maxHeartbeats 3000000 in
theorem reads_main (ao : Option Addr) (c n : Nat) (xs : List UInt8) (W : World) (m1 : xs.length = n) (hS : Sl W (.slice ao n c) (xs.map B)) (h1 : ¬ (9000 : Int) < n) (f no k E : Int) (l : List Int) (b : Bool) (m : Nat) (hm : l.length = m) (hml : m ≤ 100000)
    (q1 : ∀ w' v, Sl w' v (xs.map B) → Calls Try.prog 16 #[v] w' (GaveT w' f no k l E)) (q2 : ∀ w' v, Sl w' v (xs.map B) → Calls Try.prog 17 #[v] w' (GaveT w' f no k l E)) (q3 : ∀ w' u v, Sl w' u (l.map I) → Sl w' v (l.map I) → Calls Try.prog 14 #[.agg #[.int .i64 f, .int .i64 no, .int .i64 k, u], .agg #[.int .i64 f, .int .i64 no, .int .i64 k, v]] w' (GaveBo w' true))
    (q4 : ∀ w' v, Sl w' v (xs.map B) → Calls Try.prog 18 #[v] w' (GaveBo w' b)) (q5 : ∀ w' v, Sl w' v (xs.map B) → Calls Try.prog 19 #[v] w' (GaveBo w' b)) : Calls Try.prog 5 #[.slice ao n c] W (True_ W) := by
  obtain ⟨i0, hi, hz0, hz1, hz2⟩ := info_parts Try.info5
  have HS := Lib.hid hS
  have HM := Lib.hid m1
  clear hS m1
  have hown0 := World.ownsRow_lit (base := W.heap.size) (size := 1) (e := 5) W #[] 0 (by simp) (Nat.zero_le _) rfl
  go_enter Try.func5, Try.ntmps5
  go_wp2_with (first
    | (refine wpList_append_own_any rfl (.tmp 12) (.tmp 13) 25 rfl W.heap.size 5 i0 (.int .u8 0) 1 1 Try.underlying25 hi hz0 hz1 hz2 rfl (by decide) (.slice (some ⟨W.heap.size, 0, none⟩) 0 0) 0 [] rfl hown0 ao n c (xs.map B) rfl (by rw [List.length_map, HM.out]; omega) (HS.out.fr ((Chg.refl _ W).alloc _)).src (by simp [B, Value.oneCell']) (by unfold maxLen; omega) (by omega) (by simp) ?_; intro v2 w2 hown2 hg2 _ hO2; have hC2 : Chg (fun _ => False) W w2 := ((Chg.refl _ _).alloc (.cells #[] 5)).grown hg2 (fun k e => .inr (by simp [Value.ownBlock] at e; omega)); have hs2 : W.heap.size ≤ w2.heap.size := hC2.size)
    | (refine wpList_append_own_any rfl (.tmp 14) (.tmp 15) 25 rfl W.heap.size 5 i0 (.int .u8 0) 1 1 Try.underlying25 hi hz0 hz1 hz2 rfl (by decide) v2 _ _ rfl (hown2.alloc _) (some ⟨w2.heap.size, 0, none⟩) 1 1 [.int .u8 7] rfl rfl (fun j u hu => ⟨_, rfl, cell_one_new w2 _ _ j u hu⟩) (by simp [Value.oneCell']) (by unfold maxLen; omega) (by omega) (by simp; omega) ?_; intro v3 w3 hown3 hg3 _ hO3; have hC3 := (hC2.alloc (.cells #[.int .u8 7] 5)).grown hg3 (fun k e => .inr (by have := (hown2.lt k e).1; omega))
       have eAll : ([] ++ xs.map B ++ [Value.int .u8 7]) = (xs ++ [7]).map B := by simp [B]
       rw [eAll] at hown3
       obtain ⟨ao3, L3, c3, rfl, hL3⟩ := owns_name hown3
       have hL : L3 = n + 1 := by rw [hL3.out]; omega
       have HL := Lib.hid hL
       clear hL
       have hOwn := Sl.of_owns hown3
       have hlen1 : (xs ++ [7]).length = n + 1 := by rw [List.length_append, HM.out]; rfl
       obtain ⟨a1, d1, hS1, _, _, _, hcut⟩ := hOwn.slice 25 5 Try.underlying25 sizeOf_u8 0 n (Nat.zero_le _) (by rw [List.length_map, hlen1]; omega)
       replace hcut := hcut rfl
       rw [Nat.sub_zero] at hS1 hcut
       rw [List.drop_zero, ← List.map_take, List.take_append_of_le_length (by rw [HM.out]; omega), List.take_of_length_le (by rw [HM.out]; omega)] at hS1
       have hq : (n : Int) ≤ (L3 : Int) := by have := HL.out; omega))
  have HO := Lib.hid hOwn
  have HS1 := Lib.hid hS1
  have hW3 : Chg (fun _ => False) W w3 := hC3
  have hob : ∀ q, (Value.slice ao3 L3 c3).ownBlock = some q → q < w3.heap.size := fun q e => (hown3.lt q e).2
  clear hOwn hlen1 eAll hown2 hown3 hg2 hg3 hO2 hO3 hC2 hC3 hL3 hown0 hs2
  refine (q1 _ _ HS1.out).mono ?_
  clear q1 hS1
  rintro e w4 ⟨v4, rfl, ho4, hC4⟩
  have hl4 := Sl.of_owns ho4
  obtain ⟨ao4, c4, hv4, hb4, hr4⟩ := rowI_of ho4
  rw [hm] at hv4 hr4
  subst hv4
  have hC4' := hC4.alloc (.cells #[.int .i64 f, .int .i64 no, .int .i64 k, .slice ao4 m c4] 24)
  have hlt4 := fun q e => (ho4.lt q e).2
  have x0 : (w4.alloc (.cells #[.int .i64 f, .int .i64 no, .int .i64 k, .slice ao4 m c4] 24)).cell? ⟨w4.heap.size, 0, none⟩ = some (.int .i64 f) := new_cell w4 _ _ rfl
  have x1 : (w4.alloc (.cells #[.int .i64 f, .int .i64 no, .int .i64 k, .slice ao4 m c4] 24)).cell? ⟨w4.heap.size, 1, none⟩ = some (.int .i64 no) := new_cell w4 _ _ rfl
  have x2 : (w4.alloc (.cells #[.int .i64 f, .int .i64 no, .int .i64 k, .slice ao4 m c4] 24)).cell? ⟨w4.heap.size, 2, none⟩ = some (.int .i64 k) := new_cell w4 _ _ rfl
  have x3 : (w4.alloc (.cells #[.int .i64 f, .int .i64 no, .int .i64 k, .slice ao4 m c4] 24)).cell? ⟨w4.heap.size, 3, none⟩ = some (.slice ao4 m c4) := new_cell w4 _ _ rfl
  have hX4 := hW3.tr hC4'
  have hl4' := hl4.fr ((Chg.refl (fun _ => False) w4).alloc (.cells #[.int .i64 f, .int .i64 no, .int .i64 k, .slice ao4 m c4] 24))
  go_wp2_with fail
  refine (q2 _ _ (HS.out.fr hX4)).mono ?_
  clear q2
  rintro e w5 ⟨v5, rfl, ho5, hC5⟩
  have hl5 := Sl.of_owns ho5
  obtain ⟨ao5, c5, hv5, _⟩ := rowI_of ho5
  rw [hm] at hv5
  subst hv5
  have hC5' := hC5.alloc (.cells #[.int .i64 f, .int .i64 no, .int .i64 k, .slice ao5 m c5] 24)
  replace x0 := hC5'.cell x0 id
  replace x1 := hC5'.cell x1 id
  replace x2 := hC5'.cell x2 id
  replace x3 := hC5'.cell x3 id
  have y0 : (w5.alloc (.cells #[.int .i64 f, .int .i64 no, .int .i64 k, .slice ao5 m c5] 24)).cell? ⟨w5.heap.size, 0, none⟩ = some (.int .i64 f) := new_cell w5 _ _ rfl
  have y1 : (w5.alloc (.cells #[.int .i64 f, .int .i64 no, .int .i64 k, .slice ao5 m c5] 24)).cell? ⟨w5.heap.size, 1, none⟩ = some (.int .i64 no) := new_cell w5 _ _ rfl
  have y2 : (w5.alloc (.cells #[.int .i64 f, .int .i64 no, .int .i64 k, .slice ao5 m c5] 24)).cell? ⟨w5.heap.size, 2, none⟩ = some (.int .i64 k) := new_cell w5 _ _ rfl
  have y3 : (w5.alloc (.cells #[.int .i64 f, .int .i64 no, .int .i64 k, .slice ao5 m c5] 24)).cell? ⟨w5.heap.size, 3, none⟩ = some (.slice ao5 m c5) := new_cell w5 _ _ rfl
  have hsm := q3 _ _ _ (hl4'.fr hC5') (hl5.fr ((Chg.refl (fun _ => False) w5).alloc (.cells #[.int .i64 f, .int .i64 no, .int .i64 k, .slice ao5 m c5] 24)))
  have hX5 := hC4'.tr hC5'
  clear q3
  go_wp2_with fail
  refine hsm.mono ?_
  clear hsm y0 y1 y2 y3 x0 x1 x2
  rintro e w6 ⟨rfl, hC6⟩
  replace x3 := hC6.cell x3 id
  have hs1 := q4 _ _ (HS1.out.fr (hX5.tr hC6))
  clear q4
  go_wp2_with fail
  refine hs1.mono ?_
  clear hs1
  rintro e w7 ⟨rfl, hC7⟩
  replace x3 := hC7.cell x3 id
  have hX7 := (hX5.tr hC6).tr hC7
  have hs2 := q5 _ _ (HS.out.fr (hW3.tr hX7))
  clear q5
  go_wp2_with fail
  refine hs2.mono ?_
  clear hs2
  rintro e w8 ⟨rfl, hC8⟩
  replace x3 := hC8.cell x3 id
  have hX8 := hX7.tr hC8
  have hbb : (b != b) = false := by cases b <;> rfl
  have hr8 : 0 < m → ∃ g, ao4 = some ⟨g, 0, none⟩ ∧ RowI w8 g l := fun h => by
    obtain ⟨g, e, hr⟩ := hr4 h
    exact ⟨g, e, hr.fr (((((Chg.refl (fun _ => False) w4).alloc (.cells #[.int .i64 f, .int .i64 no, .int .i64 k, .slice ao4 m c4] 24)).tr hC5').tr hC6).tr hC7 |>.tr hC8) id⟩
  have hgl : ∀ q, (Value.slice ao4 m c4).ownBlock = some q → W.heap.size ≤ q ∧ w3.heap.size ≤ q ∧ q < w4.heap.size := fun q e => by have h1 := hb4 q e; have h2 := hlt4 q e; have := hW3.size; omega
  have HM2 := Lib.hid (And.intro hm hml)
  have hkill : ∀ g, ao4 = some ⟨g, 0, none⟩ → (Value.slice ao4 m c4).ownBlock = some g := fun g e => by rw [e]; rfl
  clear ho4 ho5 hl4 hl5 hl4' hm hml hr4 hb4 hlt4 hC4 hC5 hC4' hC5' hC6 hC7 hC8 hX7 hX5 hX4 hcut
  go_wp2
  go_loopw [52] (fun i wr => ∃ j : Nat, j ≤ m ∧ i = .int .i64 j ∧ Chg (fun q => (Value.slice ao4 m c4).ownBlock = some q) w8 wr ∧ (∃ ys : List Int, ys.length = m ∧ (0 < m → ∃ g, ao4 = some ⟨g, 0, none⟩ ∧ RowI wr g ys))) (fun i _ => m - (intOf i).toNat)
  case atStart => exact ⟨0, Nat.zero_le _, rfl, Chg.refl _ _, l, HM2.out.1, hr8⟩
  case round =>
    obtain ⟨j, hj, rfl, hCz, ys, hyl, hR⟩ := hrel
    by_cases hlt : j < m
    · obtain ⟨g, rfl, hRg⟩ := hR (by omega)
      have hj2 : (j : Int) < (m : Int) := by omega
      have hyj : j < ys.length := by omega
      obtain ⟨hcl, hfz⟩ := hRg j _ (List.getElem?_eq_getElem hyj)
      have hset := fun y => hRg.set hyj y
      generalize ys[j] = y at *
      have x3w := hCz.cell x3 (fun e => absurd (hgl _ e).2.2 (Nat.lt_irrefl _))
      have u1 : IntKind.i64.wrap ((j : Int) + 1) = (j : Int) + 1 := IntWalk.i64_in _ (by have := HM2.out; omega)
      have HSET := Lib.hid hset
      have HY := Lib.hid (And.intro hyl hyj)
      clear hset hRg hyl hyj hR
      unfold I at hcl
      go_wp2
      go_still_tail 10, (by kernel_rfl)
      go_wp2
      exact ⟨⟨j + 1, Nat.succ_le_of_lt hlt, by go_num, (hCz.setCell (p := ⟨g, j, none⟩) (.inl rfl) _).drew, _, by rw [List.length_set]; exact HY.out.1, fun _ => ⟨g, rfl, HSET.out _⟩⟩, fit_meas j m hlt⟩
    · obtain rfl : m = j := by omega
      have hF : Chg (fun _ => False) W wr := (hW3.tr hX8).trans hCz (fun _ _ h => h) (fun i hi h => by have := hgl i h; omega)
      have hO3 : Sl wr (.slice ao3 L3 c3) ((xs ++ [7]).map B) := (HO.out.fr hX8).chg hCz (fun q e e' => by have := hob q e; have := hgl q e'; omega)
      obtain ⟨SO, hO1, hO2, hO4⟩ := str_name (xs ++ [7])
      obtain ⟨SB, hB1, hB2, hB3⟩ := str_name xs
      have hk3 := conv_sl hO3
      have hk4 := conv_sl (HS.out.fr hF)
      rw [hO1] at hk3
      rw [hB1] at hk4
      have hcat : (SB ++ (⟨#[7]⟩ : ByteArray)) = SO := by rw [← hO1, ← hB1]; apply ByteArray.ext; simp
      have HCAT := Lib.hid hcat
      have hsb : SB.size = n := by rw [← hB1, ← HM.out]; exact List.size_toArray ..
      clear hO1 hO2 hO4 hB1 hB2 hB3 hcat hO3 hCz hR hgl hob hkill
      go_wp2
      go_ret
      refine ⟨?_, hF⟩
      show Ending.returned (Value.bool (SO.toList == (SB ++ (⟨#[7]⟩ : ByteArray)).toList)) = _
      rw [HCAT.out]
      simp
theorem tileReads_walk (vb : Value) (xs : List UInt8) (W : World) (hS : Sl W vb (xs.map B)) : Calls Try.prog 5 #[vb] W (True_ W) := by
  obtain ⟨ao, c, rfl, _⟩ := hS.form
  rw [List.length_map] at hS ⊢
  by_cases h1 : (9000 : Int) < xs.length
  · exact reads_big _ c ao W h1
  · have hl : (decL xs).length ≤ 100000 := by
      unfold decL
      split
      · unfold elemsP
        rw [List.length_map, List.length_range]
        omega
      · exact Nat.zero_le _
    refine reads_main ao c _ xs W rfl hS h1 (decF xs) (decN xs) (decK xs) (decE xs) (decL xs) (soundB xs) _ rfl hl (fun w' v hv => decode_any v xs w' hv (by omega)) (fun w' v hv => r5decode_any v xs w' hv (by omega)) (fun w' u v hu hv => ?_) (fun w' v hv => sound_any v xs w' hv (by omega)) (fun w' v hv => r5sound_any v xs w' hv (by omega))
    have := same_any (decF xs) (decN xs) (decK xs) (decF xs) (decN xs) (decK xs) u v (decL xs) (decL xs) w' hu hv (by omega)
    rw [show sameB (decF xs) (decN xs) (decK xs) (decL xs) (decF xs) (decN xs) (decK xs) (decL xs) = true by unfold sameB; simp] at this
    exact this
end Go.Proofs.Ytccpmbonipfmpaa
