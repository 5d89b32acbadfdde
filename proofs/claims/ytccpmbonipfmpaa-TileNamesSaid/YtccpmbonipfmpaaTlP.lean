/- The document's Encode of a tile. -/
import Derived.Test.YtccpmbonipfmpaaTlO
import Derived.Test.YtccpmbonipfmpaaRef2
namespace Go.Proofs.Ytccpmbonipfmpaa
open Go.RowKit

theorem r5enc_no (f no k s : Int) (v : Value) (w : World) (E : Int) (hE : (E != 0) = true) (hc : ∀ w', Chg (fun _ => False) w w' → Calls Try.prog 26 #[.agg #[.int .i64 f, .int .i64 no, .int .i64 k, v], .int .i64 s] w' (GaveI w' E)) :
    Calls Try.prog 10 #[.agg #[.int .i64 f, .int .i64 no, .int .i64 k, v], .int .i64 s] w (GaveBE w [] E) := by
  go_enter Try.func10, Try.ntmps10
  go_wp2_with fail
  refine (hc _ ((Chg.refl _ w).alloc _)).mono ?_
  rintro e w1 ⟨rfl, hC1⟩
  go_wp2
  go_ret2
  exact ⟨_, rfl, World.ownsRow_nil _ _ _ _, ((Chg.refl _ w).alloc _).tr hC1⟩
def OwnB (w : World) (base : Nat) (v : Value) (xs : List UInt8) : Prop := w.ownsRow base 5 1 v xs.length (xs.map B)
theorem own_app {w : World} {base : Nat} {v : Value} {xs ys : List UInt8} {m q : Nat} (h : w.ownsRow base 5 1 v (m + q) (xs.map B ++ ys.map B)) (hm : xs.length = m) (hq : ys.length = q) : OwnB w base v (xs ++ ys) := by
  unfold OwnB
  rw [List.length_append, hm, hq, List.map_append]
  exact h
def slLen : Value → Nat
  | .slice _ n _ => n
  | _ => 0
theorem OwnB.name {w : World} {base : Nat} {v : Value} {xs : List UInt8} (h : OwnB w base v xs) : ∃ ao L c, v = .slice ao L c ∧ xs.length = L := by
  obtain ⟨ao, c, h, _⟩ := owns_form h
  exact ⟨ao, _, c, h, rfl⟩
theorem pad_meas {w : World} {base : Nat} {v : Value} {xs : List Value} {L m q Q : Nat} (h : w.ownsRow base 5 1 v (L + 1) xs) (hE : m + q = L) (hlt : q < Q) (ap : Option Addr) (cp : Nat) : m + Q - slLen v < m + Q - slLen (.slice ap L cp) := by
  obtain ⟨_, _, rfl, _⟩ := owns_form h
  show m + Q - (L + 1) < m + Q - L
  omega
theorem u8_wrap (k : Nat) (h : k < 256) : IntKind.u8.wrap (k : Int) = k := by
  rw [show IntKind.u8.wrap (k : Int) = (k : Int) % 256 from rfl]; omega
set_option maxRecDepth 100000 in
set_option maxHeartbeats 2000000 in
theorem r5enc_yes (f : Int) (no k s : Nat) (v : Value) (l : List Int) (w : World) (hS : Sl w v (l.map I)) (hk : k < 256) (hno : no < 4096) (hs1 : 1 ≤ s) (hs2 : s ≤ 64) (hlen : 8 * l.length + 24 ≤ s * 128)
    (hc : ∀ w', Chg (fun _ => False) w w' → Calls Try.prog 26 #[.agg #[.int .i64 f, .int .i64 (no : Int), .int .i64 (k : Int), v], .int .i64 (s : Int)] w' (GaveI w' 0)) :
    Calls Try.prog 10 #[.agg #[.int .i64 f, .int .i64 (no : Int), .int .i64 (k : Int), v], .int .i64 (s : Int)] w (GaveBE w (sealL (bodyL f no k l s)) 0) := by
  obtain ⟨ao, c, rfl, _⟩ := hS.form
  rw [List.length_map] at hS hc ⊢
  obtain ⟨n, hn⟩ : ∃ n, l.length = n := ⟨_, rfl⟩
  rw [hn] at hS hc hlen ⊢
  have u1 := u8_wrap k hk
  have u2 : IntKind.u64.wrap (no : Int) = no := by rw [wrap_u64_mod]; omega
  have u3 : IntKind.u64.wrap (n : Int) = n := by rw [wrap_u64_mod]; omega
  obtain ⟨a1, a2⟩ := num_fit 4 no rfl (by omega)
  obtain ⟨b1, b2⟩ := num_fit 4 n rfl (by omega)
  obtain ⟨i0, hi, hz0, hz1, hz2⟩ := info_parts Try.info5
  have q1 := fun w' => refInt_any f w'
  have q2 := fun w' => refNum_any 4 no w' (by omega) (by omega)
  rw [Int.toNat_natCast, show (4 : Int) = ((4 : Nat) : Int) from rfl, a1, a2] at q2
  have q3 := fun w' => refNum_any 4 n w' (by omega) (by omega)
  rw [Int.toNat_natCast, show (4 : Int) = ((4 : Nat) : Int) from rfl, b1, b2] at q3
  have HKB := Lib.hid (B_nat k hk)
  have HS := Lib.hid hS
  have HN := Lib.hid hn
  have HB := Lib.hid (show 1 ≤ s ∧ s ≤ 64 ∧ 8 * n + 24 ≤ s * 128 from ⟨hs1, hs2, hlen⟩)
  have HK := Lib.hid (show k < 256 ∧ no < 4096 from ⟨hk, hno⟩)
  clear hS hn hs1 hs2 hlen hk hno a1 a2 b1 b2
  go_enter Try.func10, Try.ntmps10
  go_wp2_with fail
  refine (hc _ ((Chg.refl _ w).alloc _)).mono ?_
  clear hc
  rintro e w1 ⟨rfl, hC1⟩
  have c0 : w1.cell? ⟨w.heap.size, 0, none⟩ = some (.int .i64 f) := hC1.cell (new_cell w _ _ rfl) id
  have c1 : w1.cell? ⟨w.heap.size, 1, none⟩ = some (.int .i64 (no : Int)) := hC1.cell (new_cell w _ _ rfl) id
  have c2 : w1.cell? ⟨w.heap.size, 2, none⟩ = some (.int .i64 (k : Int)) := hC1.cell (new_cell w _ _ rfl) id
  have c3 : w1.cell? ⟨w.heap.size, 3, none⟩ = some (.slice ao n c) := hC1.cell (new_cell w _ _ rfl) id
  have hF1 : Chg (fun _ => False) w w1 := ((Chg.refl _ w).alloc _).tr hC1
  have hL0 := World.ownsRow_lit (base := w1.heap.size) (e := 5) (size := 1) w1 #[.int .u8 81, .int .u8 84, .int .u8 1, .int .u8 (k : Int)] 4 (Nat.le_refl _) (by unfold maxLen; decide) rfl
  have hC0 : Chg (fun _ => False) w1 (w1.alloc (.cells #[.int .u8 81, .int .u8 84, .int .u8 1, .int .u8 (k : Int)] 5)) := (Chg.refl _ w1).alloc _
  have c0' := hC0.cell c0 id
  clear hC1 c0
  go_wp2_with fail
  refine (q1 _).mono ?_
  clear q1
  rintro e w2 ⟨v2, rfl, ho2, hC2⟩
  have hown2 := hC2.owns hL0 (fun _ _ => id)
  have hs2 := Sl.of_owns ho2
  obtain ⟨p2, d2, rfl, _⟩ := hs2.form
  rw [List.length_map, be_length] at hs2
  rw [List.length_map, be_length]
  have hD2 := hC0.tr hC2
  have hs2' := hs2.src
  have hz2' := hD2.size
  clear hL0 hC0 hC2 ho2 c0' c2 hs2 u1
  go_wp2_with (refine wpList_append_own_any rfl (.tmp 23) (.tmp 26) 25 rfl w1.heap.size 5 i0 (.int .u8 0) 1 1 Try.underlying25 hi hz0 hz1 hz2 rfl (by decide) (.slice (some ⟨w1.heap.size, 0, none⟩) 4 4) 4 [.int .u8 81, .int .u8 84, .int .u8 1, .int .u8 (k : Int)] rfl hown2 p2 8 d2 ((be 8 (f % 18446744073709551616).toNat).map B) rfl (by rw [List.length_map, be_length]) hs2' (oneCell_B _) (by unfold maxLen; decide) (by decide) hz2' ?_; intro v3 w3 hown3 hg3 _ _; have hD3 := hD2.grown hg3 (fun k e => .inr (hown2.lt k e).1); have c1' := hD3.cell c1 id)
  refine (q2 _).mono ?_
  clear q2 c1' c1
  rintro e w4 ⟨v4, rfl, ho4, hC4⟩
  have hD4 := hD3.tr hC4
  have c3' := hD4.cell c3 id
  go_wp2_with fail
  refine (q3 _).mono ?_
  clear q3 c3'
  rintro e w5 ⟨v5, rfl, ho5, hC5⟩
  have hD5 := hD4.tr hC5
  have hown5 := (hC4.tr hC5).owns hown3 (fun _ _ => id)
  have hs4 := (Sl.of_owns ho4).fr hC5
  have hs5 := Sl.of_owns ho5
  have hne : ∀ q, v5.ownBlock = some q → ¬ v3.ownBlock = some q := fun q e e' => by have := (ho5.lt q e).1; have := (hown3.lt q e').2; have := hC4.size; omega
  clear ho4 ho5
  obtain ⟨p4, d4, rfl, _⟩ := hs4.form
  obtain ⟨p5, d5, rfl, _⟩ := hs5.form
  rw [List.length_map, be_length] at hs4 hs5 hne
  rw [List.length_map, be_length, List.length_map, be_length]
  have hs4' := hs4.src
  have hz5 := hD5.size
  clear hD2 hD3 hD4 hown2 hown3 hC4 hC5 hs2' hz2' hs4 u2 u3 hg3
  go_wp2_with (first
    | (refine wpList_append_own_any rfl (.tmp 43) (.tmp 44) 25 rfl w1.heap.size 5 i0 (.int .u8 0) 1 1 Try.underlying25 hi hz0 hz1 hz2 rfl (by decide) v3 _ _ rfl hown5 p4 4 d4 ((be 4 no).map B) rfl (by rw [List.length_map, be_length]) hs4' (oneCell_B _) (by unfold maxLen; decide) (by decide) hz5 ?_; intro v6 w6 hown6 hg6 _ _; have hD6 := hD5.grown hg6 (fun k e => .inr (hown5.lt k e).1); have hs5' := (hs5.chg ((Chg.refl (fun q => v3.ownBlock = some q) w5).grown hg6 (fun k e => .inl e)) hne).src; have hz6 := hD6.size; clear hs5 hne hown5 hs4')
    | (refine wpList_append_own_any rfl (.tmp 45) (.tmp 46) 25 rfl w1.heap.size 5 i0 (.int .u8 0) 1 1 Try.underlying25 hi hz0 hz1 hz2 rfl (by decide) v6 _ _ rfl hown6 p5 4 d5 ((be 4 n).map B) rfl (by rw [List.length_map, be_length]) hs5' (oneCell_B _) (by unfold maxLen; decide) (by decide) hz6 ?_; intro v7 w7 hown7 hg7 _ _; have hD7 := hD6.grown hg7 (fun k e => .inr (hown6.lt k e).1); clear hs5' hown6))
  have hF7 := hF1.tr hD7
  have hown0 : OwnB w7 w1.heap.size v7 (headL f no k n) := by
    have e : [Value.int .u8 81, .int .u8 84, .int .u8 1, .int .u8 (k : Int)] ++ (be 8 (f % 18446744073709551616).toNat).map B ++ (be 4 no).map B ++ (be 4 n).map B = (headL f no k n).map B := by
      unfold headL be8
      rw [List.map_append, List.map_append, List.map_append, List.map_append, show be 1 k = [UInt8.ofNat k] from by simp [be], show [UInt8.ofNat k].map B = [.int .u8 (k : Int)] by rw [List.map_cons, HKB.out]; rfl]
      rfl
    unfold OwnB
    rw [headL_length, ← e]
    exact hown7
  clear hown7 hD5 hz5 hg6 hD6 hz6 hg7 HK
  have hhl := Lib.hid (headL_length f no k n)
  have hbd := Lib.hid (show bodyL f no k l s = headL f no k n ++ elemsL l ++ List.replicate (s * 128 - 24 - 8 * n) 0 by unfold bodyL; rw [HN.out])
  generalize headL f no k n = hd at *
  go_loopw [7, 12] (fun vb i wr => ∃ j : Nat, j ≤ n ∧ i = .int .i64 j ∧ OwnB wr w1.heap.size vb (hd ++ elemsL (l.take j)) ∧ Chg (fun _ => False) w1 wr) (fun _ i _ => n - (intOf i).toNat)
  case atStart => exact ⟨0, Nat.zero_le _, rfl, by show OwnB w7 _ v7 (hd ++ []); rw [List.append_nil]; exact hown0, hD7⟩
  case round =>
    obtain ⟨j, hj, rfl, hown, hCr⟩ := hrel
    have c3r := hCr.cell c3 id
    have hzr := hCr.size
    by_cases hlt : j < n
    · have hj2 : (j : Int) < (n : Int) := by omega
      have hkw : wrap64 ((j : Int) + 1) = (j : Int) + 1 := wrap_step j n s HB.out hlt
      obtain ⟨x, hx⟩ : ∃ x, l[j]? = some x := ⟨_, List.getElem?_eq_getElem (by rw [HN.out]; exact hlt)⟩
      have hTk := Lib.hid (show l.take (j + 1) = l.take j ++ [x] by rw [List.take_add_one, hx]; rfl)
      obtain ⟨b, o, c', e1, hcell⟩ := (HS.out.fr (hF1.tr hCr)).cells j (I x) (by rw [List.getElem?_map, hx]; rfl)
      injection e1 with e1 e2 e3
      clear e2 e3
      subst e1
      unfold I at hcell
      have hlen := len_step hd l j n s hhl.out HN.out HB.out
      obtain ⟨ap, L, cp, rfl, hL⟩ := hown.name
      rw [hL] at hlen
      have hq := refInt_any x wr
      have HL := Lib.hid hL
      clear hx hL
      go_wp2_with fail
      refine hq.mono ?_
      clear hq
      rintro e w8 ⟨v8, rfl, ho8, hC8⟩
      have hs8 := Sl.of_owns ho8
      clear ho8
      obtain ⟨p8, d8, rfl, _⟩ := hs8.form
      rw [List.length_map, be_length] at hs8
      rw [List.length_map, be_length]
      have hs8' := hs8.src
      have hown8 : OwnB w8 _ _ _ := hC8.owns hown (fun _ _ => id)
      unfold OwnB at hown8
      rw [HL.out] at hown8
      have hz8 : w1.heap.size ≤ w8.heap.size := by have := hC8.size; omega
      have hC8' := hCr.tr hC8
      have hb1 : L + 8 ≤ maxLen := Nat.le_trans hlen (by unfold maxLen; decide)
      have hb2 : (L + 8) * 1 ≤ 140737488355328 := by rw [Nat.mul_one]; exact hlen
      clear hs8 hown
      go_wp2_with (refine wpList_append_own_any rfl (.tmp 55) (.tmp 61) 25 rfl w1.heap.size 5 i0 (.int .u8 0) 1 1 Try.underlying25 hi hz0 hz1 hz2 rfl (by decide) _ _ _ rfl hown8 p8 8 d8 ((be 8 (x % 18446744073709551616).toNat).map B) rfl (by rw [List.length_map, be_length]) hs8' (oneCell_B _) hb1 hb2 hz8 ?_; intro v9 w9 hown9 hg9 _ _; have hC9 := hC8'.grown hg9 (fun k e => .inr (hown8.lt k e).1))
      go_roundw
      case rel =>
        refine ⟨j + 1, Nat.succ_le_of_lt hlt, by go_num, ?_, hC9⟩
        rw [hTk.out, elemsL_snoc, be8_eq, ← List.append_assoc]
        exact own_app hown9 HL.out (be_length _ _)
      case measure => first | (with_reducible exact fit_meas j n hlt) | (with_reducible exact meas_step j n hlt hkw)
    · obtain rfl : n = j := by omega
      rw [List.take_of_length_le (by rw [HN.out]; exact Nat.le_refl _)] at hown
      have hll : (hd ++ elemsL l).length = 20 + 8 * n := by rw [List.length_append, hhl.out, elemsL_length, HN.out]
      obtain ⟨Q, hQ⟩ : ∃ Q, s * 128 - 24 - 8 * n = Q := ⟨_, rfl⟩
      obtain ⟨m, hm⟩ : ∃ m, 20 + 8 * n = m := ⟨_, rfl⟩
      rw [hQ] at hbd
      rw [hm] at hll
      have e1 : IntKind.i64.wrap ((s : Int) * 128) = (s : Int) * 128 := IntWalk.i64_in _ (by have := HB.out; omega)
      have e2 : IntKind.i64.wrap ((s : Int) * 128 - 4) = (s : Int) * 128 - 4 := IntWalk.i64_in _ (by have := HB.out; omega)
      have HQ := Lib.hid (show m + Q + 4 = s * 128 ∧ m + Q ≤ 8192 by have := HB.out; omega)
      generalize hd ++ elemsL l = bd at *
      have HLL := Lib.hid hll
      clear hQ hm hll hlt hj
      go_wp2
      clear c3r
      go_loopw [7] (fun vb wq => ∃ q : Nat, q ≤ Q ∧ OwnB wq w1.heap.size vb (bd ++ List.replicate q 0) ∧ Chg (fun _ => False) w1 wq) (fun vb _ => m + Q - slLen vb)
      case atStart => exact ⟨0, Nat.zero_le _, by show OwnB wr _ _ (bd ++ []); rw [List.append_nil]; exact hown, hCr⟩
      clear hown hCr hzr e1 e2
      case round =>
        rename_i wr0
        obtain ⟨q, hq, hown, hCr⟩ := hrel
        have e1 : IntKind.i64.wrap ((s : Int) * 128) = (s : Int) * 128 := IntWalk.i64_in _ (by have := HB.out; omega)
        have e2 : IntKind.i64.wrap ((s : Int) * 128 - 4) = (s : Int) * 128 - 4 := IntWalk.i64_in _ (by have := HB.out; omega)
        have hzr := hCr.size
        have hll : (bd ++ List.replicate q 0).length = m + q := by rw [List.length_append, HLL.out, List.length_replicate]
        obtain ⟨ap, L, cp, rfl, hL⟩ := hown.name
        have HE := Lib.hid (show m + q = L by rw [← hll, hL])
        have HLq := Lib.hid hL
        clear hL hll
        by_cases hlt : q < Q
        · have hc : decide ((L : Int) < (s : Int) * 128 - 4) = true := decide_eq_true (by have := HQ.out; have := HE.out; omega)
          have hown' : (wr.alloc (.cells #[.int .u8 0] 5)).ownsRow w1.heap.size 5 1 _ _ _ := World.ownsRow.alloc hown _
          rw [HLq.out] at hown'
          have hb1 : L + 1 ≤ maxLen := by have := HQ.out; have := HE.out; unfold maxLen; omega
          have hb2 : (L + 1) * 1 ≤ 140737488355328 := by have := HQ.out; have := HE.out; omega
          have hz1' : w1.heap.size ≤ (wr.alloc (.cells #[.int .u8 0] 5)).heap.size := by rw [World.size_alloc]; omega
          have hsr := (Sl.lit wr [.int .u8 0] 5 (by unfold maxLen; decide)).src
          go_wp2_with (refine wpList_append_own_any rfl (.tmp 69) (.tmp 70) 25 rfl w1.heap.size 5 i0 (.int .u8 0) 1 1 Try.underlying25 hi hz0 hz1 hz2 rfl (by decide) _ _ _ rfl hown' (some ⟨wr.heap.size, 0, none⟩) 1 1 [.int .u8 0] rfl rfl hsr (by simp [Value.oneCell']) hb1 hb2 hz1' ?_; intro v9 w9 hown9 hg9 _ _; have hC9 := (hCr.alloc _).grown hg9 (fun k e => .inr (hown'.lt k e).1))
          go_roundw
          case rel =>
            refine ⟨q + 1, Nat.succ_le_of_lt hlt, ?_, hC9⟩
            rw [List.replicate_succ', ← List.append_assoc]
            exact own_app (ys := [0]) hown9 HLq.out rfl
          case measure => exact pad_meas hown9 HE.out hlt _ _
        · obtain rfl : Q = q := by omega
          have hc : decide ((L : Int) < (s : Int) * 128 - 4) = false := decide_eq_false (by have := HQ.out; have := HE.out; omega)
          rw [← hbd.out] at hown HLq
          have hof := fun w' h => r2of_any _ (bodyL f no k l s) w' ((Sl.of_owns hown).fr h) (by rw [HLq.out]; have := HQ.out; have := HE.out; omega)
          have hm2 : moreN 0 (bodyL f no k l s) < 4294967296 := moreN_lt _ (by decide)
          have HSE := Lib.hid (show sealL (bodyL f no k l s) = bodyL f no k l s ++ be 4 (moreN 0 (bodyL f no k l s)) from rfl)
          generalize moreN 0 (bodyL f no k l s) = cs at *
          have hfo := fun w' => four_any cs w' hm2
          go_wp2_with fail
          refine (hof wr (Chg.refl _ _)).mono ?_
          clear hof
          rintro e w' ⟨rfl, rfl⟩
          go_wp2_with fail
          refine (hfo _).mono ?_
          clear hfo
          rintro e w8 ⟨v8, rfl, ho8, hC8⟩
          have hs8 := Sl.of_owns ho8
          clear ho8
          obtain ⟨p8, d8, rfl, _⟩ := hs8.form
          rw [List.length_map, be_length] at hs8
          rw [List.length_map, be_length]
          have hs8' := hs8.src
          have hown8 : OwnB w8 _ _ _ := hC8.owns hown (fun _ _ => id)
          unfold OwnB at hown8
          rw [HLq.out] at hown8
          have hz8 : w1.heap.size ≤ w8.heap.size := by have := hC8.size; omega
          have hC8' := hCr.tr hC8
          have hb1 : L + 4 ≤ maxLen := by have := HQ.out; have := HE.out; unfold maxLen; omega
          have hb2 : (L + 4) * 1 ≤ 140737488355328 := by have := HQ.out; have := HE.out; omega
          clear hs8 hown
          go_wp2_with (refine wpList_append_own_any rfl (.tmp 72) (.tmp 75) 25 rfl w1.heap.size 5 i0 (.int .u8 0) 1 1 Try.underlying25 hi hz0 hz1 hz2 rfl (by decide) _ _ _ rfl hown8 p8 4 d8 ((be 4 cs).map B) rfl (by rw [List.length_map, be_length]) hs8' (oneCell_B _) hb1 hb2 hz8 ?_; intro v9 w9 hown9 hg9 _ _; have hC9 := hC8'.grown hg9 (fun k e => .inr (hown8.lt k e).1))
          go_ret2
          have ho := own_app hown9 HLq.out (be_length _ _)
          rw [← HSE.out] at ho
          exact ⟨_, rfl, owns_mono ho hF1.size, hF1.tr hC9⟩
theorem r5enc_any (f no k s : Int) (v : Value) (l : List Int) (w : World) (hS : Sl w v (l.map I)) (hl : l.length ≤ 140737488355328) :
    Calls Try.prog 10 #[tileV f no k v, .int .i64 s] w (GaveBE w (tileL f no k l s) (checkE f no k l s)) := by
  unfold tileV tileL checkE
  have hc0 : ∀ w', Chg (fun _ => False) w w' → Calls Try.prog 26 #[.agg #[.int .i64 f, .int .i64 no, .int .i64 k, v], .int .i64 s] w' (GaveI w' (checkE f no k l s)) := fun w' hC => r5check_any f no k s v l w' (hS.fr hC) hl
  unfold checkE at hc0
  cases h : checkB f no k l s with
  | false =>
    rw [h] at hc0
    exact r5enc_no f no k s v w 50 (by decide) hc0
  | true =>
    rw [h] at hc0
    obtain ⟨⟨s1, s2⟩, _, ⟨n1, n2⟩, hk, hlen⟩ := check_bounds h
    obtain ⟨no, rfl⟩ := Int.eq_ofNat_of_zero_le n1
    obtain ⟨s, rfl⟩ := Int.eq_ofNat_of_zero_le (show 0 ≤ s by omega)
    obtain ⟨k, rfl⟩ := Int.eq_ofNat_of_zero_le (show 0 ≤ k by omega)
    exact r5enc_yes f no k s v l w hS (by omega) (by omega) (by omega) (by omega) (by omega) hc0
end Go.Proofs.Ytccpmbonipfmpaa
