/- The document's ways of axes, walked. -/
import Derived.Test.YtmmbdhfljabefaaTrF
import Derived.Test.YtmmbdhfljabefaaTrM
import Derived.Test.YtmmbdhfljabefaaTuP
import Derived.Deep.RegionHeld3
namespace Go.Proofs.Ytmmbdhfljabefaa
open Go.RowKit Go.Shelf

/-- A row of numbers, a block of its own. -/
def RowH (w : World) (b : Nat) (xs : List Int) : Prop := w.heap[b]? = some (.cells ((xs.map I).toArray) 3 (0, 0))
theorem RowH.lt {w : World} {b : Nat} {xs : List Int} (h : RowH w b xs) : b < w.heap.size := (Array.getElem?_eq_some_iff.1 h).1
theorem RowH.set {w : World} {b : Nat} {xs : List Int} (h : RowH w b xs) (j : Nat) (y : Int) : RowH (w.setCell ⟨b, j, none⟩ (.int .i64 y)) b (xs.set j y) := by
  unfold RowH at *
  rw [heap_setCell_same w b j _ _ _ h]
  simp [List.map_set, I]
theorem RowH.chg {S : Nat → Prop} {w w' : World} {b : Nat} {xs : List Int} (h : RowH w b xs) (hC : Chg S w w') (hn : ¬ S b) : RowH w' b xs := (hC.block b h.lt hn).trans h
theorem RowH.cell {w : World} {b : Nat} {xs : List Int} (h : RowH w b xs) {j : Nat} (hj : j < xs.length) : w.cell? ⟨b, j, none⟩ = some (.int .i64 xs[j]) := by
  unfold RowH at h
  unfold World.cell?
  rw [h]
  simp [hj, I]
theorem RowH.frozen {w : World} {b : Nat} {xs : List Int} (h : RowH w b xs) (j : Nat) : w.frozen? ⟨b, j, none⟩ = false := by
  unfold RowH at h
  unfold World.frozen?
  rw [h]
  simp
theorem RowH.own {w : World} {b base : Nat} {xs : List Int} (h : RowH w b xs) (hb : base ≤ b) (hl : xs.length ≤ 4096) : Own w base 3 (.slice (some ⟨b, 0, none⟩) xs.length xs.length) xs :=
  ⟨by simp, .inr ⟨b, xs.length, _, rfl, hb, h, Nat.le_refl _, by unfold maxLen; omega, by simp, by rw [Nat.mul_one, List.take_of_length_le (by simp)]⟩⟩
theorem RowH.made {w : World} {b r : Nat} (h : w.heap[b]? = some (.cells (madeCells #[.int .i64 0] r) 3)) : RowH w b (List.replicate r 0) := by
  have e : madeCells #[.int .i64 0] r = ((List.replicate r (0 : Int)).map I).toArray := by
    apply Array.ext
    · rw [size_madeCells]
      simp
    · intro i h1 h2
      simp [madeCells, I, Nat.mod_one]
  unfold RowH
  rw [← e]
  exact h
def FillTo (s : List Int) (p : List Nat) (j : Nat) (xs : List Int) : Prop := xs.length = s.length ∧ ∀ i, i < j → xs[p.getD i 0]? = s[i]?
theorem FillTo.zero (s : List Int) (p : List Nat) : FillTo s p 0 (List.replicate s.length 0) := ⟨List.length_replicate, fun i hi => absurd hi (Nat.not_lt_zero i)⟩
theorem FillTo.next {s : List Int} {p : List Nat} {j : Nat} {xs : List Int} (h : FillTo s p j xs) (hp : p.Perm (List.range s.length)) (hj : j < s.length) : FillTo s p (j + 1) (xs.set (p.getD j 0) s[j]) := by
  obtain ⟨hl, hn, hb⟩ := perm_facts hp
  refine ⟨by rw [List.length_set]; exact h.1, fun i hi => ?_⟩
  have hpj : p.getD j 0 < xs.length := by
    rw [h.1, List.getD, List.getElem?_eq_getElem (by omega)]
    exact hb _ (List.getElem_mem _)
  by_cases hij : i = j
  · subst hij
    rw [List.getElem?_set_self hpj, List.getElem?_eq_getElem hj]
  · rw [List.getElem?_set_ne (nodup_ne hn (by omega) (by omega) (fun e => hij e.symm))]
    exact h.2 i (by omega)
theorem FillTo.full {s : List Int} {p : List Nat} {xs : List Int} (h : FillTo s p s.length xs) (hp : p.Perm (List.range s.length)) : xs = outL s p :=
  (outL_ext hp h.1 (fun i hi => by rw [h.2 i hi, List.getElem?_eq_getElem hi])).symm
/-- Where the k-th one comes from. -/
def frmL (s : List Int) (p : List Nat) (k : Nat) : List Int := p.map fun a => (atL (outL s p) k).getD a 0
theorem axG_pl {s : List Int} {p : List Nat} (hs : shB s = true) (hp : p.Perm (List.range s.length)) : tabG (cnt s) (fun k => (0, plN s (frmL s p k))) = axG s p := tabG_congr (fun i hi => by
  have hc := cnt_int s
  rw [cntN_ok hs] at hc
  have hs4 := shB_iff.1 hs
  have hpos := pos_of_prod (s := s) (fun l hl => (hs4.2.1 l hl).1) (by omega)
  rw [plN_ok (by unfold plB frmL; rw [hs, in_perm hp hpos i]; rfl)]
  rfl)
theorem chg_one' {S : Nat → Prop} {w0 w w' : World} {b : Nat} (h : Chg S w0 w) (h2 : Chg (fun q => q = b) w w') (hb : w0.heap.size ≤ b) : Chg S w0 w' := Chg.trans h h2 (fun _ _ h => h) (fun i hi e => by omega)
def GaveGx (w : World) (W : Wy) (e : Ending) (w' : World) : Prop := ∃ vs vo vp, e = .returned (.agg #[vs, vo, vp]) ∧ GatB w' w.heap.size vs vo vp W.s W.g ∧ Chg (fun _ => False) w w'
theorem leaveGx {w W : World} {base rb : Nat} {vs vo vp : Value} {s : List Int} {g : List (Int × Int)} (hG : GatB W base vs vo vp s g) (h3 : ∀ q, vs.ownBlock = some q → q ≠ rb) (h4 : ∀ q, vo.ownBlock = some q → q ≠ rb) (h5 : ∀ q, vp.ownBlock = some q → q ≠ rb) (hr : w.heap.size ≤ rb) (hb : w.heap.size ≤ base) (hC : Chg (fun _ => False) w W) :
    GaveGx w ⟨s, g, 0⟩ (.returned (.agg #[vs, vo, vp])) (((W.setCell ⟨rb, 0, none⟩ vs).setCell ⟨rb, 1, none⟩ vo).setCell ⟨rb, 2, none⟩ vp) :=
  ⟨vs, vo, vp, rfl, ⟨(own_off3 hG.os _ _ _ h3).mono hb, (own_off3 hG.oo _ _ _ h4).mono hb, (own_off3 hG.op _ _ _ h5).mono hb, hG.d1, hG.d2, hG.d3⟩, chg_set3 hC hr _ _ _⟩
set_option maxRecDepth 100000 in
set_option maxHeartbeats 4000000 in
theorem r14axes_any (u v : Value) (s : List Int) (p : List Nat) (w : World) (hT : Ls w u (p.map (fun (a : Nat) => (a : Int)))) (hS : Ls w v s) (hsh : shB s = true) (hp : p.Perm (List.range s.length)) :
    Calls Try.prog 61 #[u, v] w (GaveGx w ⟨outL s p, axG s p, 0⟩) := by
  obtain ⟨i0, hi, hz0, hz1, hz2⟩ := info_parts info_int
  obtain ⟨hpl, hpn, hpb⟩ := perm_facts hp
  obtain ⟨at', ct, rfl, _⟩ := hT.form
  obtain ⟨ao, c, rfl, _⟩ := hS.form
  rw [List.length_map, hpl] at hT ⊢
  have hs4 := (shB_iff.1 hsh).1
  have hR0 := Bx.new w (.slice none 0 0) (.slice none 0 0) (.slice none 0 0) 38
  have hC0 := (Chg.refl (fun _ => False) w).alloc (.cells #[.slice none 0 0, .slice none 0 0, .slice none 0 0] 38)
  have hmk := fun w => run_make_row' (P := Try.prog) 22 3 (.int .i64 0) 8 Try.underlying22 info_int rfl .i64 .i64 s.length (by omega) (by omega) w
  have hH0 : RowH ((w.alloc (.cells #[.slice none 0 0, .slice none 0 0, .slice none 0 0] 38)).alloc (.cells (madeCells #[.int .i64 0] s.length) 3)) (w.heap.size + 1) (List.replicate s.length 0) := by
    have h := RowH.made (heap_alloc_new (w.alloc (.cells #[.slice none 0 0, .slice none 0 0, .slice none 0 0] 38)) (.cells (madeCells #[.int .i64 0] s.length) 3))
    rw [World.size_alloc] at h
    exact h
  generalize madeCells #[.int .i64 0] s.length = MC at *
  obtain ⟨w1, hw1⟩ : ∃ w1, (w.alloc (.cells #[.slice none 0 0, .slice none 0 0, .slice none 0 0] 38)).alloc (.cells MC 3) = w1 := ⟨_, rfl⟩
  have hC1 := hC0.alloc (.cells MC 3)
  have hR1 := hR0.fr ((Chg.refl _ _).alloc (.cells MC 3))
  rw [hw1] at hC1 hR1 hH0
  have HW1 := Lib.hid hw1
  have HC1 := Lib.hid hC1
  have HR1 := Lib.hid hR1
  have HH := Lib.hid hH0
  have HT := Lib.hid hT
  have HS := Lib.hid hS
  have HSH := Lib.hid hsh
  have HP := Lib.hid hp
  have HPN := Lib.hid (show p.length = s.length ∧ p.Nodup ∧ ∀ i ∈ p, i < s.length from ⟨hpl, hpn, hpb⟩)
  clear hw1 hC1 hR1 hH0 hC0 hR0 hT hS hsh hp hpl hpn hpb
  go_enter Try.func61, Try.ntmps61
  go_wp2
  rw [HW1.out]
  go_loopw [6] (fun i wr => ∃ j : Nat, j ≤ s.length ∧ i = .int .i64 j ∧ (∃ xs, RowH wr (w.heap.size + 1) xs ∧ FillTo s p j xs) ∧ Chg (fun q => q = w.heap.size + 1) w1 wr) (fun i _ => s.length - (intOf i).toNat)
  case atStart => exact ⟨0, Nat.zero_le _, rfl, ⟨_, HH.out, FillTo.zero s p⟩, Chg.refl _ _⟩
  case round =>
    obtain ⟨j, hj, rfl, ⟨xs, hH, hF⟩, hC⟩ := hrel
    have hCw : Chg (fun _ => False) w wr := chg_one' HC1.out hC (Nat.le_succ _)
    by_cases hlt : j < s.length
    · have hTr := HT.out.fr hCw
      have hSr := HS.out.fr hCw
      obtain ⟨bs, os, cs, e1, hcx⟩ := hSr.at hlt
      injection e1 with e1 e2 e3
      clear e2 e3
      subst e1
      obtain ⟨bt, ot, cc, e1, hca⟩ := hTr.at (j := j) (by rw [List.length_map, HPN.out.1]; exact hlt)
      injection e1 with e1 e2 e3
      clear e2 e3
      subst e1
      rw [List.getElem_map] at hca
      have hjp : j < p.length := by rw [HPN.out.1]; exact hlt
      have hgd : p.getD j 0 = p[j] := by rw [List.getD, List.getElem?_eq_getElem hjp]; rfl
      have hab : p[j] < s.length := HPN.out.2.2 _ (List.getElem_mem hjp)
      have hN := hF.next HP.out hlt
      rw [hgd] at hN
      generalize p[j] = a at *
      generalize s[j] = x at *
      have hax : a < xs.length := by rw [hF.1]; exact hab
      obtain ⟨zz, hco⟩ : ∃ zz, wr.cell? ⟨w.heap.size + 1, a, none⟩ = some zz := ⟨_, hH.cell hax⟩
      have hfo := hH.frozen a
      have hbs : bs ≠ w.heap.size + 1 := by
        obtain ⟨b2, o2, c2, e1, h⟩ := HS.out.at hlt
        injection e1 with e1 _ _
        injection e1 with e1
        injection e1 with e1 _ _
        have h9 : b2 < w.heap.size := cell_lt h
        omega
      have hbt : bt ≠ w.heap.size + 1 := by
        obtain ⟨b2, o2, c2, e1, h⟩ := HT.out.at (j := j) (by rw [List.length_map]; exact hjp)
        injection e1 with e1 _ _
        injection e1 with e1
        injection e1 with e1 _ _
        have h9 : b2 < w.heap.size := cell_lt h
        omega
      have hlt' : (j : Int) < (s.length : Int) := by omega
      have hj0 : (0 : Int) ≤ (j : Int) := by omega
      have ha0 : (0 : Int) ≤ (a : Int) := by omega
      have ha1 : (a : Int) < (s.length : Int) := by omega
      have hkw : IntKind.i64.wrap ((j : Int) + 1) = (j : Int) + 1 := IntWalk.i64_in _ (by omega)
      have KP := Lib.hid (show ∀ w', Chg (fun q => q = w.heap.size + 1) wr w' → (Chg (fun q => q = w.heap.size + 1) wr w' ∧ w'.cell? ⟨bt, ot + j, none⟩ = some (.int .i64 (a : Int)) ∧ w'.cell? ⟨bs, os + j, none⟩ = some (.int .i64 x)) from fun w' h => ⟨h, h.cell hca hbt, h.cell hcx hbs⟩)
      have HLT := Lib.hid hlt
      have HN := Lib.hid hN
      have HH2 := Lib.hid (hH.set a x)
      have HCr := Lib.hid hC
      clear hTr hSr hgd hN hax hH hF hC hCw hlt hj hab hjp
      go_wp2_with fail
      go_region_held3 (fun w' => Chg (fun q => q = w.heap.size + 1) wr w' ∧ w'.cell? ⟨bt, ot + j, none⟩ = some (.int .i64 (a : Int)) ∧ w'.cell? ⟨bs, os + j, none⟩ = some (.int .i64 x)) ((refine KP.out _ ?_; repeat (first | (with_reducible exact Chg.refl _ _) | (with_reducible refine Chg.drew ?_) | (refine Chg.setCell ?_ (.inl (by simp)) _)))) (fail)
      all_goals
        rename_i hHd
        have HHd := Lib.hid hHd.1
        clear hHd hca hcx hco hfo
        go_wp2
        go_roundw
        case rel => exact ⟨j + 1, HLT.out, by go_num, ⟨_, HH2.out.chg ((Chg.refl (fun _ => False) _).drew) id, HN.out⟩, HCr.out.trans HHd.out (fun _ _ h => h) (fun _ _ h => h)⟩
        case measure => exact fit_meas j s.length HLT.out
    · obtain rfl : j = s.length := by omega
      have hxs := hF.full HP.out
      have hSl : xs.length = s.length := hF.1
      have hSP : xs.Perm s := hxs ▸ outL_perm HP.out
      have hshS : shB xs = true := (shB_perm hSP).trans HSH.out
      have hcS : cnt xs = cnt s := cnt_perm hSP
      have HFR := Lib.hid (show ∀ k : Nat, frmL s p k = p.map fun a => (atL xs k).getD a 0 from fun k => by unfold frmL; rw [← hxs])
      have HXS := Lib.hid hxs
      clear hxs hSP hF
      obtain ⟨S, hSq⟩ : ∃ S, xs = S := ⟨_, rfl⟩
      subst hSq
      have hOw := hH.own (base := w.heap.size + 1) (Nat.le_refl _) (by omega)
      rw [hSl] at hOw
      have hL0 := GatL.start (t := 38) hOw hCw (Nat.le_succ _)
      have hCA := (Chg.refl (fun _ => False) wr).alloc (.cells #[.slice (some ⟨w.heap.size + 1, 0, none⟩) s.length s.length, .slice none 0 0, .slice none 0 0] 38)
      have hcnt := r11count_any _ xs _ (hOw.ls.fr hCA)
      have hR2 := (HR1.out.chg hC (show ¬ w.heap.size = w.heap.size + 1 by omega)).fr hCA
      obtain ⟨n, hn⟩ : ∃ n, cnt s = n := ⟨_, rfl⟩
      have hci := cnt_int xs
      rw [hcS, hn] at hci
      have hcb := cntN_bd xs
      have hnb : n ≤ 4096 := by omega
      have HCI := Lib.hid (hci.trans (cntN_ok hshS))
      unfold GaveC at hcnt
      rw [← hci, cntE_ok hshS] at hcnt
      have HN := Lib.hid hn
      have HSS := Lib.hid hshS
      have HSL := Lib.hid hSl
      have hgb0 : w.heap.size + 1 < wr.heap.size := hH.lt
      obtain ⟨g7, hg7⟩ : ∃ g7, wr.heap.size = g7 := ⟨_, rfl⟩
      rw [hg7] at hL0 hgb0
      have hgb : w.heap.size < g7 := by omega
      have HGB := Lib.hid hgb0
      clear hOw hCA hC hCw hH hci hcb hcS hshS hlt hj hn
      go_wp2_with fail
      clear hg7
      refine hcnt.mono ?_
      clear hcnt
      rintro e9 w3 ⟨rfl, hw3⟩
      rw [← hw3] at hL0 hR2
      clear hw3 hSl
      go_wp2
      go_loopw [10] (fun i wr => ∃ j : Nat, j ≤ n ∧ i = .int .i64 j ∧ GatL w wr (w.heap.size + 1) g7 (.slice (some ⟨w.heap.size + 1, 0, none⟩) s.length s.length) xs (tabG j (fun k => (0, plN s (frmL s p k)))) ∧ Bx wr w.heap.size (.slice none 0 0) (.slice none 0 0) (.slice none 0 0)) (fun i _ => n - (intOf i).toNat)
      case atStart => exact ⟨0, Nat.zero_le _, rfl, hL0, hR2⟩
      case round =>
        obtain ⟨j, hj, rfl, hL, hR⟩ := hrel
        clear hL0 hR2
        by_cases hlt : j < n
        · have hlt' : (j : Int) < (n : Int) := by omega
          have hj0 : (0 : Int) ≤ (j : Int) := by omega
          have hkw : IntKind.i64.wrap ((j : Int) + 1) = (j : Int) + 1 := IntWalk.i64_in _ (by omega)
          have hat := r11at_any _ xs j wr (by obtain ⟨_, _, _, h, _⟩ := hL; exact h.os.ls) HSS.out (by omega) (by rw [← HCI.out]; omega)
          have HTS := Lib.hid (tabG_succ j (fun k => ((0 : Int), plN s (frmL s p k))))
          have hfr := HFR.out j
          obtain ⟨ys, hys⟩ : ∃ ys, atL xs (j : Int) = ys := ⟨_, rfl⟩
          have hyl : ys.length = s.length := by rw [← hys, atL_length, HSL.out]
          rw [hys] at hat hfr
          have HL := Lib.hid hL
          have HRo := Lib.hid hR
          have HFr := Lib.hid hfr
          have HYL := Lib.hid hyl
          have HLT := Lib.hid hlt
          have hsz : w.heap.size + 1 ≤ wr.heap.size := by obtain ⟨_, _, h, _⟩ := hL; have := h.lt; have := HGB.out; omega
          have HSZ := Lib.hid hsz
          clear hL hR hys hfr hsz hlt hj
          go_wp2_with fail
          refine hat.mono ?_
          clear hat
          rintro e9 w4 ⟨v4, rfl, ho4, hC4⟩
          obtain ⟨a4, c4, rfl⟩ := own_name ho4
          have HY4 := Lib.hid ho4.ls
          rw [hyl] at HY4 ⊢
          have HC4 := Lib.hid hC4
          clear ho4 hC4 hyl
          go_wp2
          go_loopw [13, 14] (fun tv i wr => ∃ q : Nat, q ≤ s.length ∧ i = .int .i64 q ∧ Own wr w4.heap.size 3 tv ((frmL s p j).take q) ∧ Chg (fun _ => False) w4 wr) (fun _ i _ => s.length - (intOf i).toNat)
          case atStart => exact ⟨0, Nat.zero_le _, rfl, Own.nil _ _ _, Chg.refl _ _⟩
          case round =>
            obtain ⟨q, hq, rfl, hown, hC⟩ := hrel
            have hCwr : Chg (fun _ => False) w wr := by
              obtain ⟨_, _, _, _, _, _, _, h, _⟩ := HL.out
              exact (h.tr HC4.out).tr hC
            by_cases hqt : q < s.length
            · have hm1 : w4.heap.size ≤ wr.heap.size := hC.size
              have hqp : q < p.length := by rw [HPN.out.1]; exact hqt
              obtain ⟨bt, ot, cc, e1, hca⟩ := (HT.out.fr hCwr).at (j := q) (by rw [List.length_map]; exact hqp)
              injection e1 with e1 e2 e3
              clear e2 e3
              subst e1
              rw [List.getElem_map] at hca
              have hab : p[q] < s.length := HPN.out.2.2 _ (List.getElem_mem hqp)
              have hft : (frmL s p j).take (q + 1) = (frmL s p j).take q ++ [ys.getD p[q] 0] := by
                rw [List.take_succ_eq_append_getElem (by rw [HFr.out, List.length_map]; exact hqp)]
                simp only [HFr.out, List.getElem_map]
              generalize p[q] = a at *
              have hay : a < ys.length := by rw [HYL.out]; exact hab
              obtain ⟨by', oy, cy, e1, hcy⟩ := (HY4.out.fr hC).at hay
              injection e1 with e1 e2 e3
              clear e2 e3
              subst e1
              rw [List.getD, List.getElem?_eq_getElem hay, Option.getD_some] at hft
              generalize ys[a] = y at *
              have HTK := Lib.hid hft
              have hpl : ((frmL s p j).take q).length ≤ 4 := by rw [List.length_take]; omega
              generalize (frmL s p j).take q = pre at *
              obtain ⟨al, L, cL, rfl, hLn⟩ := owns_name hown
              have HLL := Lib.hid (show L = pre.length from hLn.out)
              have HPL := Lib.hid hpl
              have hLb : L ≤ 4 := by rw [HLL.out]; exact hpl
              have HO := Lib.hid hown
              have HCr := Lib.hid hC
              have hq0 : (0 : Int) ≤ (q : Int) := by omega
              have hq1 : (q : Int) < (s.length : Int) := by omega
              have ha0 : (0 : Int) ≤ (a : Int) := by omega
              have ha1 : (a : Int) < (s.length : Int) := by omega
              have hkq : IntKind.i64.wrap ((q : Int) + 1) = (q : Int) + 1 := IntWalk.i64_in _ (by omega)
              have HQ := Lib.hid hqt
              clear hown hC hLn hpl hft hCwr hay hab hqp hqt hq
              go_wp2_with (refine wpList_append_own_any (by rfl) (.tmp 58) (.tmp 66) 22 (by rfl) w4.heap.size 3 i0 (.int .i64 0) 1 8 Try.underlying22 hi hz0 hz1 hz2 rfl (by decide) (.slice al L cL) pre.length (pre.map I) (by rfl) (World.ownsRow.alloc HO.out _) (some ⟨wr.heap.size, 0, none⟩) 1 1 [.int .i64 y] (by rfl) rfl (fun j u hu => ⟨_, rfl, cell_one_new wr _ _ j u hu⟩) (by simp [Value.oneCell']) (by have := HPL.out; unfold maxLen; omega) (by have := HPL.out; omega) (by simp; omega) ?_; intro v2 w2 hown2 hg2 _ hO2; have hC2 : Chg (fun _ => False) w4 w2 := ((HCr.out.alloc _).grown hg2 (fun k e => .inr (HO.out.lt k e).1)); have O2 := Lib.hid (own_snoc hown2 rfl); obtain ⟨al2, L2, cl2, rfl, hL2⟩ := owns_name O2.out)
              go_roundw
              case rel => exact ⟨q + 1, HQ.out, by go_num, by rw [HTK.out]; exact O2.out, hC2⟩
              case measure => exact fit_meas q s.length HQ.out
            · obtain rfl : q = s.length := by omega
              rw [List.take_of_length_le (by rw [HFr.out, List.length_map, HPN.out.1]; exact Nat.le_refl _)] at hown
              have hxq := hown.ls
              obtain ⟨al, L, cL, rfl, hLn⟩ := owns_name hown
              have hCq := HC4.out.tr hC
              have hSZ : w.heap.size + 1 ≤ wr.heap.size := Nat.le_trans HSZ.out hCq.size
              obtain ⟨vo, vp, hbx, hG, q3, q4, q5, q6, q7, q8⟩ := HL.out.fr hCq
              obtain ⟨ao1, Lo1, co1, rfl, _⟩ := owns_name hG.oo
              obtain ⟨ap1, Lp1, cp1, rfl, _⟩ := owns_name hG.op
              have hput := r14put_any (w.heap.size + 1) _ _ _ _ _ xs s (frmL s p j) _ _ hG hSZ (HS.out.fr q6) hxq (by rw [tabG_length]; omega)
              have hRq := HRo.out.fr hCq
              obtain ⟨b0, b1, b2, k0, k1, k2⟩ := id hbx
              have no : ¬ (Value.slice ao1 Lo1 co1).ownBlock = some w.heap.size := fun e => by have := (hG.oo.lt _ e).1; omega
              have np : ¬ (Value.slice ap1 Lp1 cp1).ownBlock = some w.heap.size := fun e => by have := (hG.op.lt _ e).1; omega
              have HBX := Lib.hid hbx
              have HG := Lib.hid hG
              have Q3 := Lib.hid q3
              have Q4 := Lib.hid q4
              have Q5 := Lib.hid q5
              have Q6 := Lib.hid q6
              have NO := Lib.hid no
              have NP := Lib.hid np
              have HRQ := Lib.hid hRq
              clear hbx hG q3 q4 q5 q6 no np hRq hCq hxq hown hLn hC hCwr hSZ hqt hq
              go_wp2_with fail
              refine hput.mono ?_
              clear hput b0 b1 b2 k0 k1 k2
              rintro e9 w5 ⟨vo', vp', rfl, hG', hC5, ho', hp'⟩
              obtain ⟨hbx', hLn⟩ := GatL.next HBX.out Q3.out Q4.out Q5.out HG.out Q6.out q7 q8 hG' hC5 ho' hp'
              have hR5 := HRQ.out.chg hC5 (fun h => h.elim NO.out NP.out)
              obtain ⟨ao2, Lo2, co2, rfl, _⟩ := owns_name hG'.oo
              obtain ⟨ap2, Lp2, cp2, rfl, _⟩ := owns_name hG'.op
              obtain ⟨b0, b1, b2, k0, k1, k2⟩ := hbx'
              have HLN := Lib.hid hLn
              have HR5 := Lib.hid (bx_off3 hR5 (b := g7) (by omega) (.slice (some ⟨w.heap.size + 1, 0, none⟩) s.length s.length) (.slice ao2 Lo2 co2) (.slice ap2 Lp2 cp2))
              clear hLn hR5 hG' hC5 ho' hp'
              go_wp2
              go_roundw
              case rel => exact ⟨j + 1, HLT.out, by go_num, by rw [HTS.out]; exact HLN.out, HR5.out⟩
              case measure => exact fit_meas j n HLT.out
        · obtain rfl : j = n := by omega
          have HG1 := Lib.hid (axG_pl HSH.out HP.out)
          rw [HN.out] at HG1
          rw [HG1.out] at hL
          obtain ⟨vo, vp, hbx, hG, q3, q4, q5, q6, q7, q8⟩ := hL
          obtain ⟨ao1, Lo1, co1, rfl, _⟩ := owns_name hG.oo
          obtain ⟨ap1, Lp1, cp1, rfl, _⟩ := owns_name hG.op
          obtain ⟨b0, b1, b2, k0, k1, k2⟩ := hbx
          obtain ⟨z0, z1, z2, x0', x1', x2'⟩ := hR
          obtain ⟨⟨g0, g1⟩, g2⟩ := set3_cells (.slice (some ⟨w.heap.size + 1, 0, none⟩) s.length s.length) (.slice ao1 Lo1 co1) (.slice ap1 Lp1 cp1) z0 z1 z2
          have HG := Lib.hid hG
          have Q6 := Lib.hid q6
          clear hG q3 q4 q5 q6
          go_wp2
          simp [bodyPost, results, Try.results61, go_sem, g0, g1, g2]
          rw [← HXS.out]
          exact leaveGx HG.out (fun q hq => by have := (HG.out.os.lt q hq).1; omega) (fun q hq => by have := (HG.out.oo.lt q hq).1; omega) (fun q hq => by have := (HG.out.op.lt q hq).1; omega) (Nat.le_refl _) (Nat.le_succ _) Q6.out
end Go.Proofs.Ytmmbdhfljabefaa
