/- turn: the document's reverse, walked. -/
import Derived.Test.YtmmbdhfljabefaaTrE
import Derived.BigRegion
namespace Go.Proofs.Ytmmbdhfljabefaa
open Go.RowKit Go.Shelf

theorem leaveG {w W : World} {base rb : Nat} {vs vo vp : Value} {s : List Int} {g : List (Int × Int)} {n : Int} (hG : GatB W base vs vo vp s g) (h3 : ∀ q, vs.ownBlock = some q → q ≠ rb) (h4 : ∀ q, vo.ownBlock = some q → q ≠ rb) (h5 : ∀ q, vp.ownBlock = some q → q ≠ rb) (hr : w.heap.size ≤ rb) (hC : Chg (fun _ => False) w W) :
    GaveG w ⟨s, g, n⟩ (.returned (.tuple #[.agg #[vs, vo, vp], .int .i64 n])) (((W.setCell ⟨rb, 0, none⟩ vs).setCell ⟨rb, 1, none⟩ vo).setCell ⟨rb, 2, none⟩ vp) :=
  ⟨_, rfl, ⟨vs, vo, vp, rfl, (own_off3 hG.os _ _ _ h3).ls, (own_off3 hG.oo _ _ _ h4).ls, (own_off3 hG.op _ _ _ h5).ls⟩, chg_set3 hC hr _ _ _⟩
theorem leaveG0 {w W : World} {rb : Nat} {n : Int} (hr : w.heap.size ≤ rb) (hC : Chg (fun _ => False) w W) :
    GaveG w (noW n) (.returned (.tuple #[.agg #[.slice none 0 0, .slice none 0 0, .slice none 0 0], .int .i64 n])) (((W.setCell ⟨rb, 0, none⟩ (.slice none 0 0)).setCell ⟨rb, 1, none⟩ (.slice none 0 0)).setCell ⟨rb, 2, none⟩ (.slice none 0 0)) :=
  ⟨_, rfl, ⟨_, _, _, rfl, Ls.nil _, Ls.nil _, Ls.nil _⟩, chg_set3 hC hr _ _ _⟩
theorem bx_off3 {W : World} {b g : Nat} {v0 v1 v2 : Value} (h : Bx W g v0 v1 v2) (hb : b ≠ g) (u0 u1 u2 : Value) : Bx (((W.setCell ⟨b, 0, none⟩ u0).setCell ⟨b, 1, none⟩ u1).setCell ⟨b, 2, none⟩ u2) g v0 v1 v2 :=
  ((h.chg (chg_at W b 0 u0) (fun e => hb e.symm)).chg (chg_at _ b 1 u1) (fun e => hb e.symm)).chg (chg_at _ b 2 u2) (fun e => hb e.symm)
set_option maxRecDepth 100000 in
set_option maxHeartbeats 3000000 in
theorem r14rev_any (v : Value) (s : List Int) (w : World) (hS : Ls w v s) (hl : s.length ≤ 1000000) : Calls Try.prog 19 #[v] w (GaveG w (revW s)) := by
  obtain ⟨ao, c, rfl, _⟩ := hS.form
  have hC0 := (Chg.refl (fun _ => False) w).alloc (.cells #[.slice none 0 0, .slice none 0 0, .slice none 0 0] 38)
  have hR0 := Bx.new w (.slice none 0 0) (.slice none 0 0) (.slice none 0 0) 38
  have hmay := r14may_any _ s _ (hS.fr hC0)
  cases hsh : shB s with
  | false =>
    rw [hsh] at hmay
    have HR := Lib.hid (show revW s = noW 110 by unfold revW toldW; rw [hsh]; rfl)
    clear hsh hS
    go_enter Try.func19, Try.ntmps19
    go_wp2_with fail
    refine hmay.mono ?_
    clear hmay
    rintro e9 w1 ⟨rfl, hC1⟩
    obtain ⟨z0, z1, z2, x0', x1', x2'⟩ := hR0.fr hC1
    obtain ⟨⟨g0, g1⟩, g2⟩ := set3_cells (.slice none 0 0) (.slice none 0 0) (.slice none 0 0) z0 z1 z2
    go_wp2
    simp [bodyPost, results, Try.results19, go_sem, g0, g1, g2]
    rw [HR.out]
    exact leaveG0 (Nat.le_refl _) (hC0.tr hC1)
  | true =>
    rw [hsh] at hmay
    have HR := Lib.hid (show revW s = ⟨s, revG s, 0⟩ by unfold revW toldW; rw [hsh]; rfl)
    have HGE := Lib.hid (revG_eq hsh)
    have hci := cnt_int s
    have hcb := cntN_bd s
    have hE := cntE_ok hsh
    have hcn := cntN_ok hsh
    have hs4 := (shB_iff.1 hsh).1
    have HSH := Lib.hid hsh
    have HS := Lib.hid hS
    obtain ⟨n, hn⟩ : ∃ n, cnt s = n := ⟨_, rfl⟩
    have HN := Lib.hid hn
    rw [hn] at hci
    have hnb : n ≤ 4096 := by omega
    have HCI := Lib.hid (hci.trans hcn)
    clear hsh hS hn
    go_enter Try.func19, Try.ntmps19
    go_wp2_with fail
    refine hmay.mono ?_
    clear hmay
    rintro e9 w1 ⟨rfl, hC1⟩
    have hin := r11ints_any _ s w1 (HS.out.fr (hC0.tr hC1)) hl
    have hsz1 := hC1.size
    rw [World.size_alloc] at hsz1
    go_wp2_with fail
    refine hin.mono ?_
    clear hin
    rintro e9 w2 ⟨v2, rfl, ho2, hC2⟩
    obtain ⟨a2, c2, rfl⟩ := own_name ho2
    have hC02 := (hC0.tr hC1).tr hC2
    have hgw : w.heap.size < w2.heap.size := by have := hC2.size; omega
    have hL0 := GatL.start (t := 38) (ho2.mono (b2 := w.heap.size + 1) hsz1) hC02 (Nat.le_succ _)
    have hC03 := hC02.alloc (.cells #[.slice a2 s.length c2, .slice none 0 0, .slice none 0 0] 38)
    have hcnt := r11count_any _ s _ (HS.out.fr hC03)
    have hR2 := (hR0.fr (hC1.tr hC2)).fr ((Chg.refl _ _).alloc (.cells #[.slice a2 s.length c2, .slice none 0 0, .slice none 0 0] 38))
    have hrb : ∀ q, (Value.slice a2 s.length c2).ownBlock = some q → w.heap.size < q := fun q hq => by have := (ho2.lt q hq).1; omega
    unfold GaveC at hcnt
    rw [← hci, hE] at hcnt
    have HRB := Lib.hid hrb
    clear ho2 hC1 hC2 hC0 hR0 hE hcn hcb hci hrb
    go_wp2_with fail
    refine hcnt.mono ?_
    clear hcnt
    rintro e9 w3 ⟨rfl, hw3⟩
    rw [← hw3] at hL0 hC03 hR2
    have hgb : w2.heap.size < w3.heap.size := by rw [hw3]; simp
    clear hw3 hC02
    go_wp2
    go_loopw [7] (fun i wr => ∃ j : Nat, j ≤ n ∧ i = .int .i64 j ∧ GatL w wr (w.heap.size + 1) w2.heap.size (.slice a2 s.length c2) s (tabG j (fun i => (0, plN s (revP s i)))) ∧ Bx wr w.heap.size (.slice none 0 0) (.slice none 0 0) (.slice none 0 0)) (fun i _ => n - (intOf i).toNat)
    case atStart => exact ⟨0, Nat.zero_le _, rfl, hL0, hR2⟩
    case round =>
      obtain ⟨j, hj, rfl, hL, hR⟩ := hrel
      clear hL0 hR2
      have hC : Chg (fun _ => False) w wr := by obtain ⟨_, _, _, _, _, _, _, h, _⟩ := hL; exact h
      by_cases hlt : j < n
      · have hlt' : (j : Int) < (n : Int) := by omega
        have hkw : IntKind.i64.wrap ((j : Int) + 1) = (j : Int) + 1 := IntWalk.i64_in _ (by omega)
        have hat := r11at_any _ s j wr (HS.out.fr hC) HSH.out (by omega) (by rw [← HCI.out]; omega)
        have HTS := Lib.hid (tabG_succ j (fun i => ((0 : Int), plN s (revP s i))))
        have HL := Lib.hid hL
        obtain ⟨xs, hxs⟩ : ∃ xs, atL s (j : Int) = xs := ⟨_, rfl⟩
        have hxl : xs.length = s.length := by rw [← hxs, atL_length]
        rw [hxs] at hat
        have HX := Lib.hid hxs
        clear hL hxs
        go_wp2_with fail
        refine hat.mono ?_
        clear hat
        rintro e9 w4 ⟨v4, rfl, ho4, hC4⟩
        obtain ⟨a4, c4, rfl⟩ := own_name ho4
        by_cases hs0 : s = []
        · have hx0 : xs = [] := List.eq_nil_of_length_eq_zero (by rw [hxl, hs0]; rfl)
          have hrp : revP s j = xs := by unfold revP; rw [if_pos hs0, hx0]
          rw [hrp] at HTS
          have hCq := hC4
          have hxq := ho4.ls
          have hxl0 : ¬ 0 < xs.length := by rw [hx0]; simp
          have hzz : w.heap.size + 1 ≤ w4.heap.size := by have := hC4.size; have := hC.size; have := hR.lt; omega
          clear hx0 hrp ho4 hC4 hs0 hC hxl
          obtain ⟨vo, vp, hbx, hG, q3, q4, q5, q6, q7, q8⟩ := HL.out.fr hCq
          obtain ⟨ao1, Lo1, co1, rfl, _⟩ := owns_name hG.oo
          obtain ⟨ap1, Lp1, cp1, rfl, _⟩ := owns_name hG.op
          have hput := r14put_any (w.heap.size + 1) _ _ _ _ _ s s xs _ _ hG hzz (HS.out.fr q6) hxq (by rw [tabG_length]; omega)
          have hRq := hR.fr hCq
          obtain ⟨b0, b1, b2, k0, k1, k2⟩ := id hbx
          have no : ¬ (Value.slice ao1 Lo1 co1).ownBlock = some w.heap.size := fun e => by have := (hG.oo.lt _ e).1; omega
          have np : ¬ (Value.slice ap1 Lp1 cp1).ownBlock = some w.heap.size := fun e => by have := (hG.op.lt _ e).1; omega
          have HBX := Lib.hid hbx
          have HG := Lib.hid hG
          have Q3 := Lib.hid q3
          have Q4 := Lib.hid q4
          have Q5 := Lib.hid q5
          have Q6 := Lib.hid q6
          have NO := Lib.hid no
          have NP := Lib.hid np
          have HRQ := Lib.hid hRq
          clear hbx hG q3 q4 q5 q6 no np hRq hR hCq hxq
          go_wp2_with fail
          refine hput.mono ?_
          clear hput b0 b1 b2 k0 k1 k2
          rintro e9 w5 ⟨vo', vp', rfl, hG', hC5, ho', hp'⟩
          obtain ⟨hbx', hLn⟩ := GatL.next HBX.out Q3.out Q4.out Q5.out HG.out Q6.out q7 q8 hG' hC5 ho' hp'
          have hR5 := HRQ.out.chg hC5 (fun h => h.elim NO.out NP.out)
          obtain ⟨ao2, Lo2, co2, rfl, _⟩ := owns_name hG'.oo
          obtain ⟨ap2, Lp2, cp2, rfl, _⟩ := owns_name hG'.op
          obtain ⟨b0, b1, b2, k0, k1, k2⟩ := hbx'
          have HLN := Lib.hid hLn
          have HR5 := Lib.hid (bx_off3 hR5 (b := w2.heap.size) (by omega) (.slice a2 s.length c2) (.slice ao2 Lo2 co2) (.slice ap2 Lp2 cp2))
          clear hLn hR5 hG' hC5 ho' hp'
          go_wp2
          go_roundw
          case rel => exact ⟨j + 1, hlt, by go_num, by rw [HTS.out]; exact HLN.out, HR5.out⟩
          case measure => exact fit_meas j n hlt
        · obtain ⟨jj, hjj⟩ : ∃ jj, s.length - 1 = jj := ⟨_, rfl⟩
          have hjl : jj < s.length := by have := List.length_pos_iff.2 hs0; omega
          have hjx : jj < xs.length := by omega
          obtain ⟨b4, o4, c4', e1, hc4⟩ := ho4.ls.at hjx
          obtain ⟨b5, o5, c5', e2, hc5⟩ := ((HS.out.fr hC).fr hC4).at hjl
          obtain ⟨b6, o6, c6', x6, e3, hc6, hf4⟩ := (Wrt.of ho4) jj hjx
          injection e1 with e1 e4 e5
          injection e2 with e2 e6 e7
          clear e4 e5 e6 e7
          subst e1
          injection e3 with e3 e4 e5
          clear e4 e5 hc6
          injection e3 with e3
          injection e3 with e3 e4 e5
          clear e5
          subst e2 e3 e4
          have hpos := pos_of_prod (s := s) (fun l hl => ((shB_iff.1 HSH.out).2.1 l hl).1) (by rw [← HCI.out]; omega)
          have hm1 : s[jj] = rowN s := by subst hjj; exact (rowN_last hs0).2 _
          have hx1 : xs[jj] = (j : Int) % rowN s := by
            have := at_lastval hs0 hpos (j : Int) (by rw [atL_length]; omega)
            subst hjj
            simp only [HX.out] at this
            exact this
          have hrp : revP s j = xs.set jj (rowN s - 1 - (j : Int) % rowN s) := by unfold revP; rw [if_neg hs0, HX.out, hjj]
          obtain ⟨p1, p2, p3⟩ := ediv_lt_cnt HSH.out (i := j) (by rw [HN.out]; exact hlt)
          have r1 := Int.emod_nonneg (j : Int) (show rowN s ≠ 0 by omega)
          have r2 := Int.emod_lt_of_pos (j : Int) p1
          rw [hm1] at hc5
          rw [hx1] at hc4
          rw [hrp] at HTS
          generalize (j : Int) % rowN s = r at *
          generalize rowN s = m at *
          have hb4 : wr.heap.size ≤ b4 := (ho4.lt b4 rfl).1
          have hCq : Chg (fun _ => False) wr (w4.setCell ⟨b4, o4 + jj, none⟩ (.int .i64 (m - 1 - r))).drew := (hC4.setCell (p := ⟨b4, o4 + jj, none⟩) (.inr hb4) _).drew
          have hxq : Ls (w4.setCell ⟨b4, o4 + jj, none⟩ (.int .i64 (m - 1 - r))).drew (.slice (some ⟨b4, o4, none⟩) xs.length c4) (xs.set jj (m - 1 - r)) := (ls_set ho4.ls jj (m - 1 - r)).fr ((Chg.refl _ _).drew)
          have hxl0 : 0 < xs.length := by omega
          have hzz : w.heap.size + 1 ≤ (w4.setCell ⟨b4, o4 + jj, none⟩ (.int .i64 (m - 1 - r))).drew.heap.size := by have := hCq.size; have := hC.size; have := hR.lt; omega
          have e10 : IntKind.i64.wrap ((xs.length : Int) - 1) = (jj : Int) := (IntWalk.i64_in _ (by omega)).trans (by omega)
          have e11 : IntKind.i64.wrap (m - 1) = m - 1 := IntWalk.i64_in _ (by omega)
          have e12 : IntKind.i64.wrap (m - 1 - r) = m - 1 - r := IntWalk.i64_in _ (by omega)
          have i0 : (0 : Int) ≤ (jj : Int) := by omega
          have i1 : (jj : Int) < (s.length : Int) := by omega
          have i2 : (jj : Int) < (xs.length : Int) := by omega
          have hb5 : b5 < w4.heap.size := cell_lt hc5
          have HC4 := Lib.hid hc4
          clear hm1 hx1 hrp ho4 hC4 hs0 hC hxl hjj hpos
          obtain ⟨vo, vp, hbx, hG, q3, q4, q5, q6, q7, q8⟩ := HL.out.fr hCq
          obtain ⟨ao1, Lo1, co1, rfl, _⟩ := owns_name hG.oo
          obtain ⟨ap1, Lp1, cp1, rfl, _⟩ := owns_name hG.op
          have hput := r14put_any (w.heap.size + 1) _ _ _ _ _ s s (xs.set jj (m - 1 - r)) _ _ hG hzz (HS.out.fr q6) hxq (by rw [tabG_length]; omega)
          have hRq := hR.fr hCq
          obtain ⟨b0, b1, b2, k0, k1, k2⟩ := id hbx
          have no : ¬ (Value.slice ao1 Lo1 co1).ownBlock = some w.heap.size := fun e => by have := (hG.oo.lt _ e).1; omega
          have np : ¬ (Value.slice ap1 Lp1 cp1).ownBlock = some w.heap.size := fun e => by have := (hG.op.lt _ e).1; omega
          have HBX := Lib.hid hbx
          have HG := Lib.hid hG
          have Q3 := Lib.hid q3
          have Q4 := Lib.hid q4
          have Q5 := Lib.hid q5
          have Q6 := Lib.hid q6
          have NO := Lib.hid no
          have NP := Lib.hid np
          have HRQ := Lib.hid hRq
          clear hbx hG q3 q4 q5 q6 no np hRq hR hCq hxq
          go_wp2_with fail; go_region; go_wp2_with fail
          refine hput.mono ?_
          clear hput b0 b1 b2 k0 k1 k2
          rintro e9 w5 ⟨vo', vp', rfl, hG', hC5, ho', hp'⟩
          obtain ⟨hbx', hLn⟩ := GatL.next HBX.out Q3.out Q4.out Q5.out HG.out Q6.out q7 q8 hG' hC5 ho' hp'
          have hR5 := HRQ.out.chg hC5 (fun h => h.elim NO.out NP.out)
          obtain ⟨ao2, Lo2, co2, rfl, _⟩ := owns_name hG'.oo
          obtain ⟨ap2, Lp2, cp2, rfl, _⟩ := owns_name hG'.op
          obtain ⟨b0, b1, b2, k0, k1, k2⟩ := hbx'
          have HLN := Lib.hid hLn
          have HR5 := Lib.hid (bx_off3 hR5 (b := w2.heap.size) (by omega) (.slice a2 s.length c2) (.slice ao2 Lo2 co2) (.slice ap2 Lp2 cp2))
          clear hLn hR5 hG' hC5 ho' hp'
          go_wp2
          go_roundw
          case rel => exact ⟨j + 1, hlt, by go_num, by rw [HTS.out]; exact HLN.out, HR5.out⟩
          case measure => exact fit_meas j n hlt
      · obtain rfl : j = n := by omega
        have HG1 := Lib.hid HGE.out
        rw [HN.out] at HG1
        rw [HG1.out] at hL
        obtain ⟨vo, vp, hbx, hG, q3, q4, q5, q6, q7, q8⟩ := hL
        obtain ⟨ao1, Lo1, co1, rfl, _⟩ := owns_name hG.oo
        obtain ⟨ap1, Lp1, cp1, rfl, _⟩ := owns_name hG.op
        obtain ⟨b0, b1, b2, k0, k1, k2⟩ := hbx
        obtain ⟨z0, z1, z2, x0', x1', x2'⟩ := hR
        obtain ⟨⟨g0, g1⟩, g2⟩ := set3_cells (.slice a2 s.length c2) (.slice ao1 Lo1 co1) (.slice ap1 Lp1 cp1) z0 z1 z2
        have HG := Lib.hid hG
        have Q6 := Lib.hid q6
        clear hG q3 q4 q5 q6 hC
        go_wp2
        simp [bodyPost, results, Try.results19, go_sem, g0, g1, g2]
        rw [HR.out]
        exact leaveG HG.out (fun q hq => by have := (HG.out.os.lt q hq).1; omega) (fun q hq => by have := (HG.out.oo.lt q hq).1; omega) (fun q hq => by have := (HG.out.op.lt q hq).1; omega) (Nat.le_refl _) Q6.out
end Go.Proofs.Ytmmbdhfljabefaa
