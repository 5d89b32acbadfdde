/- The document's window, walked. -/
import Derived.Test.YtceooipljhjpaaaMeG
import Derived.Test.YtceooipljhjpaaaArJ
import Derived.Test.YtceooipljhjpaaaArI
import Derived.Deep.DeepCutAuto
import Derived.RegionTactic
namespace Go.Proofs.Ytceooipljhjpaaa
open Go.RowKit Go.Shelf

def winA (fr long : List Int) (i : Nat) : List Int := List.zipWith (· + ·) (atL long (i : Int)) fr
def winF (s fr long : List Int) (i : Nat) : Int × Int := if plB s (winA fr long i) then (0, plN s (winA fr long i)) else (-1, 0)
def winW (s fr long : List Int) : Wy := if shB long then ⟨long, tabW (cntN long).toNat (winF s fr long), 0⟩ else noW 9
set_option maxRecDepth 100000 in
set_option maxHeartbeats 4000000 in
theorem r13window_any (u v x : Value) (s fr long : List Int) (w : World) (hS : Ls w u s) (hF : Ls w v fr) (hL : Ls w x long) (hfl : fr.length = long.length) (hfb : ∀ y ∈ fr, -10000 ≤ y ∧ y ≤ 10000) (hll : long.length ≤ 1000000) :
    Calls Try.prog 76 #[u, v, x] w (GaveGO w (winW s fr long)) := by
  obtain ⟨i0, hi, hz0, hz1, hz2⟩ := info_parts info_int
  obtain ⟨ao, c, rfl, _⟩ := hS.form
  obtain ⟨af, cf, rfl, _⟩ := hF.form
  obtain ⟨al, cl, rfl, _⟩ := hL.form
  have hC0 := (Chg.refl (fun _ => False) w).alloc (.cells #[.slice none 0 0, .slice none 0 0, .slice none 0 0] 39)
  have hR0 := Bx.new w (.slice none 0 0) (.slice none 0 0) (.slice none 0 0) 39
  have hcnt := r11count_any _ long _ (hL.fr hC0)
  unfold GaveC at hcnt
  cases hsh : shB long with
  | false =>
    rw [cntN_not hsh, cntE_not hsh] at hcnt
    have HSH := Lib.hid hsh
    clear hS hF hL hfl hfb hll hsh
    go_enter Try.func76, Try.ntmps76
    go_wp2_with fail
    refine hcnt.mono ?_
    clear hcnt
    rintro e9 w3 ⟨rfl, rfl⟩
    clear hR0
    go_wp2
    simp [bodyPost, results, Try.results76, go_sem]
    unfold winW
    rw [if_neg (by rw [HSH.out]; decide)]
    exact gx_no0 hC0
  | true =>
    have hcb := cntN_bd long
    obtain ⟨n, hn⟩ := Int.eq_ofNat_of_zero_le hcb.1
    rw [hn, cntE_ok hsh] at hcnt
    have hnb : n ≤ 4096 := by omega
    have HN := Lib.hid hn
    have hin := r11ints_any _ long _ (hL.fr hC0) hll
    have HSH := Lib.hid hsh
    have HPN := Lib.hid (show prodL long = (n : Int) by rw [← hn, cntN_ok hsh])
    have HS := Lib.hid hS
    have HF := Lib.hid hF
    have HL0 := Lib.hid hL
    have HFL := Lib.hid hfl
    have HFB := Lib.hid hfb
    have HLL := Lib.hid (show long.length ≤ 4 from (shB_iff.1 hsh).1)
    clear hS hF hL hfl hfb hll hsh hcb hn
    go_enter Try.func76, Try.ntmps76
    go_wp2_with fail
    refine hcnt.mono ?_
    clear hcnt
    rintro e9 w3 ⟨rfl, rfl⟩
    go_wp2_with fail
    refine hin.mono ?_
    clear hin
    rintro e9 w1 ⟨v1, rfl, ho1, hC1⟩
    obtain ⟨a1, c1, rfl⟩ := own_name ho1
    have hG0 := Gx.start 39 ho1 hC1 (Nat.le_refl _)
    obtain ⟨wA, hwA⟩ : ∃ wA, w.alloc (.cells #[.slice none 0 0, .slice none 0 0, .slice none 0 0] 39) = wA := ⟨_, rfl⟩
    rw [hwA] at hG0 hC0 hR0
    obtain ⟨bs, hbs⟩ : ∃ bs, wA.heap.size = bs := ⟨_, rfl⟩
    have hbb : w.heap.size < bs := by rw [← hbs]; exact hR0.lt
    have hbg : bs ≤ w1.heap.size := by rw [← hbs, ← hwA]; exact hC1.size
    rw [hbs] at hG0
    have HC0 := Lib.hid hC0
    have HR0 := Lib.hid hR0
    have HBB := Lib.hid hbb
    obtain ⟨w2, hw2⟩ : ∃ w2, w1.alloc (.cells #[.slice a1 long.length c1, .slice none 0 0, .slice none 0 0] 39) = w2 := ⟨_, rfl⟩
    rw [hw2] at hG0
    have HW2 := Lib.hid hw2
    obtain ⟨gb, hgb⟩ : ∃ gb, w1.heap.size = gb := ⟨_, rfl⟩
    rw [hgb] at hG0 hbg
    have HGB := Lib.hid hgb
    have HBS := Lib.hid hbg
    have HG0 := Lib.hid hG0
    clear ho1 hC0 hC1 hR0 hbb hbs hwA hw2 hgb hbg hG0
    go_wp2
    rw [HW2.out, HGB.out]
    obtain ⟨f, hf⟩ : ∃ f : Nat → Int × Int, winF s fr long = f := ⟨_, rfl⟩
    have HFF := Lib.hid hf
    clear hf
    go_loopw [11] (fun i wr => ∃ k : Nat, k ≤ n ∧ i = .int .i64 k ∧ ∃ vs vo vp, Gx wA wr bs gb vs vo vp long ((tabW k f).map (·.1)) ((tabW k f).map (·.2))) (fun i _ => n - (intOf i).toNat)
    case atStart => exact ⟨0, Nat.zero_le _, rfl, _, _, _, HG0.out⟩
    case round =>
      obtain ⟨k, hk, rfl, vs, vo, vp, hG⟩ := hrel
      clear HG0
      obtain ⟨wo, rfl⟩ : ∃ wo : World, wo = wr := ⟨_, rfl⟩
      by_cases hlt : k < n
      · have hlt' : (k : Int) < (n : Int) := by omega
        have hk0 : (0 : Int) ≤ (k : Int) := by omega
        have hkw : IntKind.i64.wrap ((k : Int) + 1) = (k : Int) + 1 := IntWalk.i64_in _ (by omega)
        have hat := r11at_any _ long (k : Int) wo (HL0.out.fr (HC0.out.tr hG.ch)) HSH.out hk0 (by rw [HPN.out]; exact hlt')
        obtain ⟨xs, hxs⟩ : ∃ xs, atL long (k : Int) = xs := ⟨_, rfl⟩
        have hxl : xs.length = long.length := by rw [← hxs, atL_length]
        have hxb : ∀ (q : Nat) (h : q < xs.length), 0 ≤ xs[q] ∧ xs[q] ≤ 4096 := by
          intro q h
          have hs4 := shB_iff.1 HSH.out
          have hp := pos_of_prod (s := long) (fun l hl => (hs4.2.1 l hl).1) (by rw [HPN.out]; omega)
          have hq : q < long.length := by omega
          have := atL_bd (s := long) (n := (k : Int)) hp q xs[q] long[q] (by rw [hxs, List.getElem?_eq_getElem h]) (List.getElem?_eq_getElem hq)
          have := hs4.2.1 _ (List.getElem_mem hq)
          omega
        rw [hxs] at hat
        have hff : f k = if plB s (List.zipWith (· + ·) xs fr) then (0, plN s (List.zipWith (· + ·) xs fr)) else (-1, 0) := by rw [← HFF.out]; unfold winF winA; rw [hxs]
        have HFK := Lib.hid hff
        have HXB := Lib.hid hxb
        have HXL := Lib.hid hxl
        have HXF := Lib.hid (show fr.length = xs.length by rw [hxl]; exact HFL.out)
        have HG := Lib.hid hG
        have HLT := Lib.hid hlt
        have hgw := hG.bx.lt
        have HGW := Lib.hid hgw
        clear hG hxs hxl hxb hff hlt hk hgw
        go_wp2_with fail
        refine hat.mono ?_
        clear hat
        rintro e9 w4 ⟨v4, rfl, ho4, hC4⟩
        obtain ⟨a4, c4, rfl⟩ := own_name ho4
        have HO4 := Lib.hid ho4
        have HC4 := Lib.hid hC4
        have hx4 : xs.length ≤ 4 := by rw [HXL.out]; exact HLL.out
        have hz4 : ∀ q, (Value.slice a4 xs.length c4).ownBlock = some q → wo.heap.size ≤ q := fun q hq => (ho4.lt q hq).1
        have HZ4 := Lib.hid hz4
        clear ho4 hC4 hz4
        go_wp2
        go_loopw [14] (fun i wr => ∃ q : Nat, q ≤ xs.length ∧ i = .int .i64 q ∧ Ls wr (.slice a4 xs.length c4) (addT xs fr q) ∧ Wrt wr (.slice a4 xs.length c4) xs.length ∧ Chg (fun _ => False) wo wr) (fun i _ => xs.length - (intOf i).toNat)
        case atStart => exact ⟨0, Nat.zero_le _, rfl, by rw [addT_zero]; exact HO4.out.ls, Wrt.of HO4.out, HC4.out⟩
        case round =>
          obtain ⟨q, hq, rfl, hLs, hWr, hC⟩ := hrel
          by_cases hqt : q < xs.length
          · have hq0 : (0 : Int) ≤ (q : Int) := by omega
            have hq1 : (q : Int) < (xs.length : Int) := by omega
            have hqf : q < fr.length := by rw [HXF.out]; exact hqt
            have hq2 : (q : Int) < (fr.length : Int) := by omega
            have hkq : IntKind.i64.wrap ((q : Int) + 1) = (q : Int) + 1 := IntWalk.i64_in _ (by omega)
            have hal : q < (addT xs fr q).length := by rw [addT_len HXF.out hq]; exact hqt
            obtain ⟨b, o, c9, e1, hc⟩ := hLs.at hal
            injection e1 with e1 e2 e3
            clear e2 e3
            rw [addT_get HXF.out hqt hal] at hc
            obtain ⟨b', o', c8, y, e2, hc', hf'⟩ := hWr q hqt
            injection e2 with e2 e3 e4
            rw [e1] at e2
            injection e2 with e2
            injection e2 with e2 e5 _
            subst e2 e5
            clear e3 e4 hc'
            subst e1
            obtain ⟨bf, of', cf9, e1, hcf⟩ := (HF.out.fr ((HC0.out.tr HG.out.ch).tr hC)).at hqf
            injection e1 with e1 e2 e3
            clear e2 e3
            subst e1
            have HNX := Lib.hid (addT_next HXF.out hqt)
            have hb1 := HXB.out q hqt
            have hb2 := HFB.out _ (List.getElem_mem hqf)
            obtain ⟨y1, hy1⟩ : ∃ y1, xs[q] = y1 := ⟨_, rfl⟩
            obtain ⟨y2, hy2⟩ : ∃ y2, fr[q] = y2 := ⟨_, rfl⟩
            rw [hy1] at hc hb1 HNX
            rw [hy2] at hcf hb2 HNX
            have hws : IntKind.i64.wrap (y1 + y2) = y1 + y2 := IntWalk.i64_in _ (by omega)
            have HS9 := Lib.hid (lsx_set (hLs.fr ((Chg.refl _ wr).drew)) q (y1 + y2))
            have HW9 := Lib.hid ((hWr.chg ((Chg.refl _ wr).drew) (fun _ _ => id)).set ⟨b, o + q, none⟩ (y1 + y2))
            have HC9 := Lib.hid ((hC.drew).setCell (p := ⟨b, o + q, none⟩) (.inr (HZ4.out b rfl)) (.int .i64 (y1 + y2)))
            have HQT := Lib.hid hqt
            clear hLs hWr hC hal hy1 hy2 hb1 hb2 hqt hq hqf
            go_wp2_with fail
            go_region
            all_goals
              go_wp2
              go_roundw
              case rel => exact ⟨q + 1, HQT.out, by go_num, by rw [HNX.out]; exact HS9.out, HW9.out, HC9.out⟩
              case measure => exact fit_meas q xs.length HQT.out
          · obtain rfl : q = xs.length := by omega
            rw [addT_full HXF.out] at hLs
            have hpl := r11place_any _ _ s _ wr (HS.out.fr ((HC0.out.tr HG.out.ch).tr hC)) hLs
            unfold GavePl at hpl
            have HG5 := Lib.hid (HG.out.fr hC)
            have h1 := tabW_1 k f
            have h2 := tabW_2 k f
            rw [HFK.out] at h1 h2
            have hol : ((tabW k f).map (·.1)).length ≤ 1000000 := by rw [List.length_map, tabW_length]; have := HLT.out; omega
            have hpl2 : ((tabW k f).map (·.2)).length ≤ 1000000 := by rw [List.length_map, tabW_length]; have := HLT.out; omega
            clear hLs hWr hC hqt hq
            cases hB : plB s (List.zipWith (· + ·) xs fr) with
            | true =>
              rw [hB] at hpl h1 h2
              rw [if_pos rfl] at h1 h2
              generalize plN s (List.zipWith (· + ·) xs fr) = p at *
              clear hB
              go_wp2_with fail
              refine hpl.mono ?_
              clear hpl
              rintro e9 w6 ⟨rfl, hC6⟩
              have hG := HG5.out.fr hC6
              have HB1 := Lib.hid (app_fit hol)
              have HB2 := Lib.hid (app_fit hpl2)
              have c1 := hG.bx.c1
              have f1 := hG.bx.f1
              have hgw : bs ≤ w6.heap.size := Nat.le_trans HBS.out (Nat.le_of_lt hG.bx.lt)
              generalize (tabW k f).map (·.1) = os at *
              generalize (tabW k f).map (·.2) = ps at *
              obtain ⟨oa, Lo, co, rfl, hL0⟩ := own_nm hG.o
              have HG := Lib.hid hG
              have HL := Lib.hid (fun (z : Int) => le_al hgw (.cells #[.int .i64 z] 3))
              clear hG hC6 hol hpl2 hL0 hgw HG5
              have H1 := Lib.hid h1
              have H2 := Lib.hid h2
              clear h1 h2
              go_upto_region 17 with (refine wpList_append_own_any (by rfl) (.tmp 65) (.tmp 66) 22 (by rfl) bs 3 i0 (.int .i64 0) 1 8 Try.underlying22 hi hz0 hz1 hz2 rfl (by decide) (.slice oa Lo co) os.length (os.map I) (by rfl) (HG.out.o.alloc _) (some ⟨w6.heap.size, 0, none⟩) 1 1 [.int .i64 0] (by rfl) rfl (fun j u hu => ⟨_, rfl, cell_one_new w6 _ _ j u hu⟩) (by simp [Value.oneCell']) HB1.out.1 HB1.out.2 (HL.out _) ?_; intro v4 w4 hown4 hg4 _ hO4; obtain ⟨⟨hd1, hd2⟩, hM4⟩ := HG.out.put1 ((Chg.refl _ w6).alloc _) hg4 hown4 rfl hO4; clear hown4 hg4 hO4; obtain ⟨al4, L4, cl4, rfl, hL4⟩ := own_nm hM4.o)
              generalize w4.setCell ⟨gb, 1, none⟩ (.slice al4 L4 cl4) = w5 at *
              obtain ⟨pa, Lp, cp, rfl, hL5⟩ := own_nm hM4.p
              have c2 := hM4.bx.c2
              have f2 := hM4.bx.f2
              have hgw5 : bs ≤ w5.heap.size := Nat.le_trans HBS.out (Nat.le_of_lt hM4.bx.lt)
              have HG5 := Lib.hid hM4
              clear hM4 hL4 hL5 hd1 hd2 c1 f1
              have HL5 := Lib.hid (le_al hgw5 (.cells #[.int .i64 p] 3))
              clear hgw5
              go_wp2_with (refine wpList_append_own_any (by rfl) (.tmp 75) (.tmp 77) 22 (by rfl) bs 3 i0 (.int .i64 0) 1 8 Try.underlying22 hi hz0 hz1 hz2 rfl (by decide) (.slice pa Lp cp) ps.length (ps.map I) (by rfl) (HG5.out.p.alloc _) (some ⟨w5.heap.size, 0, none⟩) 1 1 [.int .i64 p] (by rfl) rfl (fun j u hu => ⟨_, rfl, cell_one_new w5 _ _ j u hu⟩) (by simp [Value.oneCell']) HB2.out.1 HB2.out.2 HL5.out ?_; intro v7 w7 hown6 hg6 _ hO6; obtain ⟨⟨hd1, hd2⟩, hM6⟩ := HG5.out.put2 ((Chg.refl _ w5).alloc _) hg6 hown6 rfl hO6; obtain ⟨al6, L6, cl6, rfl, hL6⟩ := own_nm hM6.p)
              go_roundw
              case rel => exact ⟨k + 1, HLT.out, by go_num, _, _, _, by rw [H1.out, H2.out]; exact hM6⟩
              case measure => exact fit_meas k n HLT.out
            | false =>
              rw [hB] at hpl h1 h2
              rw [if_neg (by decide)] at h1 h2
              rw [plN_not hB] at hpl
              clear hB
              go_wp2_with fail
              refine hpl.mono ?_
              clear hpl
              rintro e9 w6 ⟨rfl, hC6⟩
              have hG := HG5.out.fr hC6
              have HB1 := Lib.hid (app_fit hol)
              have HB2 := Lib.hid (app_fit hpl2)
              have c1 := hG.bx.c1
              have f1 := hG.bx.f1
              have hgw : bs ≤ w6.heap.size := Nat.le_trans HBS.out (Nat.le_of_lt hG.bx.lt)
              generalize (tabW k f).map (·.1) = os at *
              generalize (tabW k f).map (·.2) = ps at *
              obtain ⟨oa, Lo, co, rfl, hL0⟩ := own_nm hG.o
              have HG := Lib.hid hG
              have HL := Lib.hid (fun (z : Int) => le_al hgw (.cells #[.int .i64 z] 3))
              clear hG hC6 hol hpl2 hL0 hgw HG5
              have H1 := Lib.hid h1
              have H2 := Lib.hid h2
              clear h1 h2
              go_upto_region 17 with (refine wpList_append_own_any (by rfl) (.tmp 70) (.tmp 71) 22 (by rfl) bs 3 i0 (.int .i64 0) 1 8 Try.underlying22 hi hz0 hz1 hz2 rfl (by decide) (.slice oa Lo co) os.length (os.map I) (by rfl) (HG.out.o.alloc _) (some ⟨w6.heap.size, 0, none⟩) 1 1 [.int .i64 (-1)] (by rfl) rfl (fun j u hu => ⟨_, rfl, cell_one_new w6 _ _ j u hu⟩) (by simp [Value.oneCell']) HB1.out.1 HB1.out.2 (HL.out _) ?_; intro v4 w4 hown4 hg4 _ hO4; obtain ⟨⟨hd1, hd2⟩, hM4⟩ := HG.out.put1 ((Chg.refl _ w6).alloc _) hg4 hown4 rfl hO4; clear hown4 hg4 hO4; obtain ⟨al4, L4, cl4, rfl, hL4⟩ := own_nm hM4.o)
              generalize w4.setCell ⟨gb, 1, none⟩ (.slice al4 L4 cl4) = w5 at *
              obtain ⟨pa, Lp, cp, rfl, hL5⟩ := own_nm hM4.p
              have c2 := hM4.bx.c2
              have f2 := hM4.bx.f2
              have hgw5 : bs ≤ w5.heap.size := Nat.le_trans HBS.out (Nat.le_of_lt hM4.bx.lt)
              have HG5 := Lib.hid hM4
              clear hM4 hL4 hL5 hd1 hd2 c1 f1
              have HL5 := Lib.hid (le_al hgw5 (.cells #[.int .i64 0] 3))
              clear hgw5
              go_wp2_with (refine wpList_append_own_any (by rfl) (.tmp 75) (.tmp 77) 22 (by rfl) bs 3 i0 (.int .i64 0) 1 8 Try.underlying22 hi hz0 hz1 hz2 rfl (by decide) (.slice pa Lp cp) ps.length (ps.map I) (by rfl) (HG5.out.p.alloc _) (some ⟨w5.heap.size, 0, none⟩) 1 1 [.int .i64 0] (by rfl) rfl (fun j u hu => ⟨_, rfl, cell_one_new w5 _ _ j u hu⟩) (by simp [Value.oneCell']) HB2.out.1 HB2.out.2 HL5.out ?_; intro v7 w7 hown6 hg6 _ hO6; obtain ⟨⟨hd1, hd2⟩, hM6⟩ := HG5.out.put2 ((Chg.refl _ w5).alloc _) hg6 hown6 rfl hO6; obtain ⟨al6, L6, cl6, rfl, hL6⟩ := own_nm hM6.p)
              go_roundw
              case rel => exact ⟨k + 1, HLT.out, by go_num, _, _, _, by rw [H1.out, H2.out]; exact hM6⟩
              case measure => exact fit_meas k n HLT.out
      · obtain rfl : k = n := by omega
        obtain ⟨z0, z1, z2, k0, k1, k2⟩ := HR0.out.fr hG.ch
        obtain ⟨sa1, Ls1, cs1, rfl, hL1⟩ := own_nm hG.s
        obtain ⟨oa1, Lo1, co1, rfl, hL2⟩ := own_nm hG.o
        obtain ⟨pa1, Lp1, cp1, rfl, hL3⟩ := own_nm hG.p
        obtain ⟨⟨g0, g1⟩, g2⟩ := set3_cells (.slice sa1 Ls1 cs1) (.slice oa1 Lo1 co1) (.slice pa1 Lp1 cp1) z0 z1 z2
        obtain ⟨b0, b1, b2, k3, k4, k5⟩ := id hG.bx
        have HG := Lib.hid (hG.up HC0.out)
        clear hG hlt hk hL1 hL2 hL3
        go_wp2
        simp [bodyPost, results, Try.results76, go_sem, g0, g1, g2]
        unfold winW
        rw [if_pos HSH.out, HN.out, HFF.out]
        exact HG.out.leave (Nat.le_refl _) HBB.out rfl rfl
end Go.Proofs.Ytceooipljhjpaaa
