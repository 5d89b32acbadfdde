/- The document's reshape, walked. -/
import Derived.Test.YtceooipljhjpaaaMdH
import Derived.Test.YtceooipljhjpaaaMeG
import Derived.Deep.DeepCutAuto
namespace Go.Proofs.Ytceooipljhjpaaa
open Go.RowKit Go.Shelf

theorem bth_rs {L : Ar} {s : List Int} (h : bthE L s ≠ 0) : rsW L s = noW (bthE L s) := by
  unfold rsW
  unfold bthE at h ⊢
  split
  · rename_i q
    rw [if_pos q] at h
    rw [if_neg h]
  · rfl
theorem bth_ok {L : Ar} {s : List Int} (h : bthE L s = 0) : shB s = true ∧ lstE L = 0 ∧ bthL L s = L.e := by
  refine ⟨?_, ?_, by unfold bthL; rw [if_pos h]⟩
  · unfold bthE at h
    split at h
    · assumption
    · cases h
  · unfold bthE at h
    split at h
    · exact h
    · cases h
theorem neg_take {xs : List Int} {j : Nat} (hj : j < xs.length) (h : (xs.take j).any negB = false) (h2 : ¬ xs[j] < 0) : (xs.take (j + 1)).any negB = false := by
  rw [List.take_succ_eq_append_getElem hj, List.any_append, h]
  simp [negB]
  omega
theorem neg_of {xs : List Int} {j : Nat} (hj : j < xs.length) (h2 : xs[j] < 0) : xs.any negB = true := List.any_eq_true.2 ⟨xs[j], List.getElem_mem hj, decide_eq_true h2⟩
theorem lenP_map {xs : List Int} (h : xs.any negB = false) : xs.map lenP = xs.map lenC := by
  refine List.map_congr_left fun x hx => ?_
  have := List.any_eq_false.1 h x hx
  simp only [negB, decide_eq_true_eq] at this
  unfold lenP lenC
  by_cases h4 : 4096 < x
  · rw [if_pos h4, if_pos (.inl h4)]
  · rw [if_neg h4, if_neg (by omega)]
set_option maxRecDepth 100000 in
set_option maxHeartbeats 4000000 in
theorem r13resh_any (u v : Value) (L : Ar) (s : List Int) (w : World) (hL : Ara w u L) (hS : Ls w v s) (hle : L.e.length ≤ 1000000) : Calls Try.prog 19 #[u, v] w (GaveGO w (rsW L s)) := by
  obtain ⟨i0, hi, hz0, hz1, hz2⟩ := info_parts info_int
  have hL' := hL
  obtain ⟨vs, ve, rfl, hs, he⟩ := hL
  obtain ⟨sa, cs, rfl, _⟩ := hs.form
  obtain ⟨ae, ce, rfl, _⟩ := he.form
  obtain ⟨ao, c, rfl, _⟩ := hS.form
  have hC0 := ((Chg.refl (fun _ => False) w).alloc (.cells #[.int .i64 L.k, .slice sa L.s.length cs, .slice ae L.e.length ce] 25)).alloc (.cells #[.slice none 0 0, .slice none 0 0, .slice none 0 0] 39)
  have hR0 := Bx.new (w.alloc (.cells #[.int .i64 L.k, .slice sa L.s.length cs, .slice ae L.e.length ce] 25)) (.slice none 0 0) (.slice none 0 0) (.slice none 0 0) 39
  rw [World.size_alloc] at hR0
  have x0 := alloc_cell (new_cell w #[.int .i64 L.k, .slice sa L.s.length cs, .slice ae L.e.length ce] 25 (i := 0) rfl) (.cells #[.slice none 0 0, .slice none 0 0, .slice none 0 0] 39)
  have x1 := alloc_cell (new_cell w #[.int .i64 L.k, .slice sa L.s.length cs, .slice ae L.e.length ce] 25 (i := 1) rfl) (.cells #[.slice none 0 0, .slice none 0 0, .slice none 0 0] 39)
  have x2 := alloc_cell (new_cell w #[.int .i64 L.k, .slice sa L.s.length cs, .slice ae L.e.length ce] 25 (i := 2) rfl) (.cells #[.slice none 0 0, .slice none 0 0, .slice none 0 0] 39)
  have hbt := r13both_any _ _ L s _ (hL'.fr hC0) (hS.fr hC0) hle
  have hcs := fun w' h => r11count_any _ s w' (hS.fr (hC0.tr h))
  unfold GaveC at hcs
  by_cases hE : bthE L s = 0
  · obtain ⟨hsh, hl0, hbl⟩ := bth_ok hE
    rw [hE, hbl] at hbt
    have hrs : rsW L s = if L.e.any negB then noW 5 else limW (rsS L) (rsG L s) := by unfold rsW; rw [if_pos hsh, if_pos hl0]
    have HRS := Lib.hid hrs
    have hcm := cntN_bd s
    have hce := cntE_ok hsh
    rw [hce] at hcs
    obtain ⟨m, hm⟩ : ∃ m, cntN s = m := ⟨_, rfl⟩
    rw [hm] at hcs hcm
    have HM := Lib.hid hm
    have HCS := Lib.hid hcs
    clear hL' hS hs he hsh hl0 hbl hrs hE hce hm hcs
    go_enter Try.func19, Try.ntmps19
    go_wp2_with fail
    refine hbt.mono ?_
    clear hbt x0 x1 x2
    rintro e9 w1 ⟨v1, rfl, ho1, hC1⟩
    obtain ⟨a1, c1, rfl⟩ := own_name ho1
    have hR1 := hR0.fr hC1
    have hG0 := Gx.start (w0 := w1) 39 (Own.nil w1 w1.heap.size 3) (Chg.refl _ w1) (Nat.le_refl _)
    have hrb : w.heap.size + 1 < w1.heap.size := hR1.lt
    have HX := Lib.hid ho1.ls
    obtain ⟨w2, hw2⟩ : ∃ w2, w1.alloc (.cells #[.slice none 0 0, .slice none 0 0, .slice none 0 0] 39) = w2 := ⟨_, rfl⟩
    rw [hw2] at hG0
    have HW2 := Lib.hid hw2
    have HCW := Lib.hid (hC0.tr hC1)
    have HC1 := Lib.hid hC1
    have HRB := Lib.hid hrb
    have HR1 := Lib.hid hR1
    have hg0 := hG0.bx.lt
    have HG0 := Lib.hid hG0
    clear ho1 hC0 hC1 hR0 hR1 hw2 hG0 hrb hg0
    go_wp2
    rw [HW2.out]
    obtain ⟨gb, hgb⟩ : ∃ gb, w1.heap.size = gb := ⟨_, rfl⟩
    rw [hgb] at HG0 HRB ⊢
    have HGB := Lib.hid hgb
    clear hgb
    go_loopw [9] (fun i wr => ∃ j : Nat, j ≤ L.e.length ∧ i = .int .i64 j ∧ (L.e.take j).any negB = false ∧ ∃ vs vo vp, Gx w1 wr gb gb vs vo vp ((L.e.take j).map lenP) [] []) (fun i _ => L.e.length - (intOf i).toNat)
    case atStart => exact ⟨0, Nat.zero_le _, rfl, rfl, _, _, _, HG0.out⟩
    case round =>
      obtain ⟨j, hj, rfl, hng, vs, vo, vp, hG⟩ := hrel
      by_cases hlt : j < L.e.length
      · have hlt' : (j : Int) < (L.e.length : Int) := by omega
        have hj0 : (0 : Int) ≤ (j : Int) := by omega
        have hkw : IntKind.i64.wrap ((j : Int) + 1) = (j : Int) + 1 := IntWalk.i64_in _ (by omega)
        obtain ⟨b, o, c', e1, hcell⟩ := (HX.out.fr hG.ch).at hlt
        injection e1 with e1 e2 e3
        clear e2 e3
        subst e1
        have hneg := neg_of (xs := L.e) hlt
        have hnt := neg_take hlt hng
        have hT : (L.e.take (j + 1)).map lenP = (L.e.take j).map lenP ++ [lenP L.e[j]] := take_map _ _ _ hlt
        have htl : ((L.e.take j).map lenP).length ≤ 1000000 := by simp; omega
        obtain ⟨x, hx⟩ : ∃ x, L.e[j] = x := ⟨_, rfl⟩
        rw [hx] at hcell hneg hnt hT
        have HT := Lib.hid hT
        generalize (L.e.take j).map lenP = ts at *
        by_cases hx0 : x < 0
        · have HN := Lib.hid (hneg hx0)
          obtain ⟨z0, z1, z2, f0, f1, f2⟩ := HR1.out.fr hG.ch
          obtain ⟨⟨g0, g1⟩, g2⟩ := set3_cells (.slice none 0 0) (.slice none 0 0) (.slice none 0 0) z0 z1 z2
          have HCh := Lib.hid hG.ch
          clear hG hneg hnt hng htl hx hT
          go_wp2
          simp [bodyPost, results, Try.results19, go_sem, g0, g1, g2]
          rw [HRS.out, if_pos HN.out]
          exact gx_no (Nat.le_succ _) (HCW.out.tr HCh.out)
        · obtain ⟨al, Ll, cl, rfl, hL0⟩ := own_nm hG.s
          have c0 := hG.bx.c0
          have f0 := hG.bx.f0
          have hfl := fun w' => r13length_any x w'
          have HB := Lib.hid (app_fit htl)
          have hgw : gb < wr.heap.size := hG.bx.lt
          have HL := Lib.hid (le_ald (Nat.le_of_lt hgw) (.cells #[.int .i64 (lenP x)] 3))
          have HNT := Lib.hid (hnt hx0)
          have HG := Lib.hid hG
          have HLT := Lib.hid hlt
          clear hG hneg hnt hng htl hx hT hL0 hlt hj
          go_wp2_with fail
          go_region_law (first
            | (refine step_append_own (by rfl) (.tmp 39) (.tmp 45) 22 (by rfl) gb 3 i0 (.int .i64 0) 1 8 Try.underlying22 hi hz0 hz1 hz2 rfl (by decide) (.slice al Ll cl) ts.length (ts.map I) (by simp [Act.eval]) (HG.out.s.alloc _) (some ⟨wr.heap.size, 0, none⟩) 1 1 [.int .i64 (lenP x)] (by simp [Act.eval]) rfl (fun j u hu => ⟨_, rfl, cell_one_new wr _ _ j u hu⟩) (by simp [Value.oneCell']) HB.out.1 HB.out.2 HL.out ?_; intro v2 w4 hown2 hg2 _ hO2; obtain ⟨⟨hd1, hd2⟩, hM4⟩ := HG.out.put0 (((Chg.refl _ wr).alloc _).drew) hg2 hown2 rfl hO2; obtain ⟨al2, L2, cl2, rfl, hL2⟩ := own_nm hM4.s)
            | (go_simp; go_at_call 74; (with_reducible refine (hfl _).mono ?_); rintro e9 w9 ⟨rfl, rfl⟩))
          all_goals
            go_wp2
            go_roundw
            case rel => exact ⟨j + 1, HLT.out, by go_num, HNT.out, _, _, _, by rw [HT.out]; exact hM4⟩
            case measure => exact fit_meas j L.e.length HLT.out
      · obtain rfl : j = L.e.length := by omega
        rw [List.take_length] at hng hG
        rw [lenP_map hng] at hG
        have HNG := Lib.hid hng
        obtain ⟨T, hT⟩ : ∃ T, rsS L = T := ⟨_, rfl⟩
        have hT' : L.e.map lenC = T := hT
        rw [hT'] at hG
        have HT := Lib.hid hT
        clear hng hT hT' hlt hj
        have hcnt := r11count_any _ T wr hG.s.ls
        unfold GaveC at hcnt
        obtain ⟨al, Ll, cl, rfl, hL0⟩ := own_nm hG.s
        have c0 := hG.bx.c0
        cases hsh : shB T with
        | false =>
          rw [cntN_not hsh, cntE_not hsh] at hcnt
          have HSH := Lib.hid hsh
          obtain ⟨z0, z1, z2, f0, f1, f2⟩ := HR1.out.fr hG.ch
          obtain ⟨⟨g0, g1⟩, g2⟩ := set3_cells (.slice none 0 0) (.slice none 0 0) (.slice none 0 0) z0 z1 z2
          have HCh := Lib.hid hG.ch
          clear hG hsh hL0
          go_wp2_with fail
          refine hcnt.mono ?_
          clear hcnt
          rintro e9 w3 ⟨rfl, rfl⟩
          go_wp2
          simp [bodyPost, results, Try.results19, go_sem, g0, g1, g2]
          rw [HRS.out, if_neg (by rw [HNG.out]; decide), HT.out]
          unfold limW
          rw [if_neg (by rw [HSH.out]; decide)]
          exact gx_no (Nat.le_succ _) (HCW.out.tr HCh.out)
        | true =>
          have hcb := cntN_bd T
          obtain ⟨n, hn⟩ := Int.eq_ofNat_of_zero_le hcb.1
          rw [hn, cntE_ok hsh] at hcnt
          have hnb : n ≤ 4096 := by omega
          have hc2 := HCS.out _ (HC1.out.tr hG.ch)
          have HGD := Lib.hid (show rsG L s = tabW n (fun (i : Nat) => rsP m (i : Int)) by unfold rsG tabW; rw [HT.out, hn, HM.out]; rfl)
          have HSH := Lib.hid hsh
          have HG := Lib.hid hG
          clear hG hsh hL0 hcb hn
          go_wp2_with fail
          refine hcnt.mono ?_
          clear hcnt
          rintro e9 w3 ⟨rfl, rfl⟩
          go_wp2_with fail
          refine hc2.mono ?_
          clear hc2 c0
          rintro e9 w3 ⟨rfl, rfl⟩
          go_wp2
          obtain ⟨f, hf⟩ : ∃ f : Nat → Int × Int, (fun (i : Nat) => rsP m (i : Int)) = f := ⟨_, rfl⟩
          have HF := Lib.hid hf
          clear hf
          go_loopw [14] (fun i wr => ∃ k : Nat, k ≤ n ∧ i = .int .i64 k ∧ ∃ vs vo vp, Gx w1 wr gb gb vs vo vp T ((tabW k f).map (·.1)) ((tabW k f).map (·.2))) (fun i _ => n - (intOf i).toNat)
          case atStart => exact ⟨0, Nat.zero_le _, rfl, _, _, _, HG.out⟩
          case round =>
            obtain ⟨k, hk, rfl, vs, vo, vp, hG⟩ := hrel
            clear HG
            by_cases hlt : k < n
            · have hlt' : (k : Int) < (n : Int) := by omega
              have hk0 : (0 : Int) ≤ (k : Int) := by omega
              have hkw : IntKind.i64.wrap ((k : Int) + 1) = (k : Int) + 1 := IntWalk.i64_in _ (by omega)
              have hfk : f k = rsP m (k : Int) := by rw [← HF.out]
              have h1 := tabW_1 k f
              have h2 := tabW_2 k f
              rw [hfk] at h1 h2
              have hol : ((tabW k f).map (·.1)).length ≤ 1000000 := by rw [List.length_map, tabW_length]; omega
              have hpl : ((tabW k f).map (·.2)).length ≤ 1000000 := by rw [List.length_map, tabW_length]; omega
              have HB1 := Lib.hid (app_fit hol)
              have HB2 := Lib.hid (app_fit hpl)
              have hgw : gb < wr.heap.size := hG.bx.lt
              have c1 := hG.bx.c1
              have f1 := hG.bx.f1
              have HLT := Lib.hid hlt
              generalize (tabW k f).map (·.1) = os at *
              generalize (tabW k f).map (·.2) = ps at *
              obtain ⟨oa, Lo, co, rfl, hL0⟩ := own_nm hG.o
              have HG := Lib.hid hG
              by_cases hm : m = 0
              · have hp : rsP m (k : Int) = (-1, 0) := if_pos hm
                rw [hp] at h1 h2
                have H1 := Lib.hid h1
                have H2 := Lib.hid h2
                have hm' : (m == 0) = true := beq_iff_eq.2 hm
                have HL := Lib.hid (le_al (Nat.le_of_lt hgw) (.cells #[.int .i64 (-1)] 3))
                clear hG hlt hk hfk h1 h2 hol hpl hL0 hm hp hgw
                go_upto_region 20 with (refine wpList_append_own_any (by rfl) (.tmp 70) (.tmp 71) 22 (by rfl) gb 3 i0 (.int .i64 0) 1 8 Try.underlying22 hi hz0 hz1 hz2 rfl (by decide) (.slice oa Lo co) os.length (os.map I) (by rfl) (HG.out.o.alloc _) (some ⟨wr.heap.size, 0, none⟩) 1 1 [.int .i64 (-1)] (by rfl) rfl (fun j u hu => ⟨_, rfl, cell_one_new wr _ _ j u hu⟩) (by simp [Value.oneCell']) HB1.out.1 HB1.out.2 HL.out ?_; intro v4 w4 hown4 hg4 _ hO4; obtain ⟨⟨hd1, hd2⟩, hM4⟩ := HG.out.put1 ((Chg.refl _ wr).alloc _) hg4 hown4 rfl hO4; clear hown4 hg4 hO4; obtain ⟨al4, L4, cl4, rfl, hL4⟩ := own_nm hM4.o)
                generalize w4.setCell ⟨gb, 1, none⟩ (.slice al4 L4 cl4) = w5 at *
                obtain ⟨pa, Lp, cp, rfl, hL5⟩ := own_nm hM4.p
                have c2 := hM4.bx.c2
                have f2 := hM4.bx.f2
                have hgw5 : gb < w5.heap.size := hM4.bx.lt
                have HG5 := Lib.hid hM4
                clear hM4 hL4 hL5 hd1 hd2 c1 f1
                have HL5 := Lib.hid (le_al (Nat.le_of_lt hgw5) (.cells #[.int .i64 0] 3))
                clear hgw5
                go_wp2_with (refine wpList_append_own_any (by rfl) (.tmp 75) (.tmp 76) 22 (by rfl) gb 3 i0 (.int .i64 0) 1 8 Try.underlying22 hi hz0 hz1 hz2 rfl (by decide) (.slice pa Lp cp) ps.length (ps.map I) (by rfl) (HG5.out.p.alloc _) (some ⟨w5.heap.size, 0, none⟩) 1 1 [.int .i64 0] (by rfl) rfl (fun j u hu => ⟨_, rfl, cell_one_new w5 _ _ j u hu⟩) (by simp [Value.oneCell']) HB2.out.1 HB2.out.2 HL5.out ?_; intro v6 w6 hown6 hg6 _ hO6; obtain ⟨⟨hd1, hd2⟩, hM6⟩ := HG5.out.put2 ((Chg.refl _ w5).alloc _) hg6 hown6 rfl hO6; obtain ⟨al6, L6, cl6, rfl, hL6⟩ := own_nm hM6.p)
                go_roundw
                case rel => exact ⟨k + 1, HLT.out, by go_num, _, _, _, by rw [H1.out, H2.out]; exact hM6⟩
                case measure => exact fit_meas k n HLT.out
              · have hp : rsP m (k : Int) = (0, (k : Int) % m) := if_neg hm
                rw [hp] at h1 h2
                obtain ⟨r, hr⟩ : ∃ r, (k : Int) % m = r := ⟨_, rfl⟩
                rw [hr] at h1 h2
                have H1 := Lib.hid h1
                have H2 := Lib.hid h2
                have HTM := Lib.hid (show Int.tmod (k : Int) m = r by rw [Int.tmod_eq_emod_of_nonneg hk0]; exact hr)
                have hm' : (m == 0) = false := beq_eq_false_iff_ne.2 hm
                have HL := Lib.hid (le_al (Nat.le_of_lt hgw) (.cells #[.int .i64 0] 3))
                clear hG hlt hk hfk h1 h2 hol hpl hL0 hp hr hgw
                go_upto_region 22 with (refine wpList_append_own_any (by rfl) (.tmp 80) (.tmp 81) 22 (by rfl) gb 3 i0 (.int .i64 0) 1 8 Try.underlying22 hi hz0 hz1 hz2 rfl (by decide) (.slice oa Lo co) os.length (os.map I) (by rfl) (HG.out.o.alloc _) (some ⟨wr.heap.size, 0, none⟩) 1 1 [.int .i64 0] (by rfl) rfl (fun j u hu => ⟨_, rfl, cell_one_new wr _ _ j u hu⟩) (by simp [Value.oneCell']) HB1.out.1 HB1.out.2 HL.out ?_; intro v4 w4 hown4 hg4 _ hO4; obtain ⟨⟨hd1, hd2⟩, hM4⟩ := HG.out.put1 ((Chg.refl _ wr).alloc _) hg4 hown4 rfl hO4; clear hown4 hg4 hO4; obtain ⟨al4, L4, cl4, rfl, hL4⟩ := own_nm hM4.o)
                generalize w4.setCell ⟨gb, 1, none⟩ (.slice al4 L4 cl4) = w5 at *
                obtain ⟨pa, Lp, cp, rfl, hL5⟩ := own_nm hM4.p
                have c2 := hM4.bx.c2
                have f2 := hM4.bx.f2
                have hgw5 : gb < w5.heap.size := hM4.bx.lt
                have HG5 := Lib.hid hM4
                clear hM4 hL4 hL5 hd1 hd2 c1 f1
                have HL5 := Lib.hid (le_ald (Nat.le_of_lt hgw5) (.cells #[.int .i64 r] 3))
                have htm := HTM.out
                go_region_law (refine step_append_own (by rfl) (.tmp 85) (.tmp 89) 22 (by rfl) gb 3 i0 (.int .i64 0) 1 8 Try.underlying22 hi hz0 hz1 hz2 rfl (by decide) (.slice pa Lp cp) ps.length (ps.map I) (by simp [Act.eval]) (HG5.out.p.alloc _) (some ⟨w5.heap.size, 0, none⟩) 1 1 [.int .i64 r] (by simp [Act.eval]) rfl (fun j u hu => ⟨_, rfl, cell_one_new w5 _ _ j u hu⟩) (by simp [Value.oneCell']) HB2.out.1 HB2.out.2 HL5.out ?_; intro v6 w6 hown6 hg6 _ hO6; obtain ⟨⟨hd1, hd2⟩, hM6⟩ := HG5.out.put2 (((Chg.refl _ w5).alloc _).drew) hg6 hown6 rfl hO6; obtain ⟨al6, L6, cl6, rfl, hL6⟩ := own_nm hM6.p)
                all_goals
                  clear htm
                  go_wp2
                  go_roundw
                  case rel => exact ⟨k + 1, HLT.out, by go_num, _, _, _, by rw [H1.out, H2.out]; exact hM6⟩
                  case measure => exact fit_meas k n HLT.out
            · obtain rfl : k = n := by omega
              obtain ⟨z0, z1, z2, k0, k1, k2⟩ := HR1.out.fr hG.ch
              obtain ⟨sa1, Ls1, cs1, rfl, hL1⟩ := own_nm hG.s
              obtain ⟨oa1, Lo1, co1, rfl, hL2⟩ := own_nm hG.o
              obtain ⟨pa1, Lp1, cp1, rfl, hL3⟩ := own_nm hG.p
              obtain ⟨⟨g0, g1⟩, g2⟩ := set3_cells (.slice sa1 Ls1 cs1) (.slice oa1 Lo1 co1) (.slice pa1 Lp1 cp1) z0 z1 z2
              obtain ⟨b0, b1, b2, k3, k4, k5⟩ := id hG.bx
              have HG := Lib.hid (hG.up HCW.out)
              clear hG hlt hk hL1 hL2 hL3
              go_wp2
              simp [bodyPost, results, Try.results19, go_sem, g0, g1, g2]
              rw [HRS.out, if_neg (by rw [HNG.out]; decide), HT.out]
              unfold limW
              rw [if_pos HSH.out, HGD.out, HF.out]
              exact HG.out.leave (Nat.le_succ _) HRB.out rfl rfl
  · have HR := Lib.hid (bth_rs hE)
    obtain ⟨E, hEe⟩ : ∃ E, bthE L s = E := ⟨_, rfl⟩
    rw [hEe] at hbt hE
    have hb : (E != 0) = true := bne_iff_ne.2 hE
    have HE := Lib.hid hEe
    generalize bthL L s = xs at *
    clear hL' hS hs he hcs hEe
    go_enter Try.func19, Try.ntmps19
    go_wp2_with fail
    refine hbt.mono ?_
    clear hbt x0 x1 x2
    rintro e9 w1 ⟨v1, rfl, ho1, hC1⟩
    obtain ⟨a1, c1, rfl⟩ := own_name ho1
    obtain ⟨z0, z1, z2, f0, f1, f2⟩ := hR0.fr hC1
    obtain ⟨⟨g0, g1⟩, g2⟩ := set3_cells (.slice none 0 0) (.slice none 0 0) (.slice none 0 0) z0 z1 z2
    clear ho1
    go_wp2
    simp [bodyPost, results, Try.results19, go_sem, g0, g1, g2]
    rw [HR.out, HE.out]
    exact gx_no (Nat.le_succ _) (hC0.tr hC1)
end Go.Proofs.Ytceooipljhjpaaa
