/- The document's catenate, walked. -/
import Derived.Test.YtceooipljhjpaaaMeL
import Derived.Test.YtceooipljhjpaaaArY
import Derived.RegionTactic
import Derived.Deep.DeepCutAuto
import Derived.Deep.CutBlock
namespace Go.Proofs.Ytceooipljhjpaaa
open Go.RowKit Go.Shelf

set_option maxHeartbeats 400000 in
theorem r13str_any (u v : Value) (a b : List Int) (w : World) (hA : Ls w u a) (hB : Ls w v b) (hal : a.length ≤ 1000) : Calls Try.prog 77 #[u, v] w (GaveL 3 w (strL a b)) := by
  obtain ⟨i0, hi, hz0, hz1, hz2⟩ := info_parts info_int
  have hin := r11ints_any _ a _ hA (by omega)
  obtain ⟨aa, ca, rfl, _⟩ := hA.form
  obtain ⟨ab, cb, rfl, _⟩ := hB.form
  clear hA hB
  by_cases h : a.length + 1 = b.length
  · have HR := Lib.hid (show strL a b = a ++ [1] from if_pos h)
    have b1 : (((a.length : Int) + 1) == (b.length : Int)) = true := by rw [beq_iff_eq]; omega
    have b2 : (a.length + 1 == b.length) = true := by rw [beq_iff_eq]; omega
    clear h
    go_enter Try.func77, Try.ntmps77
    go_wp2_with fail
    refine hin.mono ?_
    clear hin
    rintro e9 w1 ⟨v1, rfl, ho1, hC1⟩
    obtain ⟨a1, L1, c1, rfl, hL1⟩ := own_nm ho1
    have HB := Lib.hid (app_fit (n := a.length) (by omega))
    have HL := Lib.hid (le_al hC1.size (.cells #[.int .i64 1] 3))
    have HO := Lib.hid ho1
    have HC := Lib.hid hC1
    clear ho1 hL1 hC1 b1 b2
    go_wp2_with (refine wpList_append_own_any (by rfl) (.tmp 12) (.tmp 13) 22 (by rfl) w.heap.size 3 i0 (.int .i64 0) 1 8 Try.underlying22 hi hz0 hz1 hz2 rfl (by decide) (.slice a1 L1 c1) a.length (a.map I) (by rfl) (HO.out.alloc _) (some ⟨w1.heap.size, 0, none⟩) 1 1 [.int .i64 1] (by rfl) rfl (fun j u hu => ⟨_, rfl, cell_one_new w1 _ _ j u hu⟩) (by simp [Value.oneCell']) HB.out.1 HB.out.2 HL.out ?_; intro v2 w2 hown hg _ hO2)
    go_ret
    exact ⟨_, rfl, by rw [HR.out]; exact gx_snoc hown rfl, (HC.out.alloc _).grown hg (fun k e => .inr (HO.out.lt k e).1)⟩
  · have HR := Lib.hid (show strL a b = a from if_neg h)
    have b1 : (((a.length : Int) + 1) == (b.length : Int)) = false := by rw [beq_eq_false_iff_ne]; omega
    have b2 : (a.length + 1 == b.length) = false := by rw [beq_eq_false_iff_ne]; omega
    clear h
    go_enter Try.func77, Try.ntmps77
    go_wp2_with fail
    refine hin.mono ?_
    clear hin
    rintro e9 w1 ⟨v1, rfl, ho1, hC1⟩
    go_wp2
    go_ret
    exact ⟨_, rfl, by rw [HR.out]; exact ho1, hC1⟩
theorem set_last {b : List Int} (h : b ≠ []) : b.set (b.length - 1) 1 = b.dropLast ++ [1] := by
  rcases nil_snoc b with rfl | ⟨f, m, rfl⟩
  · exact absurd rfl h
  · rw [List.dropLast_concat, List.set_append_right _ _ (by simp)]
    simp
theorem snoc_set {f : List Int} {m y : Int} {d : Nat} (h : f.length = d) : (f ++ [m]).set d y = f ++ [y] := by
  rw [List.set_append_right _ _ (by omega), h, Nat.sub_self]
  rfl
theorem snoc_get {f : List Int} {m : Int} {d : Nat} (h : f.length = d) (h2 : d < (f ++ [m]).length) : (f ++ [m])[d] = m := by
  rw [List.getElem_append_right (by omega)]
  simp
theorem snoc_take {f : List Int} {m : Int} {d : Nat} (h : f.length = d) : (f ++ [m]).take d = f := by
  rw [← h]
  exact List.take_left
set_option maxRecDepth 100000 in
set_option maxHeartbeats 40000000 in
theorem r13cat_any (u v : Value) (a b : List Int) (w : World) (hA : Ls w u a) (hB : Ls w v b) : Calls Try.prog 22 #[u, v] w (GaveGO w (catW a b)) := by
  obtain ⟨i0, hi, hz0, hz1, hz2⟩ := info_parts info_int
  obtain ⟨aa, ca, rfl, _⟩ := hA.form
  obtain ⟨ab, cb, rfl, _⟩ := hB.form
  have hC0 := (Chg.refl (fun _ => False) w).alloc (.cells #[.slice none 0 0, .slice none 0 0, .slice none 0 0] 39)
  have hR0 := Bx.new w (.slice none 0 0) (.slice none 0 0) (.slice none 0 0) 39
  have hca := r11count_any _ a _ (hA.fr hC0)
  have hcb := r11count_any _ b _ (hB.fr hC0)
  unfold GaveC at hca hcb
  cases ha : shB a with
  | false =>
    have HR := Lib.hid (show catW a b = noW 110 by unfold catW; rw [ha]; rfl)
    rw [cntN_not ha, cntE_not ha] at hca
    generalize cntN b = N at *
    generalize cntE b = E at *
    clear hA hB ha
    clear hR0
    go_enter Try.func22, Try.ntmps22
    go_wp2_with fail
    refine hca.mono ?_
    clear hca
    rintro e9 w3 ⟨rfl, rfl⟩
    go_wp2_with fail
    refine hcb.mono ?_
    clear hcb
    rintro e9 w3 ⟨rfl, rfl⟩
    go_wp2
    simp [bodyPost, results, Try.results22, go_sem]
    rw [HR.out]
    exact gx_no0 hC0
  | true =>
    rw [cntE_ok ha] at hca
    generalize cntN a = N1 at *
    cases hb : shB b with
    | false =>
      have HR := Lib.hid (show catW a b = noW 110 by unfold catW; rw [ha, hb]; rfl)
      rw [cntN_not hb, cntE_not hb] at hcb
      clear hA hB ha hb
      clear hR0
      go_enter Try.func22, Try.ntmps22
      go_wp2_with fail
      refine hca.mono ?_
      clear hca
      rintro e9 w3 ⟨rfl, rfl⟩
      go_wp2_with fail
      refine hcb.mono ?_
      clear hcb
      rintro e9 w3 ⟨rfl, rfl⟩
      go_wp2
      simp [bodyPost, results, Try.results22, go_sem]
      rw [HR.out]
      exact gx_no0 hC0
    | true =>
      rw [cntE_ok hb] at hcb
      generalize cntN b = N2 at *
      have hal := (shB_iff.1 ha).1
      have hbl := (shB_iff.1 hb).1
      have hs1 := r13str_any _ _ a b _ (hA.fr hC0) (hB.fr hC0) (by omega)
      have HA := Lib.hid hA
      have HB := Lib.hid hB
      have HSA := Lib.hid ha
      have HSB := Lib.hid hb
      clear hA hB ha hb
      go_enter Try.func22, Try.ntmps22
      go_wp2_with fail
      refine hca.mono ?_
      clear hca
      rintro e9 w3 ⟨rfl, rfl⟩
      go_wp2_with fail
      refine hcb.mono ?_
      clear hcb
      rintro e9 w3 ⟨rfl, rfl⟩
      go_wp2_with fail
      refine hs1.mono ?_
      clear hs1
      rintro e9 w1 ⟨v1, rfl, ho1, hC1⟩
      have hs2 := r13str_any _ _ b a w1 (HB.out.fr (hC0.tr hC1)) (HA.out.fr (hC0.tr hC1)) (by omega)
      go_wp2_with fail
      refine hs2.mono ?_
      clear hs2
      rintro e9 w2 ⟨v2, rfl, ho2, hC2⟩
      obtain ⟨wA, hwA⟩ : ∃ wA, w.alloc (.cells #[.slice none 0 0, .slice none 0 0, .slice none 0 0] 39) = wA := ⟨_, rfl⟩
      rw [hwA] at hC0 hR0 hC1 ho1
      obtain ⟨bs, hbs⟩ : ∃ bs, wA.heap.size = bs := ⟨_, rfl⟩
      have hbb : w.heap.size < bs := by rw [← hbs]; exact hR0.lt
      have hT : Two wA w2 bs v1 v2 (strL a b) (strL b a) := ⟨by rw [← hbs]; exact ho1.fr hC2, by rw [← hbs]; exact ho2.mono hC1.size, fun q h1 h2 => by have := (ho1.lt q h1).2; have := (ho2.lt q h2).1; omega, hC1.tr hC2, by rw [hbs]; exact Nat.le_refl _⟩
      have HBW := Lib.hid (show bs ≤ w2.heap.size by rw [← hbs]; exact (hC1.tr hC2).size)
      have HBB2 := Lib.hid (show bs ≤ wA.heap.size by rw [hbs]; exact Nat.le_refl _)
      have HT := Lib.hid hT
      have HBB := Lib.hid hbb
      have HC0 := Lib.hid hC0
      have HR0 := Lib.hid hR0
      clear ho1 ho2 hC1 hC2 hwA hbs hC0 hR0 hT hbb
      go_upto_block 0 with (fail)
      go_cut [10, 11] (fun s10 s11 wx => Two wA wx bs s10 s11 (exX a b) (exX b a))
      case first =>
        by_cases ha0 : a = []
        · have eA : ((a.length : Int) == 0) = true := by rw [ha0]; rfl
          by_cases hb0 : b = []
          · have eB : ((b.length : Int) == 0) = true := by rw [hb0]; rfl
            have HX := Lib.hid (show [1] = exX a b by unfold exX; rw [if_pos ha0, hb0]; rfl)
            have HY := Lib.hid (show [1] = exX b a by unfold exX; rw [if_pos hb0, ha0]; rfl)
            have l1 := own_lit w2 3 [1] 1 rfl #[.int .i64 1] rfl (by decide)
            have l2 := own_lit (w2.alloc (.cells #[.int .i64 1] 3)) 3 [1] 1 rfl #[.int .i64 1] rfl (by decide)
            rw [World.size_alloc] at l2
            have hca := (Chg.refl (fun _ => False) (w2.alloc (.cells #[.int .i64 1] 3))).alloc (.cells #[.int .i64 1] 3)
            have hT : Two wA ((w2.alloc (.cells #[.int .i64 1] 3)).alloc (.cells #[.int .i64 1] 3)) bs (.slice (some ⟨w2.heap.size, 0, none⟩) 1 1) (.slice (some ⟨w2.heap.size + 1, 0, none⟩) 1 1) (exX a b) (exX b a) := by
              rw [← HX.out, ← HY.out]
              exact ⟨(l1.fr hca).mono HBW.out, l2.mono (Nat.le_succ_of_le HBW.out), fun q h1 h2 => by simp [Value.ownBlock] at h1 h2; omega, ((HT.out.ch).alloc _).alloc _, HT.out.lb⟩
            have HTN := Lib.hid hT
            clear l1 l2 hca hT ha0 hb0
            go_wp2_with fail
            go_meet
            exact HTN.out
          · have eB : ((b.length : Int) == 0) = false := by rw [beq_eq_false_iff_ne]; have := List.length_pos_iff.2 hb0; omega
            have hY : strL b a = exX b a := by unfold exX; rw [if_neg hb0]
            have hX : b.set (b.length - 1) 1 = exX a b := by unfold exX; rw [if_pos ha0]; exact set_last hb0
            have hbp := List.length_pos_iff.2 hb0
            have hin := r11ints_any _ b w2 (HB.out.fr (HC0.out.tr HT.out.ch)) (by omega)
            obtain ⟨e, he⟩ : ∃ e, b.length - 1 = e := ⟨_, rfl⟩
            have hla : (b.length : Int) - 1 = (e : Int) := by omega
            have he0 : (0 : Int) ≤ (e : Int) := by omega
            have he1 : (e : Int) < (b.length : Int) := by omega
            rw [he] at hX
            have HE := Lib.hid (show e < b.length by omega)
            have HXY := Lib.hid (And.intro hX hY)
            clear ha0 hb0 hX hY he hbp
            go_wp2_with fail
            refine hin.mono ?_
            clear hin
            rintro e9 w3 ⟨v3, rfl, ho3, hC3⟩
            obtain ⟨g, c3, rfl, hg1, hg2⟩ := own_ptr ho3 (by have := HE.out; omega)
            obtain ⟨hc3, hf3⟩ := own_cell ho3 HE.out
            have hT : Two wA (w3.setCell ⟨g, e, none⟩ (.int .i64 1)) bs (.slice (some ⟨g, 0, none⟩) b.length c3) v2 (exX a b) (exX b a) := by
              rw [← HXY.out.1, ← HXY.out.2]
              have hne : ¬ v2.ownBlock = some g := fun h => by have := (HT.out.o2.lt g h).2; omega
              exact ⟨(own_put ho3 e 1).mono HBW.out, own_away (HT.out.o2.fr hC3) e _ hne, fun q h1 h2 => by simp [Value.ownBlock] at h1; subst h1; exact hne h2, (HT.out.ch.tr hC3).setCell (p := ⟨g, e, none⟩) (.inr (by show wA.heap.size ≤ g; have := HT.out.ch.size; omega)) _, HT.out.lb⟩
            have HTN := Lib.hid hT
            clear hT hg1 hg2 ho3 hC3
            go_wp2_with fail
            go_meet
            exact HTN.out
        · have eA : ((a.length : Int) == 0) = false := by rw [beq_eq_false_iff_ne]; have := List.length_pos_iff.2 ha0; omega
          have hX : strL a b = exX a b := by unfold exX; rw [if_neg ha0]
          by_cases hb0 : b = []
          · have eB : ((b.length : Int) == 0) = true := by rw [hb0]; rfl
            have hY : a.set (a.length - 1) 1 = exX b a := by unfold exX; rw [if_pos hb0]; exact set_last ha0
            have hbp := List.length_pos_iff.2 ha0
            have hin := r11ints_any _ a w2 (HA.out.fr (HC0.out.tr HT.out.ch)) (by omega)
            obtain ⟨e, he⟩ : ∃ e, a.length - 1 = e := ⟨_, rfl⟩
            have hla : (a.length : Int) - 1 = (e : Int) := by omega
            have he0 : (0 : Int) ≤ (e : Int) := by omega
            have he1 : (e : Int) < (a.length : Int) := by omega
            rw [he] at hY
            have HE := Lib.hid (show e < a.length by omega)
            have HXY := Lib.hid (And.intro hX hY)
            clear ha0 hb0 hX hY he hbp
            go_wp2_with fail
            refine hin.mono ?_
            clear hin
            rintro e9 w3 ⟨v3, rfl, ho3, hC3⟩
            obtain ⟨g, c3, rfl, hg1, hg2⟩ := own_ptr ho3 (by have := HE.out; omega)
            obtain ⟨hc3, hf3⟩ := own_cell ho3 HE.out
            have hT : Two wA (w3.setCell ⟨g, e, none⟩ (.int .i64 1)) bs v1 (.slice (some ⟨g, 0, none⟩) a.length c3) (exX a b) (exX b a) := by
              rw [← HXY.out.1, ← HXY.out.2]
              have hne : ¬ v1.ownBlock = some g := fun h => by have := (HT.out.o1.lt g h).2; omega
              exact ⟨own_away (HT.out.o1.fr hC3) e _ hne, (own_put ho3 e 1).mono HBW.out, fun q h1 h2 => by simp [Value.ownBlock] at h2; subst h2; exact hne h1, (HT.out.ch.tr hC3).setCell (p := ⟨g, e, none⟩) (.inr (by show wA.heap.size ≤ g; have := HT.out.ch.size; omega)) _, HT.out.lb⟩
            have HTN := Lib.hid hT
            clear hT hg1 hg2 ho3 hC3
            go_wp2_with fail
            go_meet
            exact HTN.out
          · have eB : ((b.length : Int) == 0) = false := by rw [beq_eq_false_iff_ne]; have := List.length_pos_iff.2 hb0; omega
            have hY : strL b a = exX b a := by unfold exX; rw [if_neg hb0]
            have HTN := Lib.hid (show Two wA w2 bs v1 v2 (exX a b) (exX b a) by rw [← hX, ← hY]; exact HT.out)
            clear ha0 hb0 hX hY
            go_wp2_with fail
            go_meet
            exact HTN.out
      case rest =>
        obtain ⟨wb, rfl⟩ : ∃ wb : World, wb = wc := ⟨_, rfl⟩
        obtain ⟨vx, rfl⟩ : ∃ v : Value, v = u10 := ⟨_, rfl⟩
        obtain ⟨vy, rfl⟩ : ∃ v : Value, v = u11 := ⟨_, rfl⟩
        replace HT := Lib.hid hcut
        clear hcut
        clear HBW
        obtain ⟨X, hX⟩ : ∃ X, exX a b = X := ⟨_, rfl⟩
        obtain ⟨Y, hY⟩ : ∃ Y, exX b a = Y := ⟨_, rfl⟩
        rw [hX, hY] at HT
        have HX := Lib.hid hX
        have HY := Lib.hid hY
        cases hsd : sdB a b with
        | false =>
          have hne := exX_no hsd
          rw [hX, hY] at hne
          have HR := Lib.hid (show catW a b = noW 3 by unfold catW; rw [HSA.out, HSB.out, hsd]; rfl)
          have HCH := Lib.hid HT.out.ch
          obtain ⟨ax, cx, rfl⟩ := own_name HT.out.o1
          obtain ⟨ay, cy, rfl⟩ := own_name HT.out.o2
          have b1 : ((X.length : Int) != (Y.length : Int)) = true := by simp only [bne_iff_ne, ne_eq]; omega
          clear hX hY hsd hne
          obtain ⟨z0, z1, z2, k0, k1, k2⟩ := HR0.out.fr HCH.out
          obtain ⟨⟨g0, g1⟩, g2⟩ := set3_cells (.slice none 0 0) (.slice none 0 0) (.slice none 0 0) z0 z1 z2
          skip
          go_wp2
          simp [bodyPost, results, Try.results22, go_sem, g0, g1, g2]
          rw [HR.out]
          exact gx_no (Nat.le_refl _) (HC0.out.tr HCH.out)
        | true =>
          have hF := sdF_len hsd
          have hx2 := exX_ok hsd
          have hy2 := exX_ok (a := b) (b := a) (by rw [sdB_comm]; exact hsd)
          rw [hX] at hx2
          rw [hY] at hy2
          obtain ⟨d, hd⟩ : ∃ d, (sdF a b).length = d := ⟨_, rfl⟩
          rw [hd] at hF
          obtain ⟨n, hn⟩ : ∃ n, d + 1 = n := ⟨_, rfl⟩
          have hXn : X.length = n := by rw [hx2, List.length_append, hd]; exact hn
          have hYn : Y.length = n := by rw [hy2, List.length_append, ← hF]; exact hn
          have hd4 := (sd_facts HSA.out HSB.out).2
          have hxb := (sd_facts HSA.out HSB.out).1
          have hyb := (sd_facts HSB.out HSA.out).1
          rw [hd] at hd4
          obtain ⟨gx, cx, rfl, hgx1, hgx2⟩ := own_ptr HT.out.o1 (by omega)
          obtain ⟨gy, cy, rfl, hgy1, hgy2⟩ := own_ptr HT.out.o2 (by omega)
          rw [hXn, hYn] at HT ⊢
          have hla : (n : Int) - 1 = (d : Int) := by omega
          have hd0 : (0 : Int) ≤ (d : Int) := by omega
          have hdn : (d : Int) < (n : Int) := by omega
          have hn4 : n ≤ 5 := by omega
          obtain ⟨xa, xc, hx3, hx4⟩ := HT.out.o1.ls.mslice d (by omega)
          obtain ⟨ya, yc, hy3, hy4⟩ := HT.out.o2.ls.mslice d (by omega)
          rw [hx2, snoc_take hd] at hx3
          rw [hy2, snoc_take hF.symm] at hy3
          have hshp := r11shapes_any _ _ _ _ wb.drew (hx3.fr ((Chg.refl _ wb).drew)) (hy3.fr ((Chg.refl _ wb).drew)) (by omega)
          have HD := Lib.hid (And.intro hd hF)
          have HNN := Lib.hid (show d < n ∧ X.length = n ∧ Y.length = n by omega)
          have HX2 := Lib.hid hx2
          have HY2 := Lib.hid hy2
          have HSD := Lib.hid hsd
          have HXYB := Lib.hid (And.intro hxb hyb)
          clear hsd hF hx2 hy2 hd hn hXn hYn hgx1 hgx2 hgy1 hgy2 hx3 hy3 hX hY hd4 hxb hyb
          by_cases hFF : sdF a b = sdF b a
          · rw [decide_eq_true hFF] at hshp
            have HFF := Lib.hid hFF
            clear hFF
            go_wp2_with fail
            go_region_with (go_at_call 78; (with_reducible refine hshp.mono ?_); rintro e9 wS ⟨rfl, hC3⟩)
            all_goals
              clear hshp hx4 hy4
              replace hC3 : Chg (fun _ => False) wb wS := ((Chg.refl (fun _ => False) wb).drew).tr hC3
              obtain ⟨x, hx⟩ : ∃ x, sdM a b = x := ⟨_, rfl⟩
              obtain ⟨y, hy⟩ : ∃ y, sdM b a = y := ⟨_, rfl⟩
              obtain ⟨F, hFd⟩ : ∃ F, sdF a b = F := ⟨_, rfl⟩
              have hX2 : X = F ++ [x] := by rw [HX2.out, hFd, hx]
              have hY2 : Y = F ++ [y] := by rw [HY2.out, ← HFF.out, hFd, hy]
              have hFl : F.length = d := by rw [← hFd]; exact HD.out.1
              have hXB := HXYB.out
              rw [hx, hy] at hXB
              have HXB := Lib.hid hXB
              have HX3 := Lib.hid hX2
              have HY3 := Lib.hid hY2
              have HFl := Lib.hid hFl
              have HNM := Lib.hid (show sdM a b = x ∧ sdM b a = y ∧ sdF a b = F from ⟨hx, hy, hFd⟩)
              have HCS := Lib.hid ((HT.out.ch).tr hC3)
              have HOX := Lib.hid (HT.out.o1.fr hC3)
              have HOY := Lib.hid (HT.out.o2.fr hC3)
              have hin := r11ints_any _ X wS HOX.out.ls (by rw [HNN.out.2.1]; omega)
              have HBS := Lib.hid (show bs ≤ wS.heap.size by have h1 := HBB2.out; have h2 := HCS.out.size; omega)
              clear hC3 hx hy hFd hX2 hY2 hFl hXB
              go_wp2_with fail
              refine hin.mono ?_
              clear hin
              rintro e9 w4 ⟨v4, rfl, ho4, hC4⟩
              obtain ⟨gs, cs, rfl, hgs1, hgs2⟩ := own_ptr ho4 (by have := HNN.out; omega)
              rw [HNN.out.2.1] at ho4 ⊢
              have hG := Gx.start 39 ho4 hC4 (Nat.le_refl _)
              clear ho4 hC4 hgs1 hgs2
              go_upto_region 22 with (fail)
              generalize w4.alloc (.cells #[.slice (some ⟨gs, 0, none⟩) n cs, .slice none 0 0, .slice none 0 0] 39) = w5 at *
              generalize w4.heap.size = gb at *
              have c0 := hG.bx.c0
              obtain ⟨hs1, hs2⟩ := own_cell hG.s (j := d) (by have := HNN.out; omega)
              obtain ⟨hxc, _⟩ := own_cell (HOX.out.fr hG.ch) (j := d) (by have := HNN.out; omega)
              obtain ⟨hyc, _⟩ := own_cell (HOY.out.fr hG.ch) (j := d) (by have := HNN.out; omega)
              have e1 : ∀ h : d < X.length, X[d] = x := fun h => by
                have := HX3.out
                subst this
                exact snoc_get HFl.out h
              have e2 : ∀ h : d < Y.length, Y[d] = y := fun h => by
                have := HY3.out
                subst this
                exact snoc_get HFl.out h
              rw [e1] at hs1 hxc
              rw [e2] at hyc
              clear e1 e2
              have hws : IntKind.i64.wrap (x + y) = x + y := IntWalk.i64_in _ (by have := HXB.out; omega)
              have hG2 := (hG.putS d (x + y)).fr ((Chg.refl _ _).drew)
              obtain ⟨S, hS⟩ : ∃ S, catS a b = S := ⟨_, rfl⟩
              have hSX : X.set d (x + y) = S := by
                rw [HX3.out, snoc_set HFl.out, ← hS]
                unfold catS
                rw [HNM.out.1, HNM.out.2.1, HNM.out.2.2]
              rw [hSX] at hG2
              have HG := Lib.hid hG2
              have HS := Lib.hid hS
              clear hG hG2 hSX hS
              go_region
              all_goals
                clear hws hs1 hs2 hxc hyc c0
                generalize (w5.setCell ⟨gs, d, none⟩ (.int .i64 (x + y))).drew = w6 at *
                have c0 := HG.out.bx.c0
                have hcs := r11count_any _ S w6 HG.out.s.ls
                unfold GaveC at hcs
                cases hsS : shB S with
                | false =>
                  rw [cntN_not hsS, cntE_not hsS] at hcs
                  have HR := Lib.hid (show catW a b = noW 9 by
                    unfold catW limW
                    rw [HSA.out, HSB.out, HSD.out, if_pos HFF.out, HS.out, hsS]
                    rfl)
                  have HCH := Lib.hid HG.out.ch
                  clear hsS
                  go_wp2_with fail
                  refine hcs.mono ?_
                  clear hcs c0
                  rintro e9 w7 ⟨rfl, rfl⟩
                  obtain ⟨z0, z1, z2, k0, k1, k2⟩ := (HR0.out.fr HCS.out).fr HCH.out
                  obtain ⟨⟨g0, g1⟩, g2⟩ := set3_cells (.slice none 0 0) (.slice none 0 0) (.slice none 0 0) z0 z1 z2
                  skip
                  go_wp2
                  simp [bodyPost, results, Try.results22, go_sem, g0, g1, g2]
                  rw [HR.out]
                  exact gx_no (Nat.le_refl _) ((HC0.out.tr HCS.out).tr HCH.out)
                | true =>
                  have hcb := cntN_bd S
                  obtain ⟨m, hm⟩ := Int.eq_ofNat_of_zero_le hcb.1
                  rw [hm, cntE_ok hsS] at hcs
                  have hmb : m ≤ 4096 := by omega
                  obtain ⟨f, hf⟩ : ∃ f : Nat → Int × Int, (fun (i : Nat) => catP (decide (a = [])) (decide (b = [])) x y (i : Int)) = f := ⟨_, rfl⟩
                  have HCG := Lib.hid (show catW a b = ⟨S, tabW m f, 0⟩ by
                    unfold catW limW
                    rw [HSA.out, HSB.out, HSD.out, if_pos HFF.out, HS.out, hsS]
                    unfold catG
                    rw [HS.out, hm, HNM.out.1, HNM.out.2.1, hf]
                    rfl)
                  have HPM := Lib.hid (show prodL S = (m : Int) by rw [← hm, cntN_ok hsS])
                  have HSS := Lib.hid hsS
                  have HFF2 := Lib.hid hf
                  clear hsS hcb hm hf
                  go_wp2_with fail
                  refine hcs.mono ?_
                  clear hcs c0
                  rintro e9 w7 ⟨rfl, rfl⟩
                  go_wp2
                  go_loopw [16] (fun i wr => ∃ k : Nat, k ≤ m ∧ i = .int .i64 k ∧ ∃ vo vp, Gx wS wr wS.heap.size gb (.slice (some ⟨gs, 0, none⟩) n cs) vo vp S ((tabW k f).map (·.1)) ((tabW k f).map (·.2))) (fun i _ => m - (intOf i).toNat)
                  case atStart => exact ⟨0, Nat.zero_le _, rfl, _, _, HG.out⟩
                  case round =>
                    obtain ⟨k, hk, rfl, vo, vp, hG⟩ := hrel
                    clear HG
                    by_cases hlt : k < m
                    · have hlt' : (k : Int) < (m : Int) := by omega
                      have hk0 : (0 : Int) ≤ (k : Int) := by omega
                      have hkw : IntKind.i64.wrap ((k : Int) + 1) = (k : Int) + 1 := IntWalk.i64_in _ (by omega)
                      have c0 := hG.bx.c0
                      have hat := r11at_any _ S (k : Int) wr hG.s.ls HSS.out hk0 (by rw [HPM.out]; exact hlt')
                      have hci := cat_i HSA.out HSB.out HSD.out HFF.out (by rw [HS.out]; exact HSS.out) (i := k) (by rw [HS.out, HPM.out]; exact hlt')
                      obtain ⟨ci1, ci2, ci3, ci4, ci5⟩ := hci
                      rw [HS.out] at ci1
                      rw [HNM.out.1, HNM.out.2.1] at ci1 ci2 ci3 ci4 ci5
                      rw [HX.out] at ci4
                      rw [HY.out] at ci5
                      have hfk : f k = if (k : Int) % (x + y) < x then (0, if decide (a = []) then 0 else (k : Int) / (x + y) * x + (k : Int) % (x + y)) else (1, if decide (b = []) then 0 else (k : Int) / (x + y) * y + (k : Int) % (x + y) - x) := by rw [← HFF2.out]; rfl
                      obtain ⟨t, ht⟩ : ∃ t, (k : Int) % (x + y) = t := ⟨_, rfl⟩
                      obtain ⟨q, hq⟩ : ∃ q, (k : Int) / (x + y) = q := ⟨_, rfl⟩
                      rw [ht] at ci1 ci2 ci3 ci4 ci5 hfk
                      rw [hq] at ci1 ci4 ci5 hfk
                      obtain ⟨A, hA⟩ : ∃ A, atL (sdF a b) q = A := ⟨_, rfl⟩
                      rw [hA] at ci1 ci4 ci5
                      have hAl : A.length = d := by rw [← hA, atL_length]; exact HD.out.1
                      rw [ci1] at hat
                      have HCI := Lib.hid (And.intro ci4 ci5)
                      have HFK0 := Lib.hid hfk
                      have HAL := Lib.hid hAl
                      have HTB := Lib.hid (And.intro ci2 ci3)
                      have HLT := Lib.hid hlt
                      have HG := Lib.hid hG
                      clear ht hq hA ci1 ci2 ci3 ci4 ci5 hfk hAl hG hlt hk
                      go_wp2_with fail
                      refine hat.mono ?_
                      clear hat c0
                      rintro e9 w7 ⟨v7, rfl, ho7, hC7⟩
                      have hatl : (A ++ [t]).length = n := by rw [List.length_append, HAL.out]; have := HNN.out; have := HD.out; simp; omega
                      obtain ⟨ga, c7, rfl, hga1, hga2⟩ := own_ptr ho7 (by have := HNN.out; omega)
                      rw [hatl] at ho7 ⊢
                      obtain ⟨hac, haf⟩ := own_cell ho7 (j := d) (by have := HNN.out; omega)
                      rw [snoc_get HAL.out] at hac
                      have HG7 := Lib.hid (HG.out.fr hC7)
                      obtain ⟨hxc, _⟩ := own_cell (HOX.out.fr HG7.out.ch) (j := d) (by have := HNN.out; omega)
                      have e1 : ∀ h : d < X.length, X[d] = x := fun h => by
                        have := HX3.out
                        subst this
                        exact snoc_get HFl.out h
                      rw [e1] at hxc
                      have HO7 := Lib.hid ho7
                      have HC7 := Lib.hid hC7
                      have HGA7 := Lib.hid hga1
                      clear e1 ho7 hC7 hatl hga1 hga2
                      by_cases ht : t < x
                      · have HTX := Lib.hid ht
                        have hd1 : decide (x ≤ t) = false := decide_eq_false (by omega)
                        go_wp2_with fail
                        go_region
                        all_goals
                          go_upto_region 34 with (fail)
                          have hGa := HG7.out.fr ((Chg.refl _ w7).drew)
                          have hLa := HO7.out.ls.fr ((Chg.refl _ w7).drew)
                          generalize w7.drew = wq at *
                          clear hac haf hxc hd1 ht
                          by_cases ha0 : a = []
                          · have eA : ((a.length : Int) == 0) = true := by rw [ha0]; rfl
                            have HDA := Lib.hid (decide_eq_true ha0)
                            clear ha0
                            have HFK := Lib.hid (show f k = (0, 0) by rw [HFK0.out, if_pos (by have := HTX.out; omega), HDA.out]; rfl)
                            have HGA := Lib.hid (hGa.fr ((Chg.refl (fun _ => False) wq).alloc (.cells #[.slice (some ⟨gx, 0, none⟩) n cx, .slice (some ⟨gy, 0, none⟩) n cy] 22)))
                            have hpl := r11place_any _ _ X (A ++ [t]) (wq.alloc (.cells #[.slice (some ⟨gx, 0, none⟩) n cx, .slice (some ⟨gy, 0, none⟩) n cy] 22)) (HOX.out.ls.fr (hGa.ch.alloc _)) (hLa.fr ((Chg.refl _ wq).alloc _))
                            unfold GavePl at hpl
                            generalize plB X (A ++ [t]) = PB at *
                            generalize plN X (A ++ [t]) = P at *
                            have h1 := tabW_1 k f
                            have h2 := tabW_2 k f
                            rw [HFK.out] at h1 h2
                            have hol : ((tabW k f).map (·.1)).length ≤ 1000000 := by rw [List.length_map, tabW_length]; have := HLT.out; omega
                            have hpl2 : ((tabW k f).map (·.2)).length ≤ 1000000 := by rw [List.length_map, tabW_length]; have := HLT.out; omega
                            clear hGa hLa
                            go_wp2_with fail
                            refine hpl.mono ?_
                            clear hpl
                            rintro e9 w6 ⟨rfl, hC6⟩
                            have hG := HGA.out.fr hC6
                            have HB1 := Lib.hid (app_fit hol)
                            have HB2 := Lib.hid (app_fit hpl2)
                            have c1 := hG.bx.c1
                            have f1 := hG.bx.f1
                            have hgw : wS.heap.size ≤ w6.heap.size := hG.ch.size
                            generalize (tabW k f).map (·.1) = os at *
                            generalize (tabW k f).map (·.2) = ps at *
                            obtain ⟨oa, Lo, co, rfl, hL0⟩ := own_nm hG.o
                            have HG := Lib.hid hG
                            have HL := Lib.hid (fun (z : Int) => le_al hgw (.cells #[.int .i64 z] 3))
                            have H1 := Lib.hid h1
                            have H2 := Lib.hid h2
                            clear hG hC6 hol hpl2 hL0 hgw h1 h2
                            go_upto_region 38 with (at_builtin; refine wpList_append_own_any (by rfl) (.tmp 182) (.tmp 184) 22 (by rfl) wS.heap.size 3 i0 (.int .i64 0) 1 8 Try.underlying22 hi hz0 hz1 hz2 rfl (by decide) (.slice oa Lo co) os.length (os.map I) (by rfl) (HG.out.o.alloc _) (some ⟨w6.heap.size, 0, none⟩) 1 1 [.int .i64 0] (by rfl) rfl (fun j u hu => ⟨_, rfl, cell_one_new w6 _ _ j u hu⟩) (by simp [Value.oneCell']) HB1.out.1 HB1.out.2 (HL.out _) ?_; intro v4 w4 hown4 hg4 _ hO4; obtain ⟨⟨hd1, hd2⟩, hM4⟩ := HG.out.put1 ((Chg.refl _ w6).alloc _) hg4 hown4 rfl hO4; clear hown4 hg4 hO4; obtain ⟨al4, L4, cl4, rfl, hL4⟩ := own_nm hM4.o)
                            generalize w4.setCell ⟨gb, 1, none⟩ (.slice al4 L4 cl4) = w5 at *
                            obtain ⟨pa, Lp, cp, rfl, hL5⟩ := own_nm hM4.p
                            have c2 := hM4.bx.c2
                            have f2 := hM4.bx.f2
                            have hgw5 : wS.heap.size ≤ w5.heap.size := hM4.ch.size
                            have HG5 := Lib.hid hM4
                            have HL5 := Lib.hid (le_al hgw5 (.cells #[.int .i64 0] 3))
                            clear hM4 hL4 hL5 hd1 hd2 c1 f1 hgw5
                            go_wp2_with (at_builtin; refine wpList_append_own_any (by rfl) (.tmp 188) (.tmp 190) 22 (by rfl) wS.heap.size 3 i0 (.int .i64 0) 1 8 Try.underlying22 hi hz0 hz1 hz2 rfl (by decide) (.slice pa Lp cp) ps.length (ps.map I) (by rfl) (HG5.out.p.alloc _) (some ⟨w5.heap.size, 0, none⟩) 1 1 [.int .i64 0] (by rfl) rfl (fun j u hu => ⟨_, rfl, cell_one_new w5 _ _ j u hu⟩) (by simp [Value.oneCell']) HB2.out.1 HB2.out.2 HL5.out ?_; intro v7 w7 hown6 hg6 _ hO6; obtain ⟨⟨hd1, hd2⟩, hM6⟩ := HG5.out.put2 ((Chg.refl _ w5).alloc _) hg6 hown6 rfl hO6; obtain ⟨al6, L6, cl6, rfl, hL6⟩ := own_nm hM6.p)
                            go_roundw
                            case rel => exact ⟨k + 1, HLT.out, by go_num, _, _, by rw [H1.out, H2.out]; exact hM6⟩
                            case measure => exact fit_meas k m HLT.out
                          · have eA : ((a.length : Int) == 0) = false := by rw [beq_eq_false_iff_ne]; have := List.length_pos_iff.2 ha0; omega
                            have HDA := Lib.hid (decide_eq_false ha0)
                            have HNA := Lib.hid ha0
                            clear ha0
                            have HFK := Lib.hid (show f k = (0, q * x + t) by rw [HFK0.out, if_pos (by have := HTX.out; omega), HDA.out]; rfl)
                            have HGA := Lib.hid (hGa.fr ((Chg.refl (fun _ => False) wq).alloc (.cells #[.slice (some ⟨gx, 0, none⟩) n cx, .slice (some ⟨gy, 0, none⟩) n cy] 22)))
                            have hpl := r11place_any _ _ X (A ++ [t]) (wq.alloc (.cells #[.slice (some ⟨gx, 0, none⟩) n cx, .slice (some ⟨gy, 0, none⟩) n cy] 22)) (HOX.out.ls.fr (hGa.ch.alloc _)) (hLa.fr ((Chg.refl _ wq).alloc _))
                            unfold GavePl at hpl
                            generalize plB X (A ++ [t]) = PB at *
                            rw [HCI.out.1 HNA.out (by have := HTX.out; omega)] at hpl
                            have h1 := tabW_1 k f
                            have h2 := tabW_2 k f
                            rw [HFK.out] at h1 h2
                            have hol : ((tabW k f).map (·.1)).length ≤ 1000000 := by rw [List.length_map, tabW_length]; have := HLT.out; omega
                            have hpl2 : ((tabW k f).map (·.2)).length ≤ 1000000 := by rw [List.length_map, tabW_length]; have := HLT.out; omega
                            clear hGa hLa
                            go_wp2_with fail
                            refine hpl.mono ?_
                            clear hpl
                            rintro e9 w6 ⟨rfl, hC6⟩
                            have hG := HGA.out.fr hC6
                            have HB1 := Lib.hid (app_fit hol)
                            have HB2 := Lib.hid (app_fit hpl2)
                            have c1 := hG.bx.c1
                            have f1 := hG.bx.f1
                            have hgw : wS.heap.size ≤ w6.heap.size := hG.ch.size
                            generalize (tabW k f).map (·.1) = os at *
                            generalize (tabW k f).map (·.2) = ps at *
                            obtain ⟨oa, Lo, co, rfl, hL0⟩ := own_nm hG.o
                            have HG := Lib.hid hG
                            have HL := Lib.hid (fun (z : Int) => le_al hgw (.cells #[.int .i64 z] 3))
                            have H1 := Lib.hid h1
                            have H2 := Lib.hid h2
                            clear hG hC6 hol hpl2 hL0 hgw h1 h2
                            go_upto_region 38 with (at_builtin; refine wpList_append_own_any (by rfl) (.tmp 182) (.tmp 184) 22 (by rfl) wS.heap.size 3 i0 (.int .i64 0) 1 8 Try.underlying22 hi hz0 hz1 hz2 rfl (by decide) (.slice oa Lo co) os.length (os.map I) (by rfl) (HG.out.o.alloc _) (some ⟨w6.heap.size, 0, none⟩) 1 1 [.int .i64 0] (by rfl) rfl (fun j u hu => ⟨_, rfl, cell_one_new w6 _ _ j u hu⟩) (by simp [Value.oneCell']) HB1.out.1 HB1.out.2 (HL.out _) ?_; intro v4 w4 hown4 hg4 _ hO4; obtain ⟨⟨hd1, hd2⟩, hM4⟩ := HG.out.put1 ((Chg.refl _ w6).alloc _) hg4 hown4 rfl hO4; clear hown4 hg4 hO4; obtain ⟨al4, L4, cl4, rfl, hL4⟩ := own_nm hM4.o)
                            generalize w4.setCell ⟨gb, 1, none⟩ (.slice al4 L4 cl4) = w5 at *
                            obtain ⟨pa, Lp, cp, rfl, hL5⟩ := own_nm hM4.p
                            have c2 := hM4.bx.c2
                            have f2 := hM4.bx.f2
                            have hgw5 : wS.heap.size ≤ w5.heap.size := hM4.ch.size
                            have HG5 := Lib.hid hM4
                            have HL5 := Lib.hid (le_al hgw5 (.cells #[.int .i64 (q * x + t)] 3))
                            clear hM4 hL4 hL5 hd1 hd2 c1 f1 hgw5
                            go_wp2_with (at_builtin; refine wpList_append_own_any (by rfl) (.tmp 188) (.tmp 190) 22 (by rfl) wS.heap.size 3 i0 (.int .i64 0) 1 8 Try.underlying22 hi hz0 hz1 hz2 rfl (by decide) (.slice pa Lp cp) ps.length (ps.map I) (by rfl) (HG5.out.p.alloc _) (some ⟨w5.heap.size, 0, none⟩) 1 1 [.int .i64 (q * x + t)] (by rfl) rfl (fun j u hu => ⟨_, rfl, cell_one_new w5 _ _ j u hu⟩) (by simp [Value.oneCell']) HB2.out.1 HB2.out.2 HL5.out ?_; intro v7 w7 hown6 hg6 _ hO6; obtain ⟨⟨hd1, hd2⟩, hM6⟩ := HG5.out.put2 ((Chg.refl _ w5).alloc _) hg6 hown6 rfl hO6; obtain ⟨al6, L6, cl6, rfl, hL6⟩ := own_nm hM6.p)
                            go_roundw
                            case rel => exact ⟨k + 1, HLT.out, by go_num, _, _, by rw [H1.out, H2.out]; exact hM6⟩
                            case measure => exact fit_meas k m HLT.out
                      · have HTX := Lib.hid ht
                        have hd1 : decide (x ≤ t) = true := decide_eq_true (by omega)
                        have hws : IntKind.i64.wrap (t - x) = t - x := IntWalk.i64_in _ (by have := HTB.out; have := HXB.out; omega)
                        go_wp2_with fail
                        go_region
                        all_goals
                          go_wp2_with fail
                          go_region
                          all_goals
                            go_upto_region 34 with (fail)
                            have hGa := HG.out.fr (((HC7.out.setCell (p := ⟨ga, d, none⟩) (.inr HGA7.out) (.int .i64 (t - x))).drew).drew)
                            have hLa := (own_put HO7.out d (t - x)).ls.fr (((Chg.refl _ _).drew).drew)
                            rw [snoc_set HAL.out] at hLa
                            generalize (w7.setCell ⟨ga, d, none⟩ (.int .i64 (t - x))).drew.drew = wq at *
                            clear hac haf hxc hd1 hws ht
                            by_cases hb0 : b = []
                            · have eB : ((b.length : Int) == 0) = true := by rw [hb0]; rfl
                              have HDB := Lib.hid (decide_eq_true hb0)
                              clear hb0
                              have HFK := Lib.hid (show f k = (1, 0) by rw [HFK0.out, if_neg (by have := HTX.out; omega), HDB.out]; rfl)
                              have HGA := Lib.hid (hGa.fr ((Chg.refl (fun _ => False) wq).alloc (.cells #[.slice (some ⟨gx, 0, none⟩) n cx, .slice (some ⟨gy, 0, none⟩) n cy] 22)))
                              have hpl := r11place_any _ _ Y (A ++ [t - x]) (wq.alloc (.cells #[.slice (some ⟨gx, 0, none⟩) n cx, .slice (some ⟨gy, 0, none⟩) n cy] 22)) (HOY.out.ls.fr (hGa.ch.alloc _)) (hLa.fr ((Chg.refl _ wq).alloc _))
                              unfold GavePl at hpl
                              generalize plB Y (A ++ [t - x]) = PB at *
                              generalize plN Y (A ++ [t - x]) = P at *
                              have h1 := tabW_1 k f
                              have h2 := tabW_2 k f
                              rw [HFK.out] at h1 h2
                              have hol : ((tabW k f).map (·.1)).length ≤ 1000000 := by rw [List.length_map, tabW_length]; have := HLT.out; omega
                              have hpl2 : ((tabW k f).map (·.2)).length ≤ 1000000 := by rw [List.length_map, tabW_length]; have := HLT.out; omega
                              clear hGa hLa
                              go_wp2_with fail
                              refine hpl.mono ?_
                              clear hpl
                              rintro e9 w6 ⟨rfl, hC6⟩
                              have hG := HGA.out.fr hC6
                              have HB1 := Lib.hid (app_fit hol)
                              have HB2 := Lib.hid (app_fit hpl2)
                              have c1 := hG.bx.c1
                              have f1 := hG.bx.f1
                              have hgw : wS.heap.size ≤ w6.heap.size := hG.ch.size
                              generalize (tabW k f).map (·.1) = os at *
                              generalize (tabW k f).map (·.2) = ps at *
                              obtain ⟨oa, Lo, co, rfl, hL0⟩ := own_nm hG.o
                              have HG := Lib.hid hG
                              have HL := Lib.hid (fun (z : Int) => le_al hgw (.cells #[.int .i64 z] 3))
                              have H1 := Lib.hid h1
                              have H2 := Lib.hid h2
                              clear hG hC6 hol hpl2 hL0 hgw h1 h2
                              go_upto_region 38 with (at_builtin; refine wpList_append_own_any (by rfl) (.tmp 182) (.tmp 184) 22 (by rfl) wS.heap.size 3 i0 (.int .i64 0) 1 8 Try.underlying22 hi hz0 hz1 hz2 rfl (by decide) (.slice oa Lo co) os.length (os.map I) (by rfl) (HG.out.o.alloc _) (some ⟨w6.heap.size, 0, none⟩) 1 1 [.int .i64 1] (by rfl) rfl (fun j u hu => ⟨_, rfl, cell_one_new w6 _ _ j u hu⟩) (by simp [Value.oneCell']) HB1.out.1 HB1.out.2 (HL.out _) ?_; intro v4 w4 hown4 hg4 _ hO4; obtain ⟨⟨hd1, hd2⟩, hM4⟩ := HG.out.put1 ((Chg.refl _ w6).alloc _) hg4 hown4 rfl hO4; clear hown4 hg4 hO4; obtain ⟨al4, L4, cl4, rfl, hL4⟩ := own_nm hM4.o)
                              generalize w4.setCell ⟨gb, 1, none⟩ (.slice al4 L4 cl4) = w5 at *
                              obtain ⟨pa, Lp, cp, rfl, hL5⟩ := own_nm hM4.p
                              have c2 := hM4.bx.c2
                              have f2 := hM4.bx.f2
                              have hgw5 : wS.heap.size ≤ w5.heap.size := hM4.ch.size
                              have HG5 := Lib.hid hM4
                              have HL5 := Lib.hid (le_al hgw5 (.cells #[.int .i64 0] 3))
                              clear hM4 hL4 hL5 hd1 hd2 c1 f1 hgw5
                              go_wp2_with (at_builtin; refine wpList_append_own_any (by rfl) (.tmp 188) (.tmp 190) 22 (by rfl) wS.heap.size 3 i0 (.int .i64 0) 1 8 Try.underlying22 hi hz0 hz1 hz2 rfl (by decide) (.slice pa Lp cp) ps.length (ps.map I) (by rfl) (HG5.out.p.alloc _) (some ⟨w5.heap.size, 0, none⟩) 1 1 [.int .i64 0] (by rfl) rfl (fun j u hu => ⟨_, rfl, cell_one_new w5 _ _ j u hu⟩) (by simp [Value.oneCell']) HB2.out.1 HB2.out.2 HL5.out ?_; intro v7 w7 hown6 hg6 _ hO6; obtain ⟨⟨hd1, hd2⟩, hM6⟩ := HG5.out.put2 ((Chg.refl _ w5).alloc _) hg6 hown6 rfl hO6; obtain ⟨al6, L6, cl6, rfl, hL6⟩ := own_nm hM6.p)
                              go_roundw
                              case rel => exact ⟨k + 1, HLT.out, by go_num, _, _, by rw [H1.out, H2.out]; exact hM6⟩
                              case measure => exact fit_meas k m HLT.out
                            · have eB : ((b.length : Int) == 0) = false := by rw [beq_eq_false_iff_ne]; have := List.length_pos_iff.2 hb0; omega
                              have HDB := Lib.hid (decide_eq_false hb0)
                              have HNB := Lib.hid hb0
                              clear hb0
                              have HFK := Lib.hid (show f k = (1, q * y + t - x) by rw [HFK0.out, if_neg (by have := HTX.out; omega), HDB.out]; rfl)
                              have HGA := Lib.hid (hGa.fr ((Chg.refl (fun _ => False) wq).alloc (.cells #[.slice (some ⟨gx, 0, none⟩) n cx, .slice (some ⟨gy, 0, none⟩) n cy] 22)))
                              have hpl := r11place_any _ _ Y (A ++ [t - x]) (wq.alloc (.cells #[.slice (some ⟨gx, 0, none⟩) n cx, .slice (some ⟨gy, 0, none⟩) n cy] 22)) (HOY.out.ls.fr (hGa.ch.alloc _)) (hLa.fr ((Chg.refl _ wq).alloc _))
                              unfold GavePl at hpl
                              generalize plB Y (A ++ [t - x]) = PB at *
                              rw [HCI.out.2 HNB.out (by have := HTX.out; omega)] at hpl
                              have h1 := tabW_1 k f
                              have h2 := tabW_2 k f
                              rw [HFK.out] at h1 h2
                              have hol : ((tabW k f).map (·.1)).length ≤ 1000000 := by rw [List.length_map, tabW_length]; have := HLT.out; omega
                              have hpl2 : ((tabW k f).map (·.2)).length ≤ 1000000 := by rw [List.length_map, tabW_length]; have := HLT.out; omega
                              clear hGa hLa
                              go_wp2_with fail
                              refine hpl.mono ?_
                              clear hpl
                              rintro e9 w6 ⟨rfl, hC6⟩
                              have hG := HGA.out.fr hC6
                              have HB1 := Lib.hid (app_fit hol)
                              have HB2 := Lib.hid (app_fit hpl2)
                              have c1 := hG.bx.c1
                              have f1 := hG.bx.f1
                              have hgw : wS.heap.size ≤ w6.heap.size := hG.ch.size
                              generalize (tabW k f).map (·.1) = os at *
                              generalize (tabW k f).map (·.2) = ps at *
                              obtain ⟨oa, Lo, co, rfl, hL0⟩ := own_nm hG.o
                              have HG := Lib.hid hG
                              have HL := Lib.hid (fun (z : Int) => le_al hgw (.cells #[.int .i64 z] 3))
                              have H1 := Lib.hid h1
                              have H2 := Lib.hid h2
                              clear hG hC6 hol hpl2 hL0 hgw h1 h2
                              go_upto_region 38 with (at_builtin; refine wpList_append_own_any (by rfl) (.tmp 182) (.tmp 184) 22 (by rfl) wS.heap.size 3 i0 (.int .i64 0) 1 8 Try.underlying22 hi hz0 hz1 hz2 rfl (by decide) (.slice oa Lo co) os.length (os.map I) (by rfl) (HG.out.o.alloc _) (some ⟨w6.heap.size, 0, none⟩) 1 1 [.int .i64 1] (by rfl) rfl (fun j u hu => ⟨_, rfl, cell_one_new w6 _ _ j u hu⟩) (by simp [Value.oneCell']) HB1.out.1 HB1.out.2 (HL.out _) ?_; intro v4 w4 hown4 hg4 _ hO4; obtain ⟨⟨hd1, hd2⟩, hM4⟩ := HG.out.put1 ((Chg.refl _ w6).alloc _) hg4 hown4 rfl hO4; clear hown4 hg4 hO4; obtain ⟨al4, L4, cl4, rfl, hL4⟩ := own_nm hM4.o)
                              generalize w4.setCell ⟨gb, 1, none⟩ (.slice al4 L4 cl4) = w5 at *
                              obtain ⟨pa, Lp, cp, rfl, hL5⟩ := own_nm hM4.p
                              have c2 := hM4.bx.c2
                              have f2 := hM4.bx.f2
                              have hgw5 : wS.heap.size ≤ w5.heap.size := hM4.ch.size
                              have HG5 := Lib.hid hM4
                              have HL5 := Lib.hid (le_al hgw5 (.cells #[.int .i64 (q * y + t - x)] 3))
                              clear hM4 hL4 hL5 hd1 hd2 c1 f1 hgw5
                              go_wp2_with (at_builtin; refine wpList_append_own_any (by rfl) (.tmp 188) (.tmp 190) 22 (by rfl) wS.heap.size 3 i0 (.int .i64 0) 1 8 Try.underlying22 hi hz0 hz1 hz2 rfl (by decide) (.slice pa Lp cp) ps.length (ps.map I) (by rfl) (HG5.out.p.alloc _) (some ⟨w5.heap.size, 0, none⟩) 1 1 [.int .i64 (q * y + t - x)] (by rfl) rfl (fun j u hu => ⟨_, rfl, cell_one_new w5 _ _ j u hu⟩) (by simp [Value.oneCell']) HB2.out.1 HB2.out.2 HL5.out ?_; intro v7 w7 hown6 hg6 _ hO6; obtain ⟨⟨hd1, hd2⟩, hM6⟩ := HG5.out.put2 ((Chg.refl _ w5).alloc _) hg6 hown6 rfl hO6; obtain ⟨al6, L6, cl6, rfl, hL6⟩ := own_nm hM6.p)
                              go_roundw
                              case rel => exact ⟨k + 1, HLT.out, by go_num, _, _, by rw [H1.out, H2.out]; exact hM6⟩
                              case measure => exact fit_meas k m HLT.out
                    · obtain rfl : k = m := by omega
                      obtain ⟨z0, z1, z2, k0, k1, k2⟩ := (HR0.out.fr HCS.out).fr hG.ch
                      obtain ⟨oa1, Lo1, co1, rfl, hL2⟩ := own_nm hG.o
                      obtain ⟨pa1, Lp1, cp1, rfl, hL3⟩ := own_nm hG.p
                      obtain ⟨⟨g0, g1⟩, g2⟩ := set3_cells (.slice (some ⟨gs, 0, none⟩) n cs) (.slice oa1 Lo1 co1) (.slice pa1 Lp1 cp1) z0 z1 z2
                      obtain ⟨b0, b1, b2, k3, k4, k5⟩ := id hG.bx
                      have HGL := Lib.hid (hG.up (HC0.out.tr HCS.out))
                      clear hG hlt hk hL2 hL3
                      go_wp2
                      simp [bodyPost, results, Try.results22, go_sem, g0, g1, g2]
                      rw [HCG.out]
                      exact HGL.out.leave (Nat.le_refl _) (Nat.lt_of_lt_of_le HBB.out HBS.out) rfl rfl
          · rw [decide_eq_false hFF] at hshp
            have HR := Lib.hid (show catW a b = noW 4 by unfold catW; rw [HSA.out, HSB.out, HSD.out, if_neg hFF]; rfl)
            clear hFF
            go_wp2_with fail
            go_region_with (go_at_call 78; (with_reducible refine hshp.mono ?_); rintro e9 w3 ⟨rfl, hC3⟩)
            all_goals
              clear hshp hx4 hy4
              replace hC3 : Chg (fun _ => False) wb w3 := ((Chg.refl (fun _ => False) wb).drew).tr hC3
              obtain ⟨z0, z1, z2, k0, k1, k2⟩ := (HR0.out.fr HT.out.ch).fr hC3
              obtain ⟨⟨g0, g1⟩, g2⟩ := set3_cells (.slice none 0 0) (.slice none 0 0) (.slice none 0 0) z0 z1 z2
              skip
              go_wp2
              simp [bodyPost, results, Try.results22, go_sem, g0, g1, g2]
              rw [HR.out]
              exact gx_no (Nat.le_refl _) ((HC0.out.tr HT.out.ch).tr hC3)
end Go.Proofs.Ytceooipljhjpaaa
