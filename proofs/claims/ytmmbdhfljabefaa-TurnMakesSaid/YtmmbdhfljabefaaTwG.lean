/- What comes of an array, by the document. -/
import Derived.Test.YtmmbdhfljabefaaTwC
import Derived.Test.YtmmbdhfljabefaaTwE
import Derived.Test.YtmmbdhfljabefaaTuY
import Derived.Test.YtmmbdhfljabefaaTwF
namespace Go.Proofs.Ytmmbdhfljabefaa
open Go.RowKit Go.Shelf

def NoG (Y : Wy) : Prop := Y.n ≠ 0 → Y.s = [] ∧ Y.g = []
theorem told_nog {s : List Int} {Y : Wy} (h : Y.n = 0) : NoG (toldW s Y) := by
  unfold toldW
  cases shB s with
  | true => exact fun hn => absurd h hn
  | false => exact fun _ => ⟨rfl, rfl⟩
theorem rot_nog (L : Ar) (s : List Int) : NoG (rotW L s) := by
  intro hn
  by_cases h : rotE L s = 0
  · rw [show rotW L s = ⟨s, alongG s (rotF L s), 0⟩ from if_pos h] at hn
    exact absurd rfl hn
  · rw [rotW_no rfl h]
    exact ⟨rfl, rfl⟩
theorem per_nog (L : Ar) (s : List Int) : NoG (perW L s) := by
  intro hn
  by_cases h : perE L s = 0
  · rw [show perW L s = ⟨outL s (axesP L.e), axG s (axesP L.e), 0⟩ from if_pos h] at hn
    exact absurd rfl hn
  · rw [perW_no rfl h]
    exact ⟨rfl, rfl⟩
theorem gon_tg {Y : Wy} {A : Ar} (hA : chkB A = true) (hW : WayOk Y A) (hN : NoG Y) : gonA Y A = tgA Y A ∧ Y.n = tgN Y A ∧ GoodG Y.g A A ∧ Y.s.length ≤ 1000000 ∧ Y.g.length ≤ 1000000 := by
  obtain ⟨hs, hl, hc, _, _⟩ := chk_len hA
  have h1 := (way_tells hA hW).1
  by_cases h : Y.n = 0
  · obtain ⟨P, h2, h3, _, h5, h6⟩ := hW h
    obtain ⟨s, g, n⟩ := Y
    simp only at h h2 h5 h6
    subst h h2
    have ht := tg_tab hA h5 h6 hl h3
    have h8 := shB_iff.1 h5
    refine ⟨?_, h1.symm, ?_, by show s.length ≤ 1000000; omega, by show (tabG _ _).length ≤ 1000000; rw [tabG_length]; omega⟩
    · rw [ht.2]
      show (⟨A.k, s, (tabG (cnt A.s) (fun i => (0, P i))).map (pickG A.k A A)⟩ : Ar) = _
      congr 1
      unfold tabG mvE
      rw [List.map_map]
      apply List.map_congr_left
      intro i _
      show pickG A.k A A (0, P i) = _
      unfold pickG
      rw [if_pos rfl]
    · intro x hx
      obtain ⟨i, hi, rfl⟩ := List.mem_map.1 hx
      have := h3 i (List.mem_range.1 hi)
      exact ⟨fun _ => by simp only; omega, fun h => absurd h (show ¬ (0 : Int) = 1 by decide)⟩
  · obtain ⟨h2, h3⟩ := hN h
    refine ⟨?_, h1.symm, ?_, by rw [h2]; simp, by rw [h3]; simp⟩
    · rw [(tg_no hA h).1]
      unfold gonA
      rw [if_neg h]
    · rw [h3]
      intro x hx
      cases hx
set_option maxRecDepth 100000 in
set_option maxHeartbeats 2000000 in
theorem r14revOf_any  (v : Value) (A : Ar) (w : World)  (hA : Ara w v A) (hsl : A.s.length ≤ 1000000) (hle : A.e.length ≤ 1000000) : Calls Try.prog 34 #[v] w (GaveAE w (tgA (revW A.s) A) (tgN (revW A.s) A)) := by
  have HA := Lib.hid (show ∀ w', Chg (fun _ => False) w w' → Ara w' v A from fun w' h => hA.fr h)
  skip
  obtain ⟨vt, ve, hv, ht, he⟩ := id hA
  subst hv
  obtain ⟨ta, ct, rfl, _⟩ := ht.form
  obtain ⟨ae, ce, rfl, _⟩ := he.form
  have hC0 := ((Chg.refl (fun _ => False) w).alloc (.cells #[.int .i64 A.k, .slice ta A.s.length ct, .slice ae A.e.length ce] 25)).alloc (.cells #[.int .i64 0, .slice none 0 0, .slice none 0 0] 25)
  have hB0 := Bx.new (w.alloc (.cells #[.int .i64 A.k, .slice ta A.s.length ct, .slice ae A.e.length ce] 25)) (.int .i64 0) (.slice none 0 0) (.slice none 0 0) 25
  obtain ⟨y0, y1, y2⟩ := cell_two w (.int .i64 A.k) (.slice ta A.s.length ct) (.slice ae A.e.length ce) 25
  replace y0 := alloc_cell y0 (.cells #[.int .i64 0, .slice none 0 0, .slice none 0 0] 25)
  replace y1 := alloc_cell y1 (.cells #[.int .i64 0, .slice none 0 0, .slice none 0 0] 25)
  replace y2 := alloc_cell y2 (.cells #[.int .i64 0, .slice none 0 0, .slice none 0 0] 25)
  simp only [World.size_alloc] at hB0 y0 y1 y2
  have hck := r11check_any _ A _ (HA.out _ hC0) hle
  have HC := Lib.hid hC0
  have HS := Lib.hid (show ∀ w', Chg (fun _ => False) w w' → Ls w' (.slice ta A.s.length ct) A.s from fun w' h => ht.fr h)
  clear hA ht he
  cases hcb : chkB A with
  | false =>
    rw [show chkE A = 110 by unfold chkE; rw [hcb]; rfl] at hck
    have HR := Lib.hid (show tgA (revW A.s) A = noA ∧ tgN (revW A.s) A = 110 by unfold tgA tgN; rw [hcb]; exact ⟨rfl, rfl⟩)
    clear hcb
    go_enter Try.func34, Try.ntmps34
    go_wp2_with fail
    refine hck.mono ?_
    clear hck
    rintro e9 w1 ⟨rfl, hC1⟩
    obtain ⟨z0, z1, z2, x0', x1', x2'⟩ := hB0.fr hC1
    obtain ⟨⟨g0, g1⟩, g2⟩ := set3_cells (.int .i64 0) (.slice none 0 0) (.slice none 0 0) z0 z1 z2
    have HC1 := Lib.hid (HC.out.tr hC1)
    clear hC1 hC0 hB0 y0 y1 y2
    go_wp2
    simp [bodyPost, results, Try.results34, go_sem, g0, g1, g2]
    rw [HR.out.1, HR.out.2]
    exact leaveNo (by omega) HC1.out
  | true =>
    rw [show chkE A = 0 by unfold chkE; rw [hcb]; rfl] at hck
    have HT := Lib.hid (gon_tg hcb (rev_way A hcb) (told_nog rfl))
    have hdoc := (fun (w' : World) (h : Chg (fun _ => False) w w') => r14rev_any _ A.s w' (HS.out w' h) hsl)
    obtain ⟨Y, hY⟩ : ∃ Y, (revW A.s) = Y := ⟨_, rfl⟩
    rw [hY] at HT hdoc ⊢
    have HD := Lib.hid hdoc
    clear hcb hY hdoc
    go_enter Try.func34, Try.ntmps34
    go_wp2_with fail
    refine hck.mono ?_
    clear hck
    rintro e9 w1 ⟨rfl, hC1⟩
    replace y0 := hC1.cell y0 id
    replace y1 := hC1.cell y1 id
    replace y2 := hC1.cell y2 id
    skip
    have hdoc := HD.out _ (HC.out.tr hC1)
    replace hB0 := hB0.fr hC1
    replace HC := Lib.hid (HC.out.tr hC1)
    clear hC1 hC0
    go_wp2_with fail
    refine hdoc.mono ?_
    clear hdoc
    rintro e9 w2 ⟨v9, rfl, hG9, hC2⟩
    obtain ⟨vs, vo, vp, rfl, hs9, ho9, hp9⟩ := id hG9
    have hv0 : vs.oneCell' = true := by obtain ⟨_, _, rfl, _⟩ := hs9.form; rfl
    have hv1 : vo.oneCell' = true := by obtain ⟨_, _, rfl, _⟩ := ho9.form; rfl
    have hv2 : vp.oneCell' = true := by obtain ⟨_, _, rfl, _⟩ := hp9.form; rfl
    have st0 := fun (a : Addr) (m : Mode) (w : World) => run_store Try.prog w a vs m hv0
    have st1 := fun (a : Addr) (m : Mode) (w : World) => run_store Try.prog w a vo m hv1
    have st2 := fun (a : Addr) (m : Mode) (w : World) => run_store Try.prog w a vp m hv2
    have hC8 := hC2.alloc (.cells #[vs, vo, vp] 38)
    obtain ⟨g0, g1, g2⟩ := cell_two w2 vs vo vp 38
    have hG := hG9.fr ((Chg.refl _ _).alloc (.cells #[vs, vo, vp] 38))
    replace y0 := hC8.cell y0 id
    replace y1 := hC8.cell y1 id
    replace y2 := hC8.cell y2 id
    replace hB0 := hB0.fr hC8
    replace HC := Lib.hid (HC.out.tr hC8)
    obtain ⟨x9, hx⟩ : ∃ x, w2.heap.size = x := ⟨_, rfl⟩
    rw [hx] at g0 g1 g2
    clear hC2 hG9 hs9 ho9 hp9 hC8 
    go_upto_region 4 with (fail)
    clear hx st0 st1 st2 hv0 hv1 hv2
    generalize w2.alloc (.cells #[vs, vo, vp] 38) = w3 at *
    have hgo := r13gone_any _ _ Y.s Y.g Y.n A _ hG (HA.out _ HC.out) HT.out.2.2.1 HT.out.2.2.2.1 HT.out.2.2.2.2 hle
    rw [show gonA ⟨Y.s, Y.g, Y.n⟩ A = tgA Y A from HT.out.1] at hgo
    have HNN := Lib.hid HT.out.2.1
    obtain ⟨B, hB⟩ : ∃ B, tgA Y A = B := ⟨_, rfl⟩
    rw [hB] at hgo ⊢
    have HBB := Lib.hid hB
    clear hB hG
    have hlt := hB0.lt
    have HLT := Lib.hid hlt
    clear hlt
    go_wp2_with fail
    refine hgo.mono ?_
    clear hgo g0 g1 g2 y0 y1 y2
    rintro e9 w4 ⟨v4, rfl, ho4, hC4⟩
    obtain ⟨a5, c5, a6, c6, hv4, q1, q2⟩ := ara_new ho4
    subst hv4
    obtain ⟨z0, z1, z2, x0', x1', x2'⟩ := hB0.fr hC4
    obtain ⟨⟨g0, g1⟩, g2⟩ := set3_cells (.int .i64 B.k) (.slice a5 B.s.length c5) (.slice a6 B.e.length c6) z0 z1 z2
    have HC4 := Lib.hid (HC.out.tr hC4)
    clear hC4 ho4 hB0
    go_wp2
    simp [bodyPost, results, Try.results34, go_sem, g0, g1, g2]
    rw [← HNN.out, HBB.out]
    show GaveAE w ⟨B.k, B.s, B.e⟩ Y.n _ _
    exact leaveAE q1 q2 (by omega) HLT.out HLT.out HC4.out
set_option maxRecDepth 100000 in
set_option maxHeartbeats 2000000 in
theorem r14traOf_any  (v : Value) (A : Ar) (w : World)  (hA : Ara w v A) (hsl : A.s.length ≤ 1000000) (hle : A.e.length ≤ 1000000) : Calls Try.prog 35 #[v] w (GaveAE w (tgA (toldW A.s (traW A.s)) A) (tgN (toldW A.s (traW A.s)) A)) := by
  have HA := Lib.hid (show ∀ w', Chg (fun _ => False) w w' → Ara w' v A from fun w' h => hA.fr h)
  skip
  obtain ⟨vt, ve, hv, ht, he⟩ := id hA
  subst hv
  obtain ⟨ta, ct, rfl, _⟩ := ht.form
  obtain ⟨ae, ce, rfl, _⟩ := he.form
  have hC0 := ((Chg.refl (fun _ => False) w).alloc (.cells #[.int .i64 A.k, .slice ta A.s.length ct, .slice ae A.e.length ce] 25)).alloc (.cells #[.int .i64 0, .slice none 0 0, .slice none 0 0] 25)
  have hB0 := Bx.new (w.alloc (.cells #[.int .i64 A.k, .slice ta A.s.length ct, .slice ae A.e.length ce] 25)) (.int .i64 0) (.slice none 0 0) (.slice none 0 0) 25
  obtain ⟨y0, y1, y2⟩ := cell_two w (.int .i64 A.k) (.slice ta A.s.length ct) (.slice ae A.e.length ce) 25
  replace y0 := alloc_cell y0 (.cells #[.int .i64 0, .slice none 0 0, .slice none 0 0] 25)
  replace y1 := alloc_cell y1 (.cells #[.int .i64 0, .slice none 0 0, .slice none 0 0] 25)
  replace y2 := alloc_cell y2 (.cells #[.int .i64 0, .slice none 0 0, .slice none 0 0] 25)
  simp only [World.size_alloc] at hB0 y0 y1 y2
  have hck := r11check_any _ A _ (HA.out _ hC0) hle
  have HC := Lib.hid hC0
  have HS := Lib.hid (show ∀ w', Chg (fun _ => False) w w' → Ls w' (.slice ta A.s.length ct) A.s from fun w' h => ht.fr h)
  clear hA ht he
  cases hcb : chkB A with
  | false =>
    rw [show chkE A = 110 by unfold chkE; rw [hcb]; rfl] at hck
    have HR := Lib.hid (show tgA (toldW A.s (traW A.s)) A = noA ∧ tgN (toldW A.s (traW A.s)) A = 110 by unfold tgA tgN; rw [hcb]; exact ⟨rfl, rfl⟩)
    clear hcb
    go_enter Try.func35, Try.ntmps35
    go_wp2_with fail
    refine hck.mono ?_
    clear hck
    rintro e9 w1 ⟨rfl, hC1⟩
    obtain ⟨z0, z1, z2, x0', x1', x2'⟩ := hB0.fr hC1
    obtain ⟨⟨g0, g1⟩, g2⟩ := set3_cells (.int .i64 0) (.slice none 0 0) (.slice none 0 0) z0 z1 z2
    have HC1 := Lib.hid (HC.out.tr hC1)
    clear hC1 hC0 hB0 y0 y1 y2
    go_wp2
    simp [bodyPost, results, Try.results35, go_sem, g0, g1, g2]
    rw [HR.out.1, HR.out.2]
    exact leaveNo (by omega) HC1.out
  | true =>
    rw [show chkE A = 0 by unfold chkE; rw [hcb]; rfl] at hck
    have HT := Lib.hid (gon_tg hcb (tra_way A hcb) (told_nog rfl))
    have hdoc := (fun (w' : World) (h : Chg (fun _ => False) w w') => (fun (_ : A.s.length ≤ 1000000) => r14tra_any _ A.s w' (HS.out w' h)) hsl)
    obtain ⟨Y, hY⟩ : ∃ Y, (toldW A.s (traW A.s)) = Y := ⟨_, rfl⟩
    rw [hY] at HT hdoc ⊢
    have HD := Lib.hid hdoc
    clear hcb hY hdoc
    go_enter Try.func35, Try.ntmps35
    go_wp2_with fail
    refine hck.mono ?_
    clear hck
    rintro e9 w1 ⟨rfl, hC1⟩
    replace y0 := hC1.cell y0 id
    replace y1 := hC1.cell y1 id
    replace y2 := hC1.cell y2 id
    skip
    have hdoc := HD.out _ (HC.out.tr hC1)
    replace hB0 := hB0.fr hC1
    replace HC := Lib.hid (HC.out.tr hC1)
    clear hC1 hC0
    go_wp2_with fail
    refine hdoc.mono ?_
    clear hdoc
    rintro e9 w2 ⟨v9, rfl, hG9, hC2⟩
    obtain ⟨vs, vo, vp, rfl, hs9, ho9, hp9⟩ := id hG9
    have hv0 : vs.oneCell' = true := by obtain ⟨_, _, rfl, _⟩ := hs9.form; rfl
    have hv1 : vo.oneCell' = true := by obtain ⟨_, _, rfl, _⟩ := ho9.form; rfl
    have hv2 : vp.oneCell' = true := by obtain ⟨_, _, rfl, _⟩ := hp9.form; rfl
    have st0 := fun (a : Addr) (m : Mode) (w : World) => run_store Try.prog w a vs m hv0
    have st1 := fun (a : Addr) (m : Mode) (w : World) => run_store Try.prog w a vo m hv1
    have st2 := fun (a : Addr) (m : Mode) (w : World) => run_store Try.prog w a vp m hv2
    have hC8 := hC2.alloc (.cells #[vs, vo, vp] 38)
    obtain ⟨g0, g1, g2⟩ := cell_two w2 vs vo vp 38
    have hG := hG9.fr ((Chg.refl _ _).alloc (.cells #[vs, vo, vp] 38))
    replace y0 := hC8.cell y0 id
    replace y1 := hC8.cell y1 id
    replace y2 := hC8.cell y2 id
    replace hB0 := hB0.fr hC8
    replace HC := Lib.hid (HC.out.tr hC8)
    obtain ⟨x9, hx⟩ : ∃ x, w2.heap.size = x := ⟨_, rfl⟩
    rw [hx] at g0 g1 g2
    clear hC2 hG9 hs9 ho9 hp9 hC8 
    go_upto_region 4 with (fail)
    clear hx st0 st1 st2 hv0 hv1 hv2
    generalize w2.alloc (.cells #[vs, vo, vp] 38) = w3 at *
    have hgo := r13gone_any _ _ Y.s Y.g Y.n A _ hG (HA.out _ HC.out) HT.out.2.2.1 HT.out.2.2.2.1 HT.out.2.2.2.2 hle
    rw [show gonA ⟨Y.s, Y.g, Y.n⟩ A = tgA Y A from HT.out.1] at hgo
    have HNN := Lib.hid HT.out.2.1
    obtain ⟨B, hB⟩ : ∃ B, tgA Y A = B := ⟨_, rfl⟩
    rw [hB] at hgo ⊢
    have HBB := Lib.hid hB
    clear hB hG
    have hlt := hB0.lt
    have HLT := Lib.hid hlt
    clear hlt
    go_wp2_with fail
    refine hgo.mono ?_
    clear hgo g0 g1 g2 y0 y1 y2
    rintro e9 w4 ⟨v4, rfl, ho4, hC4⟩
    obtain ⟨a5, c5, a6, c6, hv4, q1, q2⟩ := ara_new ho4
    subst hv4
    obtain ⟨z0, z1, z2, x0', x1', x2'⟩ := hB0.fr hC4
    obtain ⟨⟨g0, g1⟩, g2⟩ := set3_cells (.int .i64 B.k) (.slice a5 B.s.length c5) (.slice a6 B.e.length c6) z0 z1 z2
    have HC4 := Lib.hid (HC.out.tr hC4)
    clear hC4 ho4 hB0
    go_wp2
    simp [bodyPost, results, Try.results35, go_sem, g0, g1, g2]
    rw [← HNN.out, HBB.out]
    show GaveAE w ⟨B.k, B.s, B.e⟩ Y.n _ _
    exact leaveAE q1 q2 (by omega) HLT.out HLT.out HC4.out
set_option maxRecDepth 100000 in
set_option maxHeartbeats 2000000 in
theorem r14rotOf_any (u : Value) (L : Ar) (v : Value) (A : Ar) (w : World) (hL : Ara w u L) (hlsl : L.s.length ≤ 1000000) (hlle : L.e.length ≤ 1000000) (hA : Ara w v A) (hsl : A.s.length ≤ 1000000) (hle : A.e.length ≤ 1000000) : Calls Try.prog 36 #[u, v] w (GaveAE w (tgA (rotW L A.s) A) (tgN (rotW L A.s) A)) := by
  have HA := Lib.hid (show ∀ w', Chg (fun _ => False) w w' → Ara w' v A from fun w' h => hA.fr h)
  (obtain ⟨vq, vf, hu, hq, hf⟩ := id hL; subst hu; obtain ⟨qa, cq, rfl, _⟩ := hq.form; obtain ⟨fa, cf, rfl, _⟩ := hf.form; have HLO := Lib.hid (show ∀ w', Chg (fun _ => False) w w' → Ara w' (.agg #[.int .i64 L.k, .slice qa L.s.length cq, .slice fa L.e.length cf]) L from fun w' h => hL.fr h); obtain ⟨l0, l1, l2⟩ := cell_two w (.int .i64 L.k) (.slice qa L.s.length cq) (.slice fa L.e.length cf) 25; clear hq hf hL)
  obtain ⟨vt, ve, hv, ht, he⟩ := id hA
  subst hv
  obtain ⟨ta, ct, rfl, _⟩ := ht.form
  obtain ⟨ae, ce, rfl, _⟩ := he.form
  have hC0 := (((Chg.refl (fun _ => False) w).alloc (.cells #[.int .i64 L.k, .slice qa L.s.length cq, .slice fa L.e.length cf] 25)).alloc (.cells #[.int .i64 A.k, .slice ta A.s.length ct, .slice ae A.e.length ce] 25)).alloc (.cells #[.int .i64 0, .slice none 0 0, .slice none 0 0] 25)
  have hB0 := Bx.new ((w.alloc (.cells #[.int .i64 L.k, .slice qa L.s.length cq, .slice fa L.e.length cf] 25)).alloc (.cells #[.int .i64 A.k, .slice ta A.s.length ct, .slice ae A.e.length ce] 25)) (.int .i64 0) (.slice none 0 0) (.slice none 0 0) 25
  obtain ⟨y0, y1, y2⟩ := cell_two (w.alloc (.cells #[.int .i64 L.k, .slice qa L.s.length cq, .slice fa L.e.length cf] 25)) (.int .i64 A.k) (.slice ta A.s.length ct) (.slice ae A.e.length ce) 25
  replace y0 := alloc_cell y0 (.cells #[.int .i64 0, .slice none 0 0, .slice none 0 0] 25)
  replace y1 := alloc_cell y1 (.cells #[.int .i64 0, .slice none 0 0, .slice none 0 0] 25)
  replace y2 := alloc_cell y2 (.cells #[.int .i64 0, .slice none 0 0, .slice none 0 0] 25)
  simp only [World.size_alloc] at hB0 y0 y1 y2
  have hck := r11check_any _ A _ (HA.out _ hC0) hle
  have HC := Lib.hid hC0
  have HS := Lib.hid (show ∀ w', Chg (fun _ => False) w w' → Ls w' (.slice ta A.s.length ct) A.s from fun w' h => ht.fr h)
  clear hA ht he
  cases hcb : chkB A with
  | false =>
    rw [show chkE A = 110 by unfold chkE; rw [hcb]; rfl] at hck
    have HR := Lib.hid (show tgA (rotW L A.s) A = noA ∧ tgN (rotW L A.s) A = 110 by unfold tgA tgN; rw [hcb]; exact ⟨rfl, rfl⟩)
    clear hcb
    go_enter Try.func36, Try.ntmps36
    go_wp2_with fail
    refine hck.mono ?_
    clear hck
    rintro e9 w1 ⟨rfl, hC1⟩
    obtain ⟨z0, z1, z2, x0', x1', x2'⟩ := hB0.fr hC1
    obtain ⟨⟨g0, g1⟩, g2⟩ := set3_cells (.int .i64 0) (.slice none 0 0) (.slice none 0 0) z0 z1 z2
    have HC1 := Lib.hid (HC.out.tr hC1)
    clear hC1 hC0 hB0 y0 y1 y2
    go_wp2
    simp [bodyPost, results, Try.results36, go_sem, g0, g1, g2]
    rw [HR.out.1, HR.out.2]
    exact leaveNo (by omega) HC1.out
  | true =>
    rw [show chkE A = 0 by unfold chkE; rw [hcb]; rfl] at hck
    have HT := Lib.hid (gon_tg hcb (rot_way L A hcb) (rot_nog L A.s))
    have hdoc := (fun (w' : World) (h : Chg (fun _ => False) w w') => r14rot_any _ _ L A.s w' (HLO.out w' h) (HS.out w' h) hsl hlle hlsl)
    obtain ⟨Y, hY⟩ : ∃ Y, (rotW L A.s) = Y := ⟨_, rfl⟩
    rw [hY] at HT hdoc ⊢
    have HD := Lib.hid hdoc
    clear hcb hY hdoc
    go_enter Try.func36, Try.ntmps36
    go_wp2_with fail
    refine hck.mono ?_
    clear hck
    rintro e9 w1 ⟨rfl, hC1⟩
    replace y0 := hC1.cell y0 id
    replace y1 := hC1.cell y1 id
    replace y2 := hC1.cell y2 id
    (replace l0 := (((Chg.refl _ _).alloc _).tr (((Chg.refl _ _).alloc _).tr hC1)).cell l0 id; replace l1 := (((Chg.refl _ _).alloc _).tr (((Chg.refl _ _).alloc _).tr hC1)).cell l1 id; replace l2 := (((Chg.refl _ _).alloc _).tr (((Chg.refl _ _).alloc _).tr hC1)).cell l2 id)
    have hdoc := HD.out _ (HC.out.tr hC1)
    replace hB0 := hB0.fr hC1
    replace HC := Lib.hid (HC.out.tr hC1)
    clear hC1 hC0
    go_wp2_with fail
    refine hdoc.mono ?_
    clear hdoc
    rintro e9 w2 ⟨v9, rfl, hG9, hC2⟩
    obtain ⟨vs, vo, vp, rfl, hs9, ho9, hp9⟩ := id hG9
    have hv0 : vs.oneCell' = true := by obtain ⟨_, _, rfl, _⟩ := hs9.form; rfl
    have hv1 : vo.oneCell' = true := by obtain ⟨_, _, rfl, _⟩ := ho9.form; rfl
    have hv2 : vp.oneCell' = true := by obtain ⟨_, _, rfl, _⟩ := hp9.form; rfl
    have st0 := fun (a : Addr) (m : Mode) (w : World) => run_store Try.prog w a vs m hv0
    have st1 := fun (a : Addr) (m : Mode) (w : World) => run_store Try.prog w a vo m hv1
    have st2 := fun (a : Addr) (m : Mode) (w : World) => run_store Try.prog w a vp m hv2
    have hC8 := hC2.alloc (.cells #[vs, vo, vp] 38)
    obtain ⟨g0, g1, g2⟩ := cell_two w2 vs vo vp 38
    have hG := hG9.fr ((Chg.refl _ _).alloc (.cells #[vs, vo, vp] 38))
    replace y0 := hC8.cell y0 id
    replace y1 := hC8.cell y1 id
    replace y2 := hC8.cell y2 id
    replace hB0 := hB0.fr hC8
    replace HC := Lib.hid (HC.out.tr hC8)
    obtain ⟨x9, hx⟩ : ∃ x, w2.heap.size = x := ⟨_, rfl⟩
    rw [hx] at g0 g1 g2
    clear hC2 hG9 hs9 ho9 hp9 hC8 l0 l1 l2
    go_upto_region 4 with (fail)
    clear hx st0 st1 st2 hv0 hv1 hv2
    generalize w2.alloc (.cells #[vs, vo, vp] 38) = w3 at *
    have hgo := r13gone_any _ _ Y.s Y.g Y.n A _ hG (HA.out _ HC.out) HT.out.2.2.1 HT.out.2.2.2.1 HT.out.2.2.2.2 hle
    rw [show gonA ⟨Y.s, Y.g, Y.n⟩ A = tgA Y A from HT.out.1] at hgo
    have HNN := Lib.hid HT.out.2.1
    obtain ⟨B, hB⟩ : ∃ B, tgA Y A = B := ⟨_, rfl⟩
    rw [hB] at hgo ⊢
    have HBB := Lib.hid hB
    clear hB hG
    have hlt := hB0.lt
    have HLT := Lib.hid hlt
    clear hlt
    go_wp2_with fail
    refine hgo.mono ?_
    clear hgo g0 g1 g2 y0 y1 y2
    rintro e9 w4 ⟨v4, rfl, ho4, hC4⟩
    obtain ⟨a5, c5, a6, c6, hv4, q1, q2⟩ := ara_new ho4
    subst hv4
    obtain ⟨z0, z1, z2, x0', x1', x2'⟩ := hB0.fr hC4
    obtain ⟨⟨g0, g1⟩, g2⟩ := set3_cells (.int .i64 B.k) (.slice a5 B.s.length c5) (.slice a6 B.e.length c6) z0 z1 z2
    have HC4 := Lib.hid (HC.out.tr hC4)
    clear hC4 ho4 hB0
    go_wp2
    simp [bodyPost, results, Try.results36, go_sem, g0, g1, g2]
    rw [← HNN.out, HBB.out]
    show GaveAE w ⟨B.k, B.s, B.e⟩ Y.n _ _
    exact leaveAE q1 q2 (by omega) HLT.out HLT.out HC4.out
set_option maxRecDepth 100000 in
set_option maxHeartbeats 2000000 in
theorem r14perOf_any (u : Value) (L : Ar) (v : Value) (A : Ar) (w : World) (hL : Ara w u L) (hlsl : L.s.length ≤ 1000000) (hlle : L.e.length ≤ 1000000) (hA : Ara w v A) (hsl : A.s.length ≤ 1000000) (hle : A.e.length ≤ 1000000) : Calls Try.prog 38 #[u, v] w (GaveAE w (tgA (perW L A.s) A) (tgN (perW L A.s) A)) := by
  have HA := Lib.hid (show ∀ w', Chg (fun _ => False) w w' → Ara w' v A from fun w' h => hA.fr h)
  (obtain ⟨vq, vf, hu, hq, hf⟩ := id hL; subst hu; obtain ⟨qa, cq, rfl, _⟩ := hq.form; obtain ⟨fa, cf, rfl, _⟩ := hf.form; have HLO := Lib.hid (show ∀ w', Chg (fun _ => False) w w' → Ara w' (.agg #[.int .i64 L.k, .slice qa L.s.length cq, .slice fa L.e.length cf]) L from fun w' h => hL.fr h); obtain ⟨l0, l1, l2⟩ := cell_two w (.int .i64 L.k) (.slice qa L.s.length cq) (.slice fa L.e.length cf) 25; clear hq hf hL)
  obtain ⟨vt, ve, hv, ht, he⟩ := id hA
  subst hv
  obtain ⟨ta, ct, rfl, _⟩ := ht.form
  obtain ⟨ae, ce, rfl, _⟩ := he.form
  have hC0 := (((Chg.refl (fun _ => False) w).alloc (.cells #[.int .i64 L.k, .slice qa L.s.length cq, .slice fa L.e.length cf] 25)).alloc (.cells #[.int .i64 A.k, .slice ta A.s.length ct, .slice ae A.e.length ce] 25)).alloc (.cells #[.int .i64 0, .slice none 0 0, .slice none 0 0] 25)
  have hB0 := Bx.new ((w.alloc (.cells #[.int .i64 L.k, .slice qa L.s.length cq, .slice fa L.e.length cf] 25)).alloc (.cells #[.int .i64 A.k, .slice ta A.s.length ct, .slice ae A.e.length ce] 25)) (.int .i64 0) (.slice none 0 0) (.slice none 0 0) 25
  obtain ⟨y0, y1, y2⟩ := cell_two (w.alloc (.cells #[.int .i64 L.k, .slice qa L.s.length cq, .slice fa L.e.length cf] 25)) (.int .i64 A.k) (.slice ta A.s.length ct) (.slice ae A.e.length ce) 25
  replace y0 := alloc_cell y0 (.cells #[.int .i64 0, .slice none 0 0, .slice none 0 0] 25)
  replace y1 := alloc_cell y1 (.cells #[.int .i64 0, .slice none 0 0, .slice none 0 0] 25)
  replace y2 := alloc_cell y2 (.cells #[.int .i64 0, .slice none 0 0, .slice none 0 0] 25)
  simp only [World.size_alloc] at hB0 y0 y1 y2
  have hck := r11check_any _ A _ (HA.out _ hC0) hle
  have HC := Lib.hid hC0
  have HS := Lib.hid (show ∀ w', Chg (fun _ => False) w w' → Ls w' (.slice ta A.s.length ct) A.s from fun w' h => ht.fr h)
  clear hA ht he
  cases hcb : chkB A with
  | false =>
    rw [show chkE A = 110 by unfold chkE; rw [hcb]; rfl] at hck
    have HR := Lib.hid (show tgA (perW L A.s) A = noA ∧ tgN (perW L A.s) A = 110 by unfold tgA tgN; rw [hcb]; exact ⟨rfl, rfl⟩)
    clear hcb
    go_enter Try.func38, Try.ntmps38
    go_wp2_with fail
    refine hck.mono ?_
    clear hck
    rintro e9 w1 ⟨rfl, hC1⟩
    obtain ⟨z0, z1, z2, x0', x1', x2'⟩ := hB0.fr hC1
    obtain ⟨⟨g0, g1⟩, g2⟩ := set3_cells (.int .i64 0) (.slice none 0 0) (.slice none 0 0) z0 z1 z2
    have HC1 := Lib.hid (HC.out.tr hC1)
    clear hC1 hC0 hB0 y0 y1 y2
    go_wp2
    simp [bodyPost, results, Try.results38, go_sem, g0, g1, g2]
    rw [HR.out.1, HR.out.2]
    exact leaveNo (by omega) HC1.out
  | true =>
    rw [show chkE A = 0 by unfold chkE; rw [hcb]; rfl] at hck
    have HT := Lib.hid (gon_tg hcb (per_way L A hcb) (per_nog L A.s))
    have hdoc := (fun (w' : World) (h : Chg (fun _ => False) w w') => (fun (_ : A.s.length ≤ 1000000 ∧ L.s.length ≤ 1000000) => r14per_any _ _ L A.s w' (HLO.out w' h) (HS.out w' h) hlle) ⟨hsl, hlsl⟩)
    obtain ⟨Y, hY⟩ : ∃ Y, (perW L A.s) = Y := ⟨_, rfl⟩
    rw [hY] at HT hdoc ⊢
    have HD := Lib.hid hdoc
    clear hcb hY hdoc
    go_enter Try.func38, Try.ntmps38
    go_wp2_with fail
    refine hck.mono ?_
    clear hck
    rintro e9 w1 ⟨rfl, hC1⟩
    replace y0 := hC1.cell y0 id
    replace y1 := hC1.cell y1 id
    replace y2 := hC1.cell y2 id
    (replace l0 := (((Chg.refl _ _).alloc _).tr (((Chg.refl _ _).alloc _).tr hC1)).cell l0 id; replace l1 := (((Chg.refl _ _).alloc _).tr (((Chg.refl _ _).alloc _).tr hC1)).cell l1 id; replace l2 := (((Chg.refl _ _).alloc _).tr (((Chg.refl _ _).alloc _).tr hC1)).cell l2 id)
    have hdoc := HD.out _ (HC.out.tr hC1)
    replace hB0 := hB0.fr hC1
    replace HC := Lib.hid (HC.out.tr hC1)
    clear hC1 hC0
    go_wp2_with fail
    refine hdoc.mono ?_
    clear hdoc
    rintro e9 w2 ⟨v9, rfl, hG9, hC2⟩
    obtain ⟨vs, vo, vp, rfl, hs9, ho9, hp9⟩ := id hG9
    have hv0 : vs.oneCell' = true := by obtain ⟨_, _, rfl, _⟩ := hs9.form; rfl
    have hv1 : vo.oneCell' = true := by obtain ⟨_, _, rfl, _⟩ := ho9.form; rfl
    have hv2 : vp.oneCell' = true := by obtain ⟨_, _, rfl, _⟩ := hp9.form; rfl
    have st0 := fun (a : Addr) (m : Mode) (w : World) => run_store Try.prog w a vs m hv0
    have st1 := fun (a : Addr) (m : Mode) (w : World) => run_store Try.prog w a vo m hv1
    have st2 := fun (a : Addr) (m : Mode) (w : World) => run_store Try.prog w a vp m hv2
    have hC8 := hC2.alloc (.cells #[vs, vo, vp] 38)
    obtain ⟨g0, g1, g2⟩ := cell_two w2 vs vo vp 38
    have hG := hG9.fr ((Chg.refl _ _).alloc (.cells #[vs, vo, vp] 38))
    replace y0 := hC8.cell y0 id
    replace y1 := hC8.cell y1 id
    replace y2 := hC8.cell y2 id
    replace hB0 := hB0.fr hC8
    replace HC := Lib.hid (HC.out.tr hC8)
    obtain ⟨x9, hx⟩ : ∃ x, w2.heap.size = x := ⟨_, rfl⟩
    rw [hx] at g0 g1 g2
    clear hC2 hG9 hs9 ho9 hp9 hC8 l0 l1 l2
    go_upto_region 4 with (fail)
    clear hx st0 st1 st2 hv0 hv1 hv2
    generalize w2.alloc (.cells #[vs, vo, vp] 38) = w3 at *
    have hgo := r13gone_any _ _ Y.s Y.g Y.n A _ hG (HA.out _ HC.out) HT.out.2.2.1 HT.out.2.2.2.1 HT.out.2.2.2.2 hle
    rw [show gonA ⟨Y.s, Y.g, Y.n⟩ A = tgA Y A from HT.out.1] at hgo
    have HNN := Lib.hid HT.out.2.1
    obtain ⟨B, hB⟩ : ∃ B, tgA Y A = B := ⟨_, rfl⟩
    rw [hB] at hgo ⊢
    have HBB := Lib.hid hB
    clear hB hG
    have hlt := hB0.lt
    have HLT := Lib.hid hlt
    clear hlt
    go_wp2_with fail
    refine hgo.mono ?_
    clear hgo g0 g1 g2 y0 y1 y2
    rintro e9 w4 ⟨v4, rfl, ho4, hC4⟩
    obtain ⟨a5, c5, a6, c6, hv4, q1, q2⟩ := ara_new ho4
    subst hv4
    obtain ⟨z0, z1, z2, x0', x1', x2'⟩ := hB0.fr hC4
    obtain ⟨⟨g0, g1⟩, g2⟩ := set3_cells (.int .i64 B.k) (.slice a5 B.s.length c5) (.slice a6 B.e.length c6) z0 z1 z2
    have HC4 := Lib.hid (HC.out.tr hC4)
    clear hC4 ho4 hB0
    go_wp2
    simp [bodyPost, results, Try.results38, go_sem, g0, g1, g2]
    rw [← HNN.out, HBB.out]
    show GaveAE w ⟨B.k, B.s, B.e⟩ Y.n _ _
    exact leaveAE q1 q2 (by omega) HLT.out HLT.out HC4.out
end Go.Proofs.Ytmmbdhfljabefaa
