/- TurnMakes. -/
import Derived.Test.YtmmbdhfljabefaaTwG
import Derived.Test.YtmmbdhfljabefaaArT
namespace Go.Proofs.Ytmmbdhfljabefaa
open Go.RowKit Go.Shelf

theorem tg_len {Y : Wy} {A : Ar} (h : chkB A = true → WayOk Y A) : (tgA Y A).s.length ≤ 1000000 ∧ (tgA Y A).e.length ≤ 1000000 := by
  cases hc : chkB A with
  | false =>
    have : tgA Y A = noA := by unfold tgA; rw [hc]; rfl
    rw [this]
    exact ⟨by decide, by decide⟩
  | true =>
    by_cases hn : Y.n = 0
    · obtain ⟨_, _, _, h4, h5⟩ := chk_len ((way_tells hc (h hc)).2 hn).2
      omega
    · rw [(tg_no hc hn).1]
      exact ⟨by decide, by decide⟩
set_option maxRecDepth 100000 in
set_option maxHeartbeats 4000000 in
theorem turnMakes_walk (vl : Value) (L : Ar) (v : Value) (A : Ar) (W : World) (hl : OkArr W vl L) (h : OkArr W v A) : Calls Try.prog 6 #[vl, v] W (True_ W) := by
  have hA := h.1
  have hL := hl.1
  clear h hl
  obtain ⟨vt, ve, hv, ht, he⟩ := id hA
  obtain ⟨vp, vf, hu, hp, hf⟩ := id hL
  subst hv hu
  obtain ⟨ta, ct, rfl, _⟩ := ht.form
  obtain ⟨ae, ce, rfl, _⟩ := he.form
  obtain ⟨pa, cp, rfl, _⟩ := hp.form
  obtain ⟨fa, cf, rfl, _⟩ := hf.form
  have hbL := (BoxA.new (A := L) 25 hL).fr ((Chg.refl _ _).alloc (.cells #[.int .i64 A.k, .slice ta A.s.length ct, .slice ae A.e.length ce] 25))
  have hbA := BoxA.new (w := W.alloc (.cells #[.int .i64 L.k, .slice pa L.s.length cp, .slice fa L.e.length cf] 25)) (A := A) 25 (hA.fr ((Chg.refl _ _).alloc _))
  rw [World.size_alloc] at hbA
  have HC := Lib.hid (((Chg.refl (fun _ => False) W).alloc (.cells #[.int .i64 L.k, .slice pa L.s.length cp, .slice fa L.e.length cf] 25)).alloc (.cells #[.int .i64 A.k, .slice ta A.s.length ct, .slice ae A.e.length ce] 25))
  clear ht he hp hf hA hL
  obtain ⟨sa, cs, sb, cb, ⟨y0, y1, y2⟩, hb1⟩ := id hbA
  obtain ⟨qa, cq, qb, dq, ⟨p0, p1, p2⟩, hb2⟩ := id hbL
  have hgr := great_any _ _ L A _ hb2 hb1
  cases hg : grtB L A with
  | true =>
    rw [hg] at hgr
    clear hg hbA hbL
    go_enter Try.func6, Try.ntmps6
    go_wp2_with fail
    refine hgr.mono ?_
    clear hgr
    rintro e9 w2 ⟨rfl, hC2⟩
    go_wp2
    go_ret
    exact ⟨rfl, HC.out.tr hC2⟩
  | false =>
    rw [hg] at hgr
    obtain ⟨⟨gl1, gl2⟩, ga1, ga2⟩ := grtB_not hg
    clear hg
    go_enter Try.func6, Try.ntmps6
    go_wp2_with fail
    refine hgr.mono ?_
    clear hgr y0 y1 y2 hb1 p0 p1 p2 hb2
    rintro e9 w0 ⟨rfl, hC2⟩
    replace hbA := hbA.fr hC2
    replace hbL := hbL.fr hC2
    replace HC := Lib.hid (HC.out.tr hC2)
    clear hC2
    obtain ⟨x2, hx2⟩ : ∃ x2, W.heap.size = x2 := ⟨_, rfl⟩
    rw [hx2] at hbA hbL
    obtain ⟨sa, cs, sb, cb, ⟨y0, y1, y2⟩, hb1⟩ := id hbA
    obtain ⟨qa, cq, qb, dq, ⟨p0, p1, p2⟩, hb2⟩ := id hbL
    have HSL := Lib.hid (show A.s.length ≤ 1000000 ∧ A.e.length ≤ 1000000 ∧ L.s.length ≤ 1000000 ∧ L.e.length ≤ 1000000 by omega)
    clear gl1 gl2 ga1 ga2
    go_upto_region 3 with (fail)
    clear hx2
    go_cut [5, 6] (fun s5 s6 wx => ∃ x5 x6, s5 = .pointer (some ⟨x5, 0, none⟩) ∧ s6 = .pointer (some ⟨x6, 0, none⟩) ∧ (BoxA wx x5 L ∧ BoxA wx x6 A) ∧ Chg (fun _ => False) w0 wx)
    case first =>
      refine two_twins (p := 2) (q := 3) (s1 := 15) (s2 := 16) (s3 := 17) (s4 := 18) (d := 5) (e := 6) (x := x2) (y := x2 + 1) (L := L) (A := A) (by kernel_rfl) (fun _ _ => rfl) (by decide) ?_ rfl rfl hbL hbA (fun v w' h => twin_any v L w' h HSL.out.2.2.1 HSL.out.2.2.2) (fun v w' h => twin_any v A w' h HSL.out.1 HSL.out.2.1) ?_
      · refine ⟨?_, ?_, ?_, ?_, ?_, ?_⟩ <;> exact of_decide_eq_true rfl
      · intro w' x5 x6 v1 v2 vL vA k1 k2 k3
        simp only [Act.put, List.setIfInBounds_toArray, List.set_cons_zero, List.set_cons_succ]
        go_wp2_with fail
        go_meet
        exact ⟨_, _, rfl, rfl, ⟨k1, k2⟩, k3⟩
    case rest =>
      obtain ⟨x5, x6, rfl, rfl, ⟨hb5, hb6⟩, hCc⟩ := hcut
      obtain ⟨sa, cs, sb, cb, ⟨y0, y1, y2⟩, hb1⟩ := hbA.fr hCc
      obtain ⟨qa, cq, qb, dq, ⟨p0, p1, p2⟩, hb2⟩ := hbL.fr hCc
      obtain ⟨ea, ec, eb, ed, ⟨e0, e1, e2⟩, hb3⟩ := hb5
      obtain ⟨ga, gc, gb, gd, ⟨g0, g1, g2⟩, hb4⟩ := hb6
      have HY := Lib.hid (show ∀ w', Chg (fun _ => False) wc w' → (C3 w' x2 (.int .i64 L.k) (.slice qa L.s.length cq) (.slice qb L.e.length dq) ∧ Ara w' (.agg #[.int .i64 L.k, .slice qa L.s.length cq, .slice qb L.e.length dq]) L) ∧ (C3 w' (x2 + 1) (.int .i64 A.k) (.slice sa A.s.length cs) (.slice sb A.e.length cb) ∧ Ara w' (.agg #[.int .i64 A.k, .slice sa A.s.length cs, .slice sb A.e.length cb]) A) ∧ (C3 w' x5 (.int .i64 L.k) (.slice ea L.s.length ec) (.slice eb L.e.length ed) ∧ Ara w' (.agg #[.int .i64 L.k, .slice ea L.s.length ec, .slice eb L.e.length ed]) L) ∧ (C3 w' x6 (.int .i64 A.k) (.slice ga A.s.length gc) (.slice gb A.e.length gd) ∧ Ara w' (.agg #[.int .i64 A.k, .slice ga A.s.length gc, .slice gb A.e.length gd]) A) from fun w' h => ⟨⟨⟨h.cell p0 id, h.cell p1 id, h.cell p2 id⟩, hb2.fr h⟩, ⟨⟨h.cell y0 id, h.cell y1 id, h.cell y2 id⟩, hb1.fr h⟩, ⟨⟨h.cell e0 id, h.cell e1 id, h.cell e2 id⟩, hb3.fr h⟩, ⟨⟨h.cell g0 id, h.cell g1 id, h.cell g2 id⟩, hb4.fr h⟩⟩)
      have HCO := Lib.hid (HC.out.tr hCc)
      clear hCc y0 y1 y2 hb1 p0 p1 p2 hb2 e0 e1 e2 hb3 g0 g1 g2 hb4 hbA hbL
      go_wp2
      go_loopw [7] (fun i wr => ∃ j : Nat, j ≤ 4 ∧ i = .int .i64 j ∧ Chg (fun _ => False) wc wr) (fun i _ => 4 - (intOf i).toNat)
      case atStart => exact ⟨0, Nat.zero_le _, rfl, Chg.refl _ _⟩
      case round =>
        obtain ⟨j, hj, rfl, hC⟩ := hrel
        by_cases hlt : j < 4
        · have hj4 : j = 0 ∨ j = 1 ∨ j = 2 ∨ j = 3 := by omega
          clear hj
          rcases hj4 with rfl | rfl | rfl | rfl
          · skip
            have HARR := Lib.hid (fun (w' : World) (u0 u1 : Value) (_ : Ara w' u0 L) (h : Ara w' u1 A) => trev_any u1 A w' h HSL.out.1 HSL.out.2.1)
            have HREF := Lib.hid (fun (w' : World) (u0 u1 : Value) (_ : Ara w' u0 L) (h : Ara w' u1 A) => r14revOf_any u1 A w' h HSL.out.1 HSL.out.2.1)
            have HTL := Lib.hid (tg_len (fun h => rev_way A h))
            obtain ⟨B, hB⟩ : ∃ B, tgA (revW A.s) A = B := ⟨_, rfl⟩
            obtain ⟨n, hn⟩ : ∃ n, tgN (revW A.s) A = n := ⟨_, rfl⟩
            rw [hB] at HARR HREF HTL
            rw [hn] at HARR HREF
            have b1 : (n != n) = false := bne_self_eq_false n
            clear hB hn
            obtain ⟨x8, hx8⟩ : ∃ x, wr.heap.size = x := ⟨_, rfl⟩
            have hC0 := (hC.alloc (.cells #[.int .i64 0, .slice none 0 0, .slice none 0 0] 25)).alloc (.cells #[.int .i64 0, .slice none 0 0, .slice none 0 0] 25)
            have hB8 := (Bx.new wr (.int .i64 0) (.slice none 0 0) (.slice none 0 0) 25).fr ((Chg.refl _ _).alloc (.cells #[.int .i64 0, .slice none 0 0, .slice none 0 0] 25))
            have hB9 := Bx.new (wr.alloc (.cells #[.int .i64 0, .slice none 0 0, .slice none 0 0] 25)) (.int .i64 0) (.slice none 0 0) (.slice none 0 0) 25
            rw [World.size_alloc] at hB9
            rw [hx8] at hB8 hB9
            have hlo : wc.heap.size ≤ x8 := by rw [← hx8]; exact hC.size
            have HLO := Lib.hid hlo
            go_upto_region 10 with (fail)
            generalize (wr.alloc (.cells #[.int .i64 0, .slice none 0 0, .slice none 0 0] 25)).alloc (.cells #[.int .i64 0, .slice none 0 0, .slice none 0 0] 25) = z0 at *
            clear hx8 hC hlo
            have hhi := hB9.lt
            have HHI := Lib.hid hhi
            obtain ⟨⟨⟨q0, q1, q2⟩, hq⟩, ⟨⟨r0, r1, r2⟩, hr⟩, ⟨⟨s0, s1, s2⟩, hs⟩, ⟨⟨t0, t1, t2⟩, ht⟩⟩ := HY.out _ hC0
            have harr := HARR.out z0 _ _ hs ht
            have HC0 := Lib.hid hC0
            clear hC0 hhi
            go_wp2_with fail
            refine harr.mono ?_
            clear harr q0 q1 q2 hq r0 r1 r2 hr s0 s1 s2 hs t0 t1 t2 ht
            rintro e9 z1 ⟨v1, rfl, ho1, hC1⟩
            obtain ⟨a1, c1, b1', d1, rfl, k1, k2⟩ := ara_new ho1
            have hX := chg3 z1 x8 (.int .i64 B.k) (.slice a1 B.s.length c1) (.slice b1' B.e.length d1)
            have hK1 := k1.chg hX (fun q hq e => by have := (k1.lt q hq).1; have := HHI.out; omega)
            have hK2 := k2.chg hX (fun q hq e => by have := (k2.lt q hq).1; have := HHI.out; omega)
            have hc8 := bx_c3 (hB8.fr hC1) (.int .i64 B.k) (.slice a1 B.s.length c1) (.slice b1' B.e.length d1)
            have hB9' := (hB9.fr hC1).chg hX (show ¬ x8 + 1 = x8 by omega)
            have hCC := chg_set3 (HC0.out.tr hC1) HLO.out (.int .i64 B.k) (.slice a1 B.s.length c1) (.slice b1' B.e.length d1)
            obtain ⟨m0, m1, m2, n0, n1, n2⟩ := hB8.fr hC1
            clear hB8 hB9 ho1 k1 k2 hX
            go_upto_region 12 with (fail)
            generalize ((z1.setCell ⟨x8, 0, none⟩ (.int .i64 B.k)).setCell ⟨x8, 1, none⟩ (.slice a1 B.s.length c1)).setCell ⟨x8, 2, none⟩ (.slice b1' B.e.length d1) = z2 at *
            clear m0 m1 m2 n0 n1 n2 hC1
            obtain ⟨⟨⟨q0, q1, q2⟩, hq⟩, ⟨⟨r0, r1, r2⟩, hr⟩, ⟨⟨s0, s1, s2⟩, hs⟩, ⟨⟨t0, t1, t2⟩, ht⟩⟩ := HY.out _ hCC
            have href := HREF.out z2 _ _ hq hr
            replace HC0 := Lib.hid hCC
            have hz2 : x8 + 1 < z2.heap.size := hB9'.lt
            have HZ2 := Lib.hid hz2
            clear hCC hz2
            go_wp2_with fail
            refine href.mono ?_
            clear href q0 q1 q2 hq r0 r1 r2 hr s0 s1 s2 hs t0 t1 t2 ht
            rintro e9 z3 ⟨v3, rfl, ho3, hC3⟩
            obtain ⟨a3, c3, b3, d3, rfl, k3, k4⟩ := ara_new ho3
            have hX := chg3 z3 (x8 + 1) (.int .i64 B.k) (.slice a3 B.s.length c3) (.slice b3 B.e.length d3)
            have hN1 := (hK1.fr hC3).chg hX (fun q hq e => by have := (hK1.lt q hq).1; have := HHI.out; omega)
            have hN2 := (hK2.fr hC3).chg hX (fun q hq e => by have := (hK2.lt q hq).1; have := HHI.out; omega)
            have hN3 := k3.chg hX (fun q hq e => by have := (k3.lt q hq).1; have := HZ2.out; omega)
            have hN4 := k4.chg hX (fun q hq e => by have := (k4.lt q hq).1; have := HZ2.out; omega)
            have hc9 := bx_c3 (hB9'.fr hC3) (.int .i64 B.k) (.slice a3 B.s.length c3) (.slice b3 B.e.length d3)
            have hc8' := (hc8.chg hC3 id).chg hX (show ¬ x8 = x8 + 1 by omega)
            have hCC := chg_set3 (HC0.out.tr hC3) (Nat.le_succ_of_le HLO.out) (.int .i64 B.k) (.slice a3 B.s.length c3) (.slice b3 B.e.length d3)
            obtain ⟨m0, m1, m2, n0, n1, n2⟩ := hB9'.fr hC3
            clear hB9' ho3 k3 k4 hX hc8
            go_upto_region 22 with (fail)
            generalize ((z3.setCell ⟨x8 + 1, 0, none⟩ (.int .i64 B.k)).setCell ⟨x8 + 1, 1, none⟩ (.slice a3 B.s.length c3)).setCell ⟨x8 + 1, 2, none⟩ (.slice b3 B.e.length d3) = z4 at *
            clear m0 m1 m2 n0 n1 n2 hC3
            obtain ⟨u0, u1, u2⟩ := hc8'
            obtain ⟨w0', w1', w2'⟩ := hc9
            have hsm := r11same_any _ _ B B z4 (Ara.mk (k := B.k) hN1.ls hN2.ls) (Ara.mk (k := B.k) hN3.ls hN4.ls) HTL.out.2 HTL.out.1
            rw [sameA_iff.2 rfl] at hsm
            have HN1 := Lib.hid hN1
            have HN2 := Lib.hid hN2
            have HCC := Lib.hid hCC
            clear hN1 hN2 hN3 hN4 hK1 hK2 hCC
            go_wp2_with fail
            refine hsm.mono ?_
            clear hsm
            rintro e9 z5 ⟨rfl, hC5⟩
            replace u0 := hC5.cell u0 id
            replace u1 := hC5.cell u1 id
            replace u2 := hC5.cell u2 id
            have hsp := spoil_any B.k _ _ _ _ _ _ z5 (HN1.out.fr hC5) (HN2.out.fr hC5) HTL.out.1 HTL.out.2
            have HC5 := Lib.hid (HCC.out.tr hC5)
            have HF1 := Lib.hid (HN1.out.fr hC5)
            have HF2 := Lib.hid (HN2.out.fr hC5)
            clear hC5 w0' w1' w2'
            go_wp2_with fail
            refine hsp.mono ?_
            clear hsp u0 u1 u2
            rintro e9 z6 ⟨⟨vv, rfl⟩, hC6⟩
            have hend : Chg (fun _ => False) wc z6 := Chg.trans HC5.out hC6 (fun _ _ h => h) (fun i hi h => by
              have a1 := HHI.out
              have a2 := HLO.out
              rcases h with h | h
              · have := (HF1.out.lt i h).1; omega
              · have := (HF2.out.lt i h).1; omega)
            clear hC6
            go_wp2
            go_roundw
            case rel => exact ⟨1, by decide, rfl, hend⟩
            case measure => simp [intOf]
          · skip
            have HARR := Lib.hid (fun (w' : World) (u0 u1 : Value) (_ : Ara w' u0 L) (h : Ara w' u1 A) => ttra_any u1 A w' h HSL.out.1 HSL.out.2.1)
            have HREF := Lib.hid (fun (w' : World) (u0 u1 : Value) (_ : Ara w' u0 L) (h : Ara w' u1 A) => r14traOf_any u1 A w' h HSL.out.1 HSL.out.2.1)
            have HTL := Lib.hid (tg_len (fun h => tra_way A h))
            obtain ⟨B, hB⟩ : ∃ B, tgA (toldW A.s (traW A.s)) A = B := ⟨_, rfl⟩
            obtain ⟨n, hn⟩ : ∃ n, tgN (toldW A.s (traW A.s)) A = n := ⟨_, rfl⟩
            rw [hB] at HARR HREF HTL
            rw [hn] at HARR HREF
            have b1 : (n != n) = false := bne_self_eq_false n
            clear hB hn
            obtain ⟨x8, hx8⟩ : ∃ x, wr.heap.size = x := ⟨_, rfl⟩
            have hC0 := (hC.alloc (.cells #[.int .i64 0, .slice none 0 0, .slice none 0 0] 25)).alloc (.cells #[.int .i64 0, .slice none 0 0, .slice none 0 0] 25)
            have hB8 := (Bx.new wr (.int .i64 0) (.slice none 0 0) (.slice none 0 0) 25).fr ((Chg.refl _ _).alloc (.cells #[.int .i64 0, .slice none 0 0, .slice none 0 0] 25))
            have hB9 := Bx.new (wr.alloc (.cells #[.int .i64 0, .slice none 0 0, .slice none 0 0] 25)) (.int .i64 0) (.slice none 0 0) (.slice none 0 0) 25
            rw [World.size_alloc] at hB9
            rw [hx8] at hB8 hB9
            have hlo : wc.heap.size ≤ x8 := by rw [← hx8]; exact hC.size
            have HLO := Lib.hid hlo
            go_upto_region 10 with (fail)
            generalize (wr.alloc (.cells #[.int .i64 0, .slice none 0 0, .slice none 0 0] 25)).alloc (.cells #[.int .i64 0, .slice none 0 0, .slice none 0 0] 25) = z0 at *
            clear hx8 hC hlo
            have hhi := hB9.lt
            have HHI := Lib.hid hhi
            obtain ⟨⟨⟨q0, q1, q2⟩, hq⟩, ⟨⟨r0, r1, r2⟩, hr⟩, ⟨⟨s0, s1, s2⟩, hs⟩, ⟨⟨t0, t1, t2⟩, ht⟩⟩ := HY.out _ hC0
            have harr := HARR.out z0 _ _ hs ht
            have HC0 := Lib.hid hC0
            clear hC0 hhi
            go_wp2_with fail
            refine harr.mono ?_
            clear harr q0 q1 q2 hq r0 r1 r2 hr s0 s1 s2 hs t0 t1 t2 ht
            rintro e9 z1 ⟨v1, rfl, ho1, hC1⟩
            obtain ⟨a1, c1, b1', d1, rfl, k1, k2⟩ := ara_new ho1
            have hX := chg3 z1 x8 (.int .i64 B.k) (.slice a1 B.s.length c1) (.slice b1' B.e.length d1)
            have hK1 := k1.chg hX (fun q hq e => by have := (k1.lt q hq).1; have := HHI.out; omega)
            have hK2 := k2.chg hX (fun q hq e => by have := (k2.lt q hq).1; have := HHI.out; omega)
            have hc8 := bx_c3 (hB8.fr hC1) (.int .i64 B.k) (.slice a1 B.s.length c1) (.slice b1' B.e.length d1)
            have hB9' := (hB9.fr hC1).chg hX (show ¬ x8 + 1 = x8 by omega)
            have hCC := chg_set3 (HC0.out.tr hC1) HLO.out (.int .i64 B.k) (.slice a1 B.s.length c1) (.slice b1' B.e.length d1)
            obtain ⟨m0, m1, m2, n0, n1, n2⟩ := hB8.fr hC1
            clear hB8 hB9 ho1 k1 k2 hX
            go_upto_region 15 with (fail)
            generalize ((z1.setCell ⟨x8, 0, none⟩ (.int .i64 B.k)).setCell ⟨x8, 1, none⟩ (.slice a1 B.s.length c1)).setCell ⟨x8, 2, none⟩ (.slice b1' B.e.length d1) = z2 at *
            clear m0 m1 m2 n0 n1 n2 hC1
            obtain ⟨⟨⟨q0, q1, q2⟩, hq⟩, ⟨⟨r0, r1, r2⟩, hr⟩, ⟨⟨s0, s1, s2⟩, hs⟩, ⟨⟨t0, t1, t2⟩, ht⟩⟩ := HY.out _ hCC
            have href := HREF.out z2 _ _ hq hr
            replace HC0 := Lib.hid hCC
            have hz2 : x8 + 1 < z2.heap.size := hB9'.lt
            have HZ2 := Lib.hid hz2
            clear hCC hz2
            go_wp2_with fail
            refine href.mono ?_
            clear href q0 q1 q2 hq r0 r1 r2 hr s0 s1 s2 hs t0 t1 t2 ht
            rintro e9 z3 ⟨v3, rfl, ho3, hC3⟩
            obtain ⟨a3, c3, b3, d3, rfl, k3, k4⟩ := ara_new ho3
            have hX := chg3 z3 (x8 + 1) (.int .i64 B.k) (.slice a3 B.s.length c3) (.slice b3 B.e.length d3)
            have hN1 := (hK1.fr hC3).chg hX (fun q hq e => by have := (hK1.lt q hq).1; have := HHI.out; omega)
            have hN2 := (hK2.fr hC3).chg hX (fun q hq e => by have := (hK2.lt q hq).1; have := HHI.out; omega)
            have hN3 := k3.chg hX (fun q hq e => by have := (k3.lt q hq).1; have := HZ2.out; omega)
            have hN4 := k4.chg hX (fun q hq e => by have := (k4.lt q hq).1; have := HZ2.out; omega)
            have hc9 := bx_c3 (hB9'.fr hC3) (.int .i64 B.k) (.slice a3 B.s.length c3) (.slice b3 B.e.length d3)
            have hc8' := (hc8.chg hC3 id).chg hX (show ¬ x8 = x8 + 1 by omega)
            have hCC := chg_set3 (HC0.out.tr hC3) (Nat.le_succ_of_le HLO.out) (.int .i64 B.k) (.slice a3 B.s.length c3) (.slice b3 B.e.length d3)
            obtain ⟨m0, m1, m2, n0, n1, n2⟩ := hB9'.fr hC3
            clear hB9' ho3 k3 k4 hX hc8
            go_upto_region 22 with (fail)
            generalize ((z3.setCell ⟨x8 + 1, 0, none⟩ (.int .i64 B.k)).setCell ⟨x8 + 1, 1, none⟩ (.slice a3 B.s.length c3)).setCell ⟨x8 + 1, 2, none⟩ (.slice b3 B.e.length d3) = z4 at *
            clear m0 m1 m2 n0 n1 n2 hC3
            obtain ⟨u0, u1, u2⟩ := hc8'
            obtain ⟨w0', w1', w2'⟩ := hc9
            have hsm := r11same_any _ _ B B z4 (Ara.mk (k := B.k) hN1.ls hN2.ls) (Ara.mk (k := B.k) hN3.ls hN4.ls) HTL.out.2 HTL.out.1
            rw [sameA_iff.2 rfl] at hsm
            have HN1 := Lib.hid hN1
            have HN2 := Lib.hid hN2
            have HCC := Lib.hid hCC
            clear hN1 hN2 hN3 hN4 hK1 hK2 hCC
            go_wp2_with fail
            refine hsm.mono ?_
            clear hsm
            rintro e9 z5 ⟨rfl, hC5⟩
            replace u0 := hC5.cell u0 id
            replace u1 := hC5.cell u1 id
            replace u2 := hC5.cell u2 id
            have hsp := spoil_any B.k _ _ _ _ _ _ z5 (HN1.out.fr hC5) (HN2.out.fr hC5) HTL.out.1 HTL.out.2
            have HC5 := Lib.hid (HCC.out.tr hC5)
            have HF1 := Lib.hid (HN1.out.fr hC5)
            have HF2 := Lib.hid (HN2.out.fr hC5)
            clear hC5 w0' w1' w2'
            go_wp2_with fail
            refine hsp.mono ?_
            clear hsp u0 u1 u2
            rintro e9 z6 ⟨⟨vv, rfl⟩, hC6⟩
            have hend : Chg (fun _ => False) wc z6 := Chg.trans HC5.out hC6 (fun _ _ h => h) (fun i hi h => by
              have a1 := HHI.out
              have a2 := HLO.out
              rcases h with h | h
              · have := (HF1.out.lt i h).1; omega
              · have := (HF2.out.lt i h).1; omega)
            clear hC6
            go_wp2
            go_roundw
            case rel => exact ⟨2, by decide, rfl, hend⟩
            case measure => simp [intOf]
          · skip
            have HARR := Lib.hid (fun (w' : World) (u0 u1 : Value) (h0 : Ara w' u0 L) (h : Ara w' u1 A) => trot_any u0 u1 L A w' h0 h HSL.out.2.2.1 HSL.out.2.2.2 HSL.out.1 HSL.out.2.1)
            have HREF := Lib.hid (fun (w' : World) (u0 u1 : Value) (h0 : Ara w' u0 L) (h : Ara w' u1 A) => r14rotOf_any u0 L u1 A w' h0 HSL.out.2.2.1 HSL.out.2.2.2 h HSL.out.1 HSL.out.2.1)
            have HTL := Lib.hid (tg_len (fun h => rot_way L A h))
            obtain ⟨B, hB⟩ : ∃ B, tgA (rotW L A.s) A = B := ⟨_, rfl⟩
            obtain ⟨n, hn⟩ : ∃ n, tgN (rotW L A.s) A = n := ⟨_, rfl⟩
            rw [hB] at HARR HREF HTL
            rw [hn] at HARR HREF
            have b1 : (n != n) = false := bne_self_eq_false n
            clear hB hn
            obtain ⟨x8, hx8⟩ : ∃ x, wr.heap.size = x := ⟨_, rfl⟩
            have hC0 := (hC.alloc (.cells #[.int .i64 0, .slice none 0 0, .slice none 0 0] 25)).alloc (.cells #[.int .i64 0, .slice none 0 0, .slice none 0 0] 25)
            have hB8 := (Bx.new wr (.int .i64 0) (.slice none 0 0) (.slice none 0 0) 25).fr ((Chg.refl _ _).alloc (.cells #[.int .i64 0, .slice none 0 0, .slice none 0 0] 25))
            have hB9 := Bx.new (wr.alloc (.cells #[.int .i64 0, .slice none 0 0, .slice none 0 0] 25)) (.int .i64 0) (.slice none 0 0) (.slice none 0 0) 25
            rw [World.size_alloc] at hB9
            rw [hx8] at hB8 hB9
            have hlo : wc.heap.size ≤ x8 := by rw [← hx8]; exact hC.size
            have HLO := Lib.hid hlo
            go_upto_region 10 with (fail)
            generalize (wr.alloc (.cells #[.int .i64 0, .slice none 0 0, .slice none 0 0] 25)).alloc (.cells #[.int .i64 0, .slice none 0 0, .slice none 0 0] 25) = z0 at *
            clear hx8 hC hlo
            have hhi := hB9.lt
            have HHI := Lib.hid hhi
            obtain ⟨⟨⟨q0, q1, q2⟩, hq⟩, ⟨⟨r0, r1, r2⟩, hr⟩, ⟨⟨s0, s1, s2⟩, hs⟩, ⟨⟨t0, t1, t2⟩, ht⟩⟩ := HY.out _ hC0
            have harr := HARR.out z0 _ _ hs ht
            have HC0 := Lib.hid hC0
            clear hC0 hhi
            go_wp2_with fail
            refine harr.mono ?_
            clear harr q0 q1 q2 hq r0 r1 r2 hr s0 s1 s2 hs t0 t1 t2 ht
            rintro e9 z1 ⟨v1, rfl, ho1, hC1⟩
            obtain ⟨a1, c1, b1', d1, rfl, k1, k2⟩ := ara_new ho1
            have hX := chg3 z1 x8 (.int .i64 B.k) (.slice a1 B.s.length c1) (.slice b1' B.e.length d1)
            have hK1 := k1.chg hX (fun q hq e => by have := (k1.lt q hq).1; have := HHI.out; omega)
            have hK2 := k2.chg hX (fun q hq e => by have := (k2.lt q hq).1; have := HHI.out; omega)
            have hc8 := bx_c3 (hB8.fr hC1) (.int .i64 B.k) (.slice a1 B.s.length c1) (.slice b1' B.e.length d1)
            have hB9' := (hB9.fr hC1).chg hX (show ¬ x8 + 1 = x8 by omega)
            have hCC := chg_set3 (HC0.out.tr hC1) HLO.out (.int .i64 B.k) (.slice a1 B.s.length c1) (.slice b1' B.e.length d1)
            obtain ⟨m0, m1, m2, n0, n1, n2⟩ := hB8.fr hC1
            clear hB8 hB9 ho1 k1 k2 hX
            go_upto_region 18 with (fail)
            generalize ((z1.setCell ⟨x8, 0, none⟩ (.int .i64 B.k)).setCell ⟨x8, 1, none⟩ (.slice a1 B.s.length c1)).setCell ⟨x8, 2, none⟩ (.slice b1' B.e.length d1) = z2 at *
            clear m0 m1 m2 n0 n1 n2 hC1
            obtain ⟨⟨⟨q0, q1, q2⟩, hq⟩, ⟨⟨r0, r1, r2⟩, hr⟩, ⟨⟨s0, s1, s2⟩, hs⟩, ⟨⟨t0, t1, t2⟩, ht⟩⟩ := HY.out _ hCC
            have href := HREF.out z2 _ _ hq hr
            replace HC0 := Lib.hid hCC
            have hz2 : x8 + 1 < z2.heap.size := hB9'.lt
            have HZ2 := Lib.hid hz2
            clear hCC hz2
            go_wp2_with fail
            refine href.mono ?_
            clear href q0 q1 q2 hq r0 r1 r2 hr s0 s1 s2 hs t0 t1 t2 ht
            rintro e9 z3 ⟨v3, rfl, ho3, hC3⟩
            obtain ⟨a3, c3, b3, d3, rfl, k3, k4⟩ := ara_new ho3
            have hX := chg3 z3 (x8 + 1) (.int .i64 B.k) (.slice a3 B.s.length c3) (.slice b3 B.e.length d3)
            have hN1 := (hK1.fr hC3).chg hX (fun q hq e => by have := (hK1.lt q hq).1; have := HHI.out; omega)
            have hN2 := (hK2.fr hC3).chg hX (fun q hq e => by have := (hK2.lt q hq).1; have := HHI.out; omega)
            have hN3 := k3.chg hX (fun q hq e => by have := (k3.lt q hq).1; have := HZ2.out; omega)
            have hN4 := k4.chg hX (fun q hq e => by have := (k4.lt q hq).1; have := HZ2.out; omega)
            have hc9 := bx_c3 (hB9'.fr hC3) (.int .i64 B.k) (.slice a3 B.s.length c3) (.slice b3 B.e.length d3)
            have hc8' := (hc8.chg hC3 id).chg hX (show ¬ x8 = x8 + 1 by omega)
            have hCC := chg_set3 (HC0.out.tr hC3) (Nat.le_succ_of_le HLO.out) (.int .i64 B.k) (.slice a3 B.s.length c3) (.slice b3 B.e.length d3)
            obtain ⟨m0, m1, m2, n0, n1, n2⟩ := hB9'.fr hC3
            clear hB9' ho3 k3 k4 hX hc8
            go_upto_region 22 with (fail)
            generalize ((z3.setCell ⟨x8 + 1, 0, none⟩ (.int .i64 B.k)).setCell ⟨x8 + 1, 1, none⟩ (.slice a3 B.s.length c3)).setCell ⟨x8 + 1, 2, none⟩ (.slice b3 B.e.length d3) = z4 at *
            clear m0 m1 m2 n0 n1 n2 hC3
            obtain ⟨u0, u1, u2⟩ := hc8'
            obtain ⟨w0', w1', w2'⟩ := hc9
            have hsm := r11same_any _ _ B B z4 (Ara.mk (k := B.k) hN1.ls hN2.ls) (Ara.mk (k := B.k) hN3.ls hN4.ls) HTL.out.2 HTL.out.1
            rw [sameA_iff.2 rfl] at hsm
            have HN1 := Lib.hid hN1
            have HN2 := Lib.hid hN2
            have HCC := Lib.hid hCC
            clear hN1 hN2 hN3 hN4 hK1 hK2 hCC
            go_wp2_with fail
            refine hsm.mono ?_
            clear hsm
            rintro e9 z5 ⟨rfl, hC5⟩
            replace u0 := hC5.cell u0 id
            replace u1 := hC5.cell u1 id
            replace u2 := hC5.cell u2 id
            have hsp := spoil_any B.k _ _ _ _ _ _ z5 (HN1.out.fr hC5) (HN2.out.fr hC5) HTL.out.1 HTL.out.2
            have HC5 := Lib.hid (HCC.out.tr hC5)
            have HF1 := Lib.hid (HN1.out.fr hC5)
            have HF2 := Lib.hid (HN2.out.fr hC5)
            clear hC5 w0' w1' w2'
            go_wp2_with fail
            refine hsp.mono ?_
            clear hsp u0 u1 u2
            rintro e9 z6 ⟨⟨vv, rfl⟩, hC6⟩
            have hend : Chg (fun _ => False) wc z6 := Chg.trans HC5.out hC6 (fun _ _ h => h) (fun i hi h => by
              have a1 := HHI.out
              have a2 := HLO.out
              rcases h with h | h
              · have := (HF1.out.lt i h).1; omega
              · have := (HF2.out.lt i h).1; omega)
            clear hC6
            go_wp2
            go_roundw
            case rel => exact ⟨3, by decide, rfl, hend⟩
            case measure => simp [intOf]
          · skip
            have HARR := Lib.hid (fun (w' : World) (u0 u1 : Value) (h0 : Ara w' u0 L) (h : Ara w' u1 A) => tper_any u0 u1 L A w' h0 h HSL.out.2.2.1 HSL.out.2.2.2 HSL.out.1 HSL.out.2.1)
            have HREF := Lib.hid (fun (w' : World) (u0 u1 : Value) (h0 : Ara w' u0 L) (h : Ara w' u1 A) => r14perOf_any u0 L u1 A w' h0 HSL.out.2.2.1 HSL.out.2.2.2 h HSL.out.1 HSL.out.2.1)
            have HTL := Lib.hid (tg_len (fun h => per_way L A h))
            obtain ⟨B, hB⟩ : ∃ B, tgA (perW L A.s) A = B := ⟨_, rfl⟩
            obtain ⟨n, hn⟩ : ∃ n, tgN (perW L A.s) A = n := ⟨_, rfl⟩
            rw [hB] at HARR HREF HTL
            rw [hn] at HARR HREF
            have b1 : (n != n) = false := bne_self_eq_false n
            clear hB hn
            obtain ⟨x8, hx8⟩ : ∃ x, wr.heap.size = x := ⟨_, rfl⟩
            have hC0 := (hC.alloc (.cells #[.int .i64 0, .slice none 0 0, .slice none 0 0] 25)).alloc (.cells #[.int .i64 0, .slice none 0 0, .slice none 0 0] 25)
            have hB8 := (Bx.new wr (.int .i64 0) (.slice none 0 0) (.slice none 0 0) 25).fr ((Chg.refl _ _).alloc (.cells #[.int .i64 0, .slice none 0 0, .slice none 0 0] 25))
            have hB9 := Bx.new (wr.alloc (.cells #[.int .i64 0, .slice none 0 0, .slice none 0 0] 25)) (.int .i64 0) (.slice none 0 0) (.slice none 0 0) 25
            rw [World.size_alloc] at hB9
            rw [hx8] at hB8 hB9
            have hlo : wc.heap.size ≤ x8 := by rw [← hx8]; exact hC.size
            have HLO := Lib.hid hlo
            go_upto_region 10 with (fail)
            generalize (wr.alloc (.cells #[.int .i64 0, .slice none 0 0, .slice none 0 0] 25)).alloc (.cells #[.int .i64 0, .slice none 0 0, .slice none 0 0] 25) = z0 at *
            clear hx8 hC hlo
            have hhi := hB9.lt
            have HHI := Lib.hid hhi
            obtain ⟨⟨⟨q0, q1, q2⟩, hq⟩, ⟨⟨r0, r1, r2⟩, hr⟩, ⟨⟨s0, s1, s2⟩, hs⟩, ⟨⟨t0, t1, t2⟩, ht⟩⟩ := HY.out _ hC0
            have harr := HARR.out z0 _ _ hs ht
            have HC0 := Lib.hid hC0
            clear hC0 hhi
            go_wp2_with fail
            refine harr.mono ?_
            clear harr q0 q1 q2 hq r0 r1 r2 hr s0 s1 s2 hs t0 t1 t2 ht
            rintro e9 z1 ⟨v1, rfl, ho1, hC1⟩
            obtain ⟨a1, c1, b1', d1, rfl, k1, k2⟩ := ara_new ho1
            have hX := chg3 z1 x8 (.int .i64 B.k) (.slice a1 B.s.length c1) (.slice b1' B.e.length d1)
            have hK1 := k1.chg hX (fun q hq e => by have := (k1.lt q hq).1; have := HHI.out; omega)
            have hK2 := k2.chg hX (fun q hq e => by have := (k2.lt q hq).1; have := HHI.out; omega)
            have hc8 := bx_c3 (hB8.fr hC1) (.int .i64 B.k) (.slice a1 B.s.length c1) (.slice b1' B.e.length d1)
            have hB9' := (hB9.fr hC1).chg hX (show ¬ x8 + 1 = x8 by omega)
            have hCC := chg_set3 (HC0.out.tr hC1) HLO.out (.int .i64 B.k) (.slice a1 B.s.length c1) (.slice b1' B.e.length d1)
            obtain ⟨m0, m1, m2, n0, n1, n2⟩ := hB8.fr hC1
            clear hB8 hB9 ho1 k1 k2 hX
            go_upto_region 21 with (fail)
            generalize ((z1.setCell ⟨x8, 0, none⟩ (.int .i64 B.k)).setCell ⟨x8, 1, none⟩ (.slice a1 B.s.length c1)).setCell ⟨x8, 2, none⟩ (.slice b1' B.e.length d1) = z2 at *
            clear m0 m1 m2 n0 n1 n2 hC1
            obtain ⟨⟨⟨q0, q1, q2⟩, hq⟩, ⟨⟨r0, r1, r2⟩, hr⟩, ⟨⟨s0, s1, s2⟩, hs⟩, ⟨⟨t0, t1, t2⟩, ht⟩⟩ := HY.out _ hCC
            have href := HREF.out z2 _ _ hq hr
            replace HC0 := Lib.hid hCC
            have hz2 : x8 + 1 < z2.heap.size := hB9'.lt
            have HZ2 := Lib.hid hz2
            clear hCC hz2
            go_wp2_with fail
            refine href.mono ?_
            clear href q0 q1 q2 hq r0 r1 r2 hr s0 s1 s2 hs t0 t1 t2 ht
            rintro e9 z3 ⟨v3, rfl, ho3, hC3⟩
            obtain ⟨a3, c3, b3, d3, rfl, k3, k4⟩ := ara_new ho3
            have hX := chg3 z3 (x8 + 1) (.int .i64 B.k) (.slice a3 B.s.length c3) (.slice b3 B.e.length d3)
            have hN1 := (hK1.fr hC3).chg hX (fun q hq e => by have := (hK1.lt q hq).1; have := HHI.out; omega)
            have hN2 := (hK2.fr hC3).chg hX (fun q hq e => by have := (hK2.lt q hq).1; have := HHI.out; omega)
            have hN3 := k3.chg hX (fun q hq e => by have := (k3.lt q hq).1; have := HZ2.out; omega)
            have hN4 := k4.chg hX (fun q hq e => by have := (k4.lt q hq).1; have := HZ2.out; omega)
            have hc9 := bx_c3 (hB9'.fr hC3) (.int .i64 B.k) (.slice a3 B.s.length c3) (.slice b3 B.e.length d3)
            have hc8' := (hc8.chg hC3 id).chg hX (show ¬ x8 = x8 + 1 by omega)
            have hCC := chg_set3 (HC0.out.tr hC3) (Nat.le_succ_of_le HLO.out) (.int .i64 B.k) (.slice a3 B.s.length c3) (.slice b3 B.e.length d3)
            obtain ⟨m0, m1, m2, n0, n1, n2⟩ := hB9'.fr hC3
            clear hB9' ho3 k3 k4 hX hc8
            go_upto_region 22 with (fail)
            generalize ((z3.setCell ⟨x8 + 1, 0, none⟩ (.int .i64 B.k)).setCell ⟨x8 + 1, 1, none⟩ (.slice a3 B.s.length c3)).setCell ⟨x8 + 1, 2, none⟩ (.slice b3 B.e.length d3) = z4 at *
            clear m0 m1 m2 n0 n1 n2 hC3
            obtain ⟨u0, u1, u2⟩ := hc8'
            obtain ⟨w0', w1', w2'⟩ := hc9
            have hsm := r11same_any _ _ B B z4 (Ara.mk (k := B.k) hN1.ls hN2.ls) (Ara.mk (k := B.k) hN3.ls hN4.ls) HTL.out.2 HTL.out.1
            rw [sameA_iff.2 rfl] at hsm
            have HN1 := Lib.hid hN1
            have HN2 := Lib.hid hN2
            have HCC := Lib.hid hCC
            clear hN1 hN2 hN3 hN4 hK1 hK2 hCC
            go_wp2_with fail
            refine hsm.mono ?_
            clear hsm
            rintro e9 z5 ⟨rfl, hC5⟩
            replace u0 := hC5.cell u0 id
            replace u1 := hC5.cell u1 id
            replace u2 := hC5.cell u2 id
            have hsp := spoil_any B.k _ _ _ _ _ _ z5 (HN1.out.fr hC5) (HN2.out.fr hC5) HTL.out.1 HTL.out.2
            have HC5 := Lib.hid (HCC.out.tr hC5)
            have HF1 := Lib.hid (HN1.out.fr hC5)
            have HF2 := Lib.hid (HN2.out.fr hC5)
            clear hC5 w0' w1' w2'
            go_wp2_with fail
            refine hsp.mono ?_
            clear hsp u0 u1 u2
            rintro e9 z6 ⟨⟨vv, rfl⟩, hC6⟩
            have hend : Chg (fun _ => False) wc z6 := Chg.trans HC5.out hC6 (fun _ _ h => h) (fun i hi h => by
              have a1 := HHI.out
              have a2 := HLO.out
              rcases h with h | h
              · have := (HF1.out.lt i h).1; omega
              · have := (HF2.out.lt i h).1; omega)
            clear hC6
            go_wp2
            go_roundw
            case rel => exact ⟨4, by decide, rfl, hend⟩
            case measure => simp [intOf]
        · obtain rfl : j = 4 := by omega
          obtain ⟨⟨⟨q0, q1, q2⟩, hq⟩, ⟨⟨r0, r1, r2⟩, hr⟩, ⟨⟨s0, s1, s2⟩, hs⟩, ⟨⟨t0, t1, t2⟩, ht⟩⟩ := HY.out _ hC
          have h1 := r11same_any _ _ L L wr hs hq HSL.out.2.2.2 HSL.out.2.2.1
          rw [sameA_iff.2 rfl] at h1
          have HC0 := Lib.hid hC
          clear hlt hj hC
          go_wp2_with fail
          refine h1.mono ?_
          clear h1 q0 q1 q2 hq r0 r1 r2 hr s0 s1 s2 hs t0 t1 t2 ht
          rintro e9 z5 ⟨rfl, hC5⟩
          obtain ⟨⟨⟨q0, q1, q2⟩, hq⟩, ⟨⟨r0, r1, r2⟩, hr⟩, ⟨⟨s0, s1, s2⟩, hs⟩, ⟨⟨t0, t1, t2⟩, ht⟩⟩ := HY.out _ (HC0.out.tr hC5)
          have h1 := r11same_any _ _ A A z5 ht hr HSL.out.2.1 HSL.out.1
          rw [sameA_iff.2 rfl] at h1
          replace HC0 := Lib.hid (HC0.out.tr hC5)
          clear hC5
          go_wp2_with fail
          refine h1.mono ?_
          clear h1 q0 q1 q2 hq r0 r1 r2 hr s0 s1 s2 hs t0 t1 t2 ht
          rintro e9 z6 ⟨rfl, hC6⟩
          go_wp2
          go_ret
          exact ⟨rfl, (HCO.out.tr HC0.out).tr hC6⟩
end Go.Proofs.Ytmmbdhfljabefaa
