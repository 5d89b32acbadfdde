/- MoldTells. -/
import Derived.Test.YtceooipljhjpaaaMdU
import Derived.Test.YtceooipljhjpaaaMeF
namespace Go.Proofs.Ytceooipljhjpaaa
open Go.RowKit Go.Shelf

theorem ara_s {w : World} {k : Int} {vs ve : Value} {A : Ar} (h : Ara w (.agg #[.int .i64 k, vs, ve]) A) : Ls w vs A.s := by
  obtain ⟨_, _, e, h, _⟩ := h
  injection e with e
  injection e with e
  injection e with _ e
  injection e with e _
  rw [e]
  exact h
/-- A literal of one array, twice. -/
theorem two_lit {w : World} {k : Int} {vs ve : Value} {A : Ar} {t : TypeId} (h : Ara w (.agg #[.int .i64 k, vs, ve]) A) : LsA (w.alloc (.cells #[.int .i64 k, vs, ve, .int .i64 k, vs, ve] t)) (.slice (some ⟨w.heap.size, 0, none⟩) 2 2) [A, A] := by
  have he := (ara_e h).fr ((Chg.refl _ _).alloc (.cells #[.int .i64 k, vs, ve, .int .i64 k, vs, ve] t))
  refine ⟨_, 2, rfl, fun j hj => ⟨w.heap.size, 0, rfl, ve, ?_, ?_⟩⟩
  · simp only [List.length_cons, List.length_nil, Nat.zero_add, Nat.reduceAdd] at hj
    have : j = 0 ∨ j = 1 := by omega
    rcases this with rfl | rfl
    · exact new_cell w _ _ rfl
    · exact new_cell w _ _ rfl
  · simp only [List.length_cons, List.length_nil, Nat.zero_add, Nat.reduceAdd] at hj
    have : j = 0 ∨ j = 1 := by omega
    rcases this with rfl | rfl
    · exact he
    · exact he
theorem two_len {A : Ar} (h : A.e.length ≤ 1000000) : ∀ B ∈ [A, A], B.e.length ≤ 1000000 := by
  intro B hB
  simp only [List.mem_cons, List.not_mem_nil, or_false, or_self] at hB
  rw [hB]
  exact h
set_option maxRecDepth 100000 in
set_option maxHeartbeats 4000000 in
theorem moldTells_walk (vl : Value) (L : Ar) (v : Value) (A : Ar) (W : World) (hl : OkArr W vl L) (h : OkArr W v A) : Calls Try.prog 5 #[vl, v] W (True_ W) := by
  have hA := h.1
  have hL := hl.1
  clear h hl
  have hal := alive_any
  have hA' := hA
  have hL' := hL
  obtain ⟨vt, ve, hv, ht, he⟩ := id hA
  obtain ⟨vp, vf, hu, hp, hf⟩ := id hL
  subst hv hu
  obtain ⟨ta, ct, rfl, _⟩ := ht.form
  obtain ⟨ae, ce, rfl, _⟩ := he.form
  obtain ⟨pa, cp, rfl, _⟩ := hp.form
  obtain ⟨fa, cf, rfl, _⟩ := hf.form
  have hbL := (BoxA.new (A := L) 25 hL).fr ((Chg.refl _ _).alloc (.cells #[.int .i64 A.k, .slice ta A.s.length ct, .slice ae A.e.length ce] 25))
  have hbA := BoxA.new (w := W.alloc (.cells #[.int .i64 L.k, .slice pa L.s.length cp, .slice fa L.e.length cf] 25)) (A := A) 25 (hA.fr ((Chg.refl _ _).alloc _))
  rw [World.size_alloc] at hbA
  have HC := Lib.hid (((Chg.refl (fun _ => False) W).alloc (.cells #[.int .i64 L.k, .slice pa L.s.length cp, .slice fa L.e.length cf] 25)).alloc (.cells #[.int .i64 A.k, .slice ta A.s.length ct, .slice ae A.e.length ce] 25))
  clear ht he hp hf hA hL
  go_enter Try.func5, Try.ntmps5
  go_wp2_with fail
  refine (hal _).mono ?_
  clear hal
  rintro e9 w1 ⟨rfl, hC1⟩
  replace hbA := hbA.fr hC1
  replace hbL := hbL.fr hC1
  replace HC := Lib.hid (HC.out.tr hC1)
  clear hC1 hA' hL'
  obtain ⟨x2, hx2⟩ : ∃ x2, W.heap.size = x2 := ⟨_, rfl⟩
  rw [hx2] at hbA hbL
  obtain ⟨sa, cs, sb, cb, ⟨y0, y1, y2⟩, hb1⟩ := id hbA
  obtain ⟨pa2, cp2, pb2, cq2, ⟨p0, p1, p2⟩, hb2⟩ := id hbL
  have hgr := great_any _ _ L A _ hb2 hb1
  cases hg : grtB L A with
  | true =>
    rw [hg] at hgr
    clear hg hbA hbL
    go_wp2_with fail
    refine hgr.mono ?_
    clear hgr
    rintro e9 w2 ⟨rfl, hC2⟩
    go_wp2
    go_ret
    exact ⟨rfl, HC.out.tr hC2⟩
  | false =>
    rw [hg] at hgr
    obtain ⟨⟨gl1, gl2⟩, ga1, ga2⟩ := grtB_not hg
    clear hg
    go_wp2_with fail
    refine hgr.mono ?_
    clear hgr y0 y1 y2 hb1 p0 p1 p2 hb2
    rintro e9 w2 ⟨rfl, hC2⟩
    replace hbA := hbA.fr hC2
    replace hbL := hbL.fr hC2
    replace HC := Lib.hid (HC.out.tr hC2)
    clear hC2
    obtain ⟨pa2, cp2, pb2, cq2, ⟨p0, p1, p2⟩, hb2⟩ := id hbL
    have hck := check_any _ L _ hb2 (by omega)
    cases hcL : chkB L with
    | false =>
      rw [show chkE L = 110 by unfold chkE; rw [hcL]; rfl] at hck
      clear hcL hbA hbL
      go_wp2_with fail
      refine hck.mono ?_
      clear hck
      rintro e9 w3 ⟨rfl, hC3⟩
      go_wp2
      go_ret
      exact ⟨rfl, HC.out.tr hC3⟩
    | true =>
      rw [show chkE L = 0 by unfold chkE; rw [hcL]; rfl] at hck
      have HKL := Lib.hid hcL
      clear hcL
      go_wp2_with fail
      refine hck.mono ?_
      clear hck p0 p1 p2 hb2
      rintro e9 w3 ⟨rfl, hC3⟩
      replace hbA := hbA.fr hC3
      replace hbL := hbL.fr hC3
      replace HC := Lib.hid (HC.out.tr hC3)
      clear hC3
      obtain ⟨sa, cs, sb, cb, ⟨y0, y1, y2⟩, hb1⟩ := id hbA
      have hck := check_any _ A _ hb1 (by omega)
      cases hc : chkB A with
      | false =>
        rw [show chkE A = 110 by unfold chkE; rw [hc]; rfl] at hck
        clear hc hbA hbL
        go_wp2_with fail
        refine hck.mono ?_
        clear hck
        rintro e9 w4 ⟨rfl, hC4⟩
        go_wp2
        go_ret
        exact ⟨rfl, HC.out.tr hC4⟩
      | true =>
        rw [show chkE A = 0 by unfold chkE; rw [hc]; rfl] at hck
        have HK := Lib.hid hc
        clear hc
        go_wp2_with fail
        refine hck.mono ?_
        clear hck y0 y1 y2 hb1
        rintro e9 w5 ⟨rfl, hC5⟩
        obtain ⟨sa, cs, sb, cb, ⟨y0, y1, y2⟩, hb1⟩ := hbA.fr hC5
        obtain ⟨pa, cp, pb, cq, ⟨p0, p1, p2⟩, hb2⟩ := hbL.fr hC5
        have HYA := Lib.hid (show ∀ w', Chg (fun _ => False) w5 w' → (w'.cell? ⟨x2 + 1, 0, none⟩ = some (.int .i64 A.k) ∧ w'.cell? ⟨x2 + 1, 1, none⟩ = some (.slice sa A.s.length cs) ∧ w'.cell? ⟨x2 + 1, 2, none⟩ = some (.slice sb A.e.length cb)) ∧ Ara w' (.agg #[.int .i64 A.k, .slice sa A.s.length cs, .slice sb A.e.length cb]) A from fun w' h => ⟨⟨h.cell y0 id, h.cell y1 id, h.cell y2 id⟩, hb1.fr h⟩)
        have HYL := Lib.hid (show ∀ w', Chg (fun _ => False) w5 w' → (w'.cell? ⟨x2, 0, none⟩ = some (.int .i64 L.k) ∧ w'.cell? ⟨x2, 1, none⟩ = some (.slice pa L.s.length cp) ∧ w'.cell? ⟨x2, 2, none⟩ = some (.slice pb L.e.length cq)) ∧ Ara w' (.agg #[.int .i64 L.k, .slice pa L.s.length cp, .slice pb L.e.length cq]) L from fun w' h => ⟨⟨h.cell p0 id, h.cell p1 id, h.cell p2 id⟩, hb2.fr h⟩)
        have HCO := Lib.hid (HC.out.tr hC5)
        have HSL := Lib.hid (show A.s.length ≤ 1000000 ∧ A.e.length ≤ 1000000 ∧ L.s.length ≤ 1000000 ∧ L.e.length ≤ 1000000 ∧ A.e.length ≤ 5000 by omega)
        clear hbA hbL hC5 y0 y1 y2 hb1 p0 p1 p2 hb2 HC gl1 gl2 ga1 ga2 hx2
        go_wp2
        go_loopw [6] (fun i wr => ∃ j : Nat, j ≤ 4 ∧ i = .int .i64 j ∧ Chg (fun _ => False) w5 wr) (fun i _ => 4 - (intOf i).toNat)
        case atStart => exact ⟨0, Nat.zero_le _, rfl, Chg.refl _ _⟩
        case round =>
          obtain ⟨j, hj, rfl, hC⟩ := hrel
          by_cases hlt : j < 4
          · have hj4 : j = 0 ∨ j = 1 ∨ j = 2 ∨ j = 3 := by omega
            clear hj
            rcases hj4 with rfl | rfl | rfl | rfl
            · skip
              have HTE := Lib.hid (tell_one HKL.out HK.out (rsW_ok (L := L) (s := A.s)) (fun x hx => rsW_in HK.out hx))
              have HWAY := Lib.hid (fun (w' : World) (u0 u1 : Value) (h0 : Ara w' u0 L) (h : Ls w' u1 A.s) => reshway_any u0 u1 L A.s w' h0 h HSL.out.2.2.2.1)
              have HARR := Lib.hid (fun (w' : World) (u0 u1 : Value) (h0 : Ara w' u0 L) (h : Ara w' u1 A) => reshape_any u0 u1 L A w' h0 h HSL.out.2.2.2.1 HSL.out.2.1)
              obtain ⟨B, hB⟩ : ∃ B, mgA (rsW L A.s) L A = B := ⟨_, rfl⟩
              obtain ⟨m, hm⟩ : ∃ m, mgN (rsW L A.s) L A = m := ⟨_, rfl⟩
              rw [hB, hm] at HARR HTE
              clear hB hm
              obtain ⟨Y, hY⟩ : ∃ Y, rsW L A.s = Y := ⟨_, rfl⟩
              rw [hY] at HWAY HTE
              clear hY
              obtain ⟨x7, hx7⟩ : ∃ x, wr.heap.size = x := ⟨_, rfl⟩
              have hC0 := (hC.alloc (.cells #[.slice none 0 0, .nilFunc] 31)).alloc (.cells #[.int .i64 0, .slice none 0 0, .slice none 0 0] 25)
              have z0 := alloc_cell (new_cell wr #[.slice none 0 0, .nilFunc] 31 (i := 0) rfl) (.cells #[.int .i64 0, .slice none 0 0, .slice none 0 0] 25)
              have z1 := alloc_cell (new_cell wr #[.slice none 0 0, .nilFunc] 31 (i := 1) rfl) (.cells #[.int .i64 0, .slice none 0 0, .slice none 0 0] 25)
              have f0 := alloc_frozen (new_cell wr #[.slice none 0 0, .nilFunc] 31 (i := 0) rfl) (new_frozen wr #[.slice none 0 0, .nilFunc] 31 0) (.cells #[.int .i64 0, .slice none 0 0, .slice none 0 0] 25)
              have f1 := alloc_frozen (new_cell wr #[.slice none 0 0, .nilFunc] 31 (i := 1) rfl) (new_frozen wr #[.slice none 0 0, .nilFunc] 31 1) (.cells #[.int .i64 0, .slice none 0 0, .slice none 0 0] 25)
              have hB8 := Bx.new (wr.alloc (.cells #[.slice none 0 0, .nilFunc] 31)) (.int .i64 0) (.slice none 0 0) (.slice none 0 0) 25
              rw [World.size_alloc] at hB8
              rw [hx7] at z0 z1 f0 f1 hB8
              go_upto_region 10 with (fail)
              generalize (wr.alloc (.cells #[.slice none 0 0, .nilFunc] 31)).alloc (.cells #[.int .i64 0, .slice none 0 0, .slice none 0 0] 25) = w0 at *
              have hlt5 : w5.heap.size ≤ x7 := by rw [← hx7]; exact hC.size
              have HX7 := Lib.hid hlt5
              have hx8 := hB8.lt
              have HX8 := Lib.hid hx8
              clear hx7 hC hx8 hlt5
              obtain ⟨⟨y0, y1, y2⟩, hb1⟩ := HYA.out _ hC0
              obtain ⟨⟨p0, p1, p2⟩, hb2⟩ := HYL.out _ hC0
              have HC := Lib.hid hC0
              have hway := HWAY.out w0 _ _ hb2 (ara_s hb1)
              clear hC0
              go_wp2_with fail
              refine hway.mono ?_
              clear hway
              rintro e9 w1 ⟨v1, D1, rfl, hW1, hD1, hC1⟩
              replace f0 := hC1.frozen z0 f0 id
              replace f1 := hC1.frozen z1 f1 id
              replace z0 := hC1.cell z0 id
              replace z1 := hC1.cell z1 id
              replace hB8 := hB8.fr hC1
              replace HC := Lib.hid (HC.out.tr hC1)
              have hw10 := hC1.size
              have HW10 := Lib.hid hw10
              clear hC1 y0 y1 y2 hb1 p0 p1 p2 hb2 hw10
              have HWY := Lib.hid hW1
              have HD1 := Lib.hid hD1
              rcases hW1 with ⟨hn0, vs, gf, lb, rfl, hs1, hd1, eg, hf1⟩ | ⟨hn0, hs0, hg0, rfl⟩
              · obtain ⟨a1, c1, rfl, _⟩ := hs1.form
                obtain ⟨g0, g1⟩ := mset2 (.slice a1 Y.s.length c1) (.func (.func gf) #[] lb) z0 z1
                have hCs := (HC.out.setCell (p := ⟨x7, 0, none⟩) (.inr HX7.out) (.slice a1 Y.s.length c1)).setCell (p := ⟨x7, 1, none⟩) (.inr HX7.out) (.func (.func gf) #[] lb)
                have hO1 : OldC D1 w1 ((w1.setCell ⟨x7, 0, none⟩ (.slice a1 Y.s.length c1)).setCell ⟨x7, 1, none⟩ (.func (.func gf) #[] lb)) := ((Chg.refl _ w1).setCell (p := ⟨x7, 0, none⟩) (.inl (fun hd => (HD1.out _ hd).elim id (fun h => by have h9 : w0.heap.size ≤ x7 := h; have := HX8.out; omega))) _).setCell (p := ⟨x7, 1, none⟩) (.inl (fun hd => (HD1.out _ hd).elim id (fun h => by have h9 : w0.heap.size ≤ x7 := h; have := HX8.out; omega))) _
                replace hB8 := hB8.chg (((Chg.refl (fun k => k = x7) w1).setCell (p := ⟨x7, 0, none⟩) (.inl rfl) (.slice a1 Y.s.length c1)).setCell (p := ⟨x7, 1, none⟩) (.inl rfl) (.func (.func gf) #[] lb)) (by omega)
                have HNN := Lib.hid hn0
                clear hs1 hd1 hf1 hD1
                rw [hn0]
                clear hn0
                go_upto_region 13 with (fail)
                generalize (w1.setCell ⟨x7, 0, none⟩ (.slice a1 Y.s.length c1)).setCell ⟨x7, 1, none⟩ (.func (.func gf) #[] lb) = w2 at *
                clear z0 z1 f0 f1
                obtain ⟨⟨y0, y1, y2⟩, hb1⟩ := HYA.out _ hCs
                obtain ⟨⟨p0, p1, p2⟩, hb2⟩ := HYL.out _ hCs
                have harr := HARR.out w2 _ _ hb2 hb1
                rw [(HTE.out.2 HNN.out).1] at harr
                replace HC := Lib.hid hCs
                have HO1 := Lib.hid hO1
                have HDO := Lib.hid (HTE.out.2 HNN.out).2
                clear hCs hO1
                go_wp2_with fail
                refine harr.mono ?_
                clear harr y0 y1 y2 hb1 p0 p1 p2 hb2
                rintro e9 w3 ⟨v3, rfl, ho3, hC3⟩
                obtain ⟨a3, c3, b3, d3, rfl, _, _⟩ := ara_new ho3
                replace g0 := hC3.cell g0 id
                replace g1 := hC3.cell g1 id
                replace hB8 := hB8.fr hC3
                obtain ⟨q0, q1, q2, k0, k1, k2⟩ := id hB8
                have hbB := BoxA.set (A := B) hB8 ho3 (by have := HX8.out; have := HW10.out; have h9 := HO1.out.size; show x7 + 1 < w2.heap.size; omega)
                have hCs := chg_set3 (HC.out.tr hC3) (show w5.heap.size ≤ x7 + 1 by have := HX7.out; omega) (.int .i64 B.k) (.slice a3 B.s.length c3) (.slice b3 B.e.length d3)
                have hnd : ¬ D1 (x7 + 1) := fun hd => (HD1.out _ hd).elim id (fun h => by have := HX8.out; omega)
                have hO3 : OldC D1 w1 (((w3.setCell ⟨x7 + 1, 0, none⟩ (.int .i64 B.k)).setCell ⟨x7 + 1, 1, none⟩ (.slice a3 B.s.length c3)).setCell ⟨x7 + 1, 2, none⟩ (.slice b3 B.e.length d3)) := (((HO1.out.trans (OldC.of hC3)).setCell (p := ⟨x7 + 1, 0, none⟩) (.inl hnd) _).setCell (p := ⟨x7 + 1, 1, none⟩) (.inl hnd) _).setCell (p := ⟨x7 + 1, 2, none⟩) (.inl hnd) _
                have hC8 := (((Chg.refl (fun k => k = x7 + 1) w3).setCell (p := ⟨x7 + 1, 0, none⟩) (.inl rfl) (.int .i64 B.k)).setCell (p := ⟨x7 + 1, 1, none⟩) (.inl rfl) (.slice a3 B.s.length c3)).setCell (p := ⟨x7 + 1, 2, none⟩) (.inl rfl) (.slice b3 B.e.length d3)
                have g0' := hC8.cell g0 (show ¬ x7 = x7 + 1 by omega)
                have g1' := hC8.cell g1 (show ¬ x7 = x7 + 1 by omega)
                go_upto_region 23 with (fail)
                generalize ((w3.setCell ⟨x7 + 1, 0, none⟩ (.int .i64 B.k)).setCell ⟨x7 + 1, 1, none⟩ (.slice a3 B.s.length c3)).setCell ⟨x7 + 1, 2, none⟩ (.slice b3 B.e.length d3) = w4 at *
                clear q0 q1 q2 k0 k1 k2 g0 g1 hB8 hC3 ho3 hnd hC8
                have hWe : Y = ⟨Y.s, Y.g, 0⟩ := by
                  have h := HNN.out
                  rcases Y with ⟨s, g, n⟩
                  simp only at h
                  subst h
                  rfl
                have hCn := (Chg.refl (fun _ => False) w4).alloc (.cells #[.int .i64 A.k, .slice sa A.s.length cs, .slice sb A.e.length cb, .int .i64 A.k, .slice sa A.s.length cs, .slice sb A.e.length cb] 25)
                obtain ⟨⟨y0, y1, y2⟩, hb1⟩ := HYA.out _ hCs
                have hgo := mgo_any _ (.slice (some ⟨w4.heap.size, 0, none⟩) 2 2) A.k Y.s Y.g D1 [A, A] _ (show WayAt _ D1 _ ⟨Y.s, Y.g, 0⟩ by rw [← hWe]; exact HWY.out.old (hO3.trans (OldC.of hCn))) HDO.out.1.1 HDO.out.1.2 (two_lit hb1) (two_len HSL.out.2.1)
                rw [HDO.out.2.1.1, HDO.out.2.1.2] at hgo
                replace HC := Lib.hid (hCs.tr hCn)
                replace hbB := hbB.fr hCn
                clear hWe hCs hO3
                go_wp2_with fail
                refine hgo.mono ?_
                clear hgo y0 y1 y2 hb1 g0' g1'
                rintro e9 w6 ⟨v6, rfl, ho6, hC6⟩
                obtain ⟨a9, c9, b9, d9, rfl, _, _⟩ := ara_new ho6
                have hbC := BoxA.new (A := B) 25 ho6.ara
                have hC7 := hC6.alloc (.cells #[.int .i64 B.k, .slice a9 B.s.length c9, .slice b9 B.e.length d9] 25)
                replace HC := Lib.hid (HC.out.tr hC7)
                replace hbB := hbB.fr hC7
                obtain ⟨x11, hx11⟩ : ∃ x, w6.heap.size = x := ⟨_, rfl⟩
                rw [hx11] at hbC
                clear hC6 hC7 ho6 hCn
                obtain ⟨sa3, cs3, sb3, cb3, ⟨q0, q1, q2⟩, hb3⟩ := id hbC
                obtain ⟨sa4, cs4, sb4, cb4, ⟨r0, r1, r2⟩, hb4⟩ := id hbB
                have h1 := isC _ _ B _ hb3 hb4 HDO.out.2.2
                go_wp2_with fail
                clear hx11
                refine h1.mono ?_
                clear h1 q0 q1 q2 hb3 r0 r1 r2 hb4 hbC hbB
                rintro e9 z7 ⟨rfl, hC9⟩
                replace HC := Lib.hid (HC.out.tr hC9)
                clear hC9
                go_wp2
                go_roundw
                case rel => exact ⟨1, by decide, rfl, HC.out⟩
                case measure => simp [intOf]
              · obtain ⟨g0, g1⟩ := mset2 (.slice none 0 0) .nilFunc z0 z1
                have hCs := (HC.out.setCell (p := ⟨x7, 0, none⟩) (.inr HX7.out) (.slice none 0 0)).setCell (p := ⟨x7, 1, none⟩) (.inr HX7.out) .nilFunc
                replace hB8 := hB8.chg (((Chg.refl (fun k => k = x7) w1).setCell (p := ⟨x7, 0, none⟩) (.inl rfl) (.slice none 0 0)).setCell (p := ⟨x7, 1, none⟩) (.inl rfl) .nilFunc) (by omega)
                have HNN := Lib.hid hn0
                clear hD1 g0 g1
                obtain ⟨n, hnn⟩ : ∃ n, Y.n = n := ⟨_, rfl⟩
                rw [hnn] at hn0
                have b1 : (n != n) = false := bne_self_eq_false n
                have b2 : (n != 0) = true := bne_iff_ne.2 hn0
                have HNE := Lib.hid hnn
                rw [hnn]
                clear hn0 hs0 hg0 hnn
                go_upto_region 13 with (fail)
                generalize (w1.setCell ⟨x7, 0, none⟩ (.slice none 0 0)).setCell ⟨x7, 1, none⟩ .nilFunc = w2 at *
                clear z0 z1 f0 f1
                obtain ⟨⟨y0, y1, y2⟩, hb1⟩ := HYA.out _ hCs
                obtain ⟨⟨p0, p1, p2⟩, hb2⟩ := HYL.out _ hCs
                have harr := HARR.out w2 _ _ hb2 hb1
                rw [HTE.out.1 HNN.out, HNE.out] at harr
                replace HC := Lib.hid hCs
                clear hCs
                go_wp2_with fail
                refine harr.mono ?_
                clear harr y0 y1 y2 hb1 p0 p1 p2 hb2
                rintro e9 w3 ⟨v3, rfl, ho3, hC3⟩
                obtain ⟨a3, c3, b3, d3, rfl, _, _⟩ := ara_new ho3
                replace hB8 := hB8.fr hC3
                obtain ⟨q0, q1, q2, k0, k1, k2⟩ := id hB8
                have hCs := chg_set3 (HC.out.tr hC3) (show w5.heap.size ≤ x7 + 1 by have := HX7.out; omega) (.int .i64 B.k) (.slice a3 B.s.length c3) (.slice b3 B.e.length d3)
                go_upto_region 23 with (fail)
                generalize ((w3.setCell ⟨x7 + 1, 0, none⟩ (.int .i64 B.k)).setCell ⟨x7 + 1, 1, none⟩ (.slice a3 B.s.length c3)).setCell ⟨x7 + 1, 2, none⟩ (.slice b3 B.e.length d3) = w4 at *
                clear q0 q1 q2 k0 k1 k2 hB8 hC3 ho3
                go_wp2
                go_roundw
                case rel => exact ⟨1, by decide, rfl, hCs⟩
                case measure => simp [intOf]
            · skip
              have HTE := Lib.hid (tell_one HKL.out HK.out (tkW_ok (L := L) (s := A.s)) (fun x hx => tkW_in HK.out hx))
              have HWAY := Lib.hid (fun (w' : World) (u0 u1 : Value) (h0 : Ara w' u0 L) (h : Ls w' u1 A.s) => takeway_any u0 u1 L A.s w' h0 h HSL.out.2.2.2.1)
              have HARR := Lib.hid (fun (w' : World) (u0 u1 : Value) (h0 : Ara w' u0 L) (h : Ara w' u1 A) => take_any u0 u1 L A w' h0 h HSL.out.2.2.2.1 HSL.out.2.1)
              obtain ⟨B, hB⟩ : ∃ B, mgA (tkW L A.s) L A = B := ⟨_, rfl⟩
              obtain ⟨m, hm⟩ : ∃ m, mgN (tkW L A.s) L A = m := ⟨_, rfl⟩
              rw [hB, hm] at HARR HTE
              clear hB hm
              obtain ⟨Y, hY⟩ : ∃ Y, tkW L A.s = Y := ⟨_, rfl⟩
              rw [hY] at HWAY HTE
              clear hY
              obtain ⟨x7, hx7⟩ : ∃ x, wr.heap.size = x := ⟨_, rfl⟩
              have hC0 := (hC.alloc (.cells #[.slice none 0 0, .nilFunc] 31)).alloc (.cells #[.int .i64 0, .slice none 0 0, .slice none 0 0] 25)
              have z0 := alloc_cell (new_cell wr #[.slice none 0 0, .nilFunc] 31 (i := 0) rfl) (.cells #[.int .i64 0, .slice none 0 0, .slice none 0 0] 25)
              have z1 := alloc_cell (new_cell wr #[.slice none 0 0, .nilFunc] 31 (i := 1) rfl) (.cells #[.int .i64 0, .slice none 0 0, .slice none 0 0] 25)
              have f0 := alloc_frozen (new_cell wr #[.slice none 0 0, .nilFunc] 31 (i := 0) rfl) (new_frozen wr #[.slice none 0 0, .nilFunc] 31 0) (.cells #[.int .i64 0, .slice none 0 0, .slice none 0 0] 25)
              have f1 := alloc_frozen (new_cell wr #[.slice none 0 0, .nilFunc] 31 (i := 1) rfl) (new_frozen wr #[.slice none 0 0, .nilFunc] 31 1) (.cells #[.int .i64 0, .slice none 0 0, .slice none 0 0] 25)
              have hB8 := Bx.new (wr.alloc (.cells #[.slice none 0 0, .nilFunc] 31)) (.int .i64 0) (.slice none 0 0) (.slice none 0 0) 25
              rw [World.size_alloc] at hB8
              rw [hx7] at z0 z1 f0 f1 hB8
              go_upto_region 10 with (fail)
              generalize (wr.alloc (.cells #[.slice none 0 0, .nilFunc] 31)).alloc (.cells #[.int .i64 0, .slice none 0 0, .slice none 0 0] 25) = w0 at *
              have hlt5 : w5.heap.size ≤ x7 := by rw [← hx7]; exact hC.size
              have HX7 := Lib.hid hlt5
              have hx8 := hB8.lt
              have HX8 := Lib.hid hx8
              clear hx7 hC hx8 hlt5
              obtain ⟨⟨y0, y1, y2⟩, hb1⟩ := HYA.out _ hC0
              obtain ⟨⟨p0, p1, p2⟩, hb2⟩ := HYL.out _ hC0
              have HC := Lib.hid hC0
              have hway := HWAY.out w0 _ _ hb2 (ara_s hb1)
              clear hC0
              go_wp2_with fail
              refine hway.mono ?_
              clear hway
              rintro e9 w1 ⟨v1, D1, rfl, hW1, hD1, hC1⟩
              replace f0 := hC1.frozen z0 f0 id
              replace f1 := hC1.frozen z1 f1 id
              replace z0 := hC1.cell z0 id
              replace z1 := hC1.cell z1 id
              replace hB8 := hB8.fr hC1
              replace HC := Lib.hid (HC.out.tr hC1)
              have hw10 := hC1.size
              have HW10 := Lib.hid hw10
              clear hC1 y0 y1 y2 hb1 p0 p1 p2 hb2 hw10
              have HWY := Lib.hid hW1
              have HD1 := Lib.hid hD1
              rcases hW1 with ⟨hn0, vs, gf, lb, rfl, hs1, hd1, eg, hf1⟩ | ⟨hn0, hs0, hg0, rfl⟩
              · obtain ⟨a1, c1, rfl, _⟩ := hs1.form
                obtain ⟨g0, g1⟩ := mset2 (.slice a1 Y.s.length c1) (.func (.func gf) #[] lb) z0 z1
                have hCs := (HC.out.setCell (p := ⟨x7, 0, none⟩) (.inr HX7.out) (.slice a1 Y.s.length c1)).setCell (p := ⟨x7, 1, none⟩) (.inr HX7.out) (.func (.func gf) #[] lb)
                have hO1 : OldC D1 w1 ((w1.setCell ⟨x7, 0, none⟩ (.slice a1 Y.s.length c1)).setCell ⟨x7, 1, none⟩ (.func (.func gf) #[] lb)) := ((Chg.refl _ w1).setCell (p := ⟨x7, 0, none⟩) (.inl (fun hd => (HD1.out _ hd).elim id (fun h => by have h9 : w0.heap.size ≤ x7 := h; have := HX8.out; omega))) _).setCell (p := ⟨x7, 1, none⟩) (.inl (fun hd => (HD1.out _ hd).elim id (fun h => by have h9 : w0.heap.size ≤ x7 := h; have := HX8.out; omega))) _
                replace hB8 := hB8.chg (((Chg.refl (fun k => k = x7) w1).setCell (p := ⟨x7, 0, none⟩) (.inl rfl) (.slice a1 Y.s.length c1)).setCell (p := ⟨x7, 1, none⟩) (.inl rfl) (.func (.func gf) #[] lb)) (by omega)
                have HNN := Lib.hid hn0
                clear hs1 hd1 hf1 hD1
                rw [hn0]
                clear hn0
                go_upto_region 16 with (fail)
                generalize (w1.setCell ⟨x7, 0, none⟩ (.slice a1 Y.s.length c1)).setCell ⟨x7, 1, none⟩ (.func (.func gf) #[] lb) = w2 at *
                clear z0 z1 f0 f1
                obtain ⟨⟨y0, y1, y2⟩, hb1⟩ := HYA.out _ hCs
                obtain ⟨⟨p0, p1, p2⟩, hb2⟩ := HYL.out _ hCs
                have harr := HARR.out w2 _ _ hb2 hb1
                rw [(HTE.out.2 HNN.out).1] at harr
                replace HC := Lib.hid hCs
                have HO1 := Lib.hid hO1
                have HDO := Lib.hid (HTE.out.2 HNN.out).2
                clear hCs hO1
                go_wp2_with fail
                refine harr.mono ?_
                clear harr y0 y1 y2 hb1 p0 p1 p2 hb2
                rintro e9 w3 ⟨v3, rfl, ho3, hC3⟩
                obtain ⟨a3, c3, b3, d3, rfl, _, _⟩ := ara_new ho3
                replace g0 := hC3.cell g0 id
                replace g1 := hC3.cell g1 id
                replace hB8 := hB8.fr hC3
                obtain ⟨q0, q1, q2, k0, k1, k2⟩ := id hB8
                have hbB := BoxA.set (A := B) hB8 ho3 (by have := HX8.out; have := HW10.out; have h9 := HO1.out.size; show x7 + 1 < w2.heap.size; omega)
                have hCs := chg_set3 (HC.out.tr hC3) (show w5.heap.size ≤ x7 + 1 by have := HX7.out; omega) (.int .i64 B.k) (.slice a3 B.s.length c3) (.slice b3 B.e.length d3)
                have hnd : ¬ D1 (x7 + 1) := fun hd => (HD1.out _ hd).elim id (fun h => by have := HX8.out; omega)
                have hO3 : OldC D1 w1 (((w3.setCell ⟨x7 + 1, 0, none⟩ (.int .i64 B.k)).setCell ⟨x7 + 1, 1, none⟩ (.slice a3 B.s.length c3)).setCell ⟨x7 + 1, 2, none⟩ (.slice b3 B.e.length d3)) := (((HO1.out.trans (OldC.of hC3)).setCell (p := ⟨x7 + 1, 0, none⟩) (.inl hnd) _).setCell (p := ⟨x7 + 1, 1, none⟩) (.inl hnd) _).setCell (p := ⟨x7 + 1, 2, none⟩) (.inl hnd) _
                have hC8 := (((Chg.refl (fun k => k = x7 + 1) w3).setCell (p := ⟨x7 + 1, 0, none⟩) (.inl rfl) (.int .i64 B.k)).setCell (p := ⟨x7 + 1, 1, none⟩) (.inl rfl) (.slice a3 B.s.length c3)).setCell (p := ⟨x7 + 1, 2, none⟩) (.inl rfl) (.slice b3 B.e.length d3)
                have g0' := hC8.cell g0 (show ¬ x7 = x7 + 1 by omega)
                have g1' := hC8.cell g1 (show ¬ x7 = x7 + 1 by omega)
                go_upto_region 23 with (fail)
                generalize ((w3.setCell ⟨x7 + 1, 0, none⟩ (.int .i64 B.k)).setCell ⟨x7 + 1, 1, none⟩ (.slice a3 B.s.length c3)).setCell ⟨x7 + 1, 2, none⟩ (.slice b3 B.e.length d3) = w4 at *
                clear q0 q1 q2 k0 k1 k2 g0 g1 hB8 hC3 ho3 hnd hC8
                have hWe : Y = ⟨Y.s, Y.g, 0⟩ := by
                  have h := HNN.out
                  rcases Y with ⟨s, g, n⟩
                  simp only at h
                  subst h
                  rfl
                have hCn := (Chg.refl (fun _ => False) w4).alloc (.cells #[.int .i64 A.k, .slice sa A.s.length cs, .slice sb A.e.length cb, .int .i64 A.k, .slice sa A.s.length cs, .slice sb A.e.length cb] 25)
                obtain ⟨⟨y0, y1, y2⟩, hb1⟩ := HYA.out _ hCs
                have hgo := mgo_any _ (.slice (some ⟨w4.heap.size, 0, none⟩) 2 2) A.k Y.s Y.g D1 [A, A] _ (show WayAt _ D1 _ ⟨Y.s, Y.g, 0⟩ by rw [← hWe]; exact HWY.out.old (hO3.trans (OldC.of hCn))) HDO.out.1.1 HDO.out.1.2 (two_lit hb1) (two_len HSL.out.2.1)
                rw [HDO.out.2.1.1, HDO.out.2.1.2] at hgo
                replace HC := Lib.hid (hCs.tr hCn)
                replace hbB := hbB.fr hCn
                clear hWe hCs hO3
                go_wp2_with fail
                refine hgo.mono ?_
                clear hgo y0 y1 y2 hb1 g0' g1'
                rintro e9 w6 ⟨v6, rfl, ho6, hC6⟩
                obtain ⟨a9, c9, b9, d9, rfl, _, _⟩ := ara_new ho6
                have hbC := BoxA.new (A := B) 25 ho6.ara
                have hC7 := hC6.alloc (.cells #[.int .i64 B.k, .slice a9 B.s.length c9, .slice b9 B.e.length d9] 25)
                replace HC := Lib.hid (HC.out.tr hC7)
                replace hbB := hbB.fr hC7
                obtain ⟨x11, hx11⟩ : ∃ x, w6.heap.size = x := ⟨_, rfl⟩
                rw [hx11] at hbC
                clear hC6 hC7 ho6 hCn
                obtain ⟨sa3, cs3, sb3, cb3, ⟨q0, q1, q2⟩, hb3⟩ := id hbC
                obtain ⟨sa4, cs4, sb4, cb4, ⟨r0, r1, r2⟩, hb4⟩ := id hbB
                have h1 := isC _ _ B _ hb3 hb4 HDO.out.2.2
                go_wp2_with fail
                clear hx11
                refine h1.mono ?_
                clear h1 q0 q1 q2 hb3 r0 r1 r2 hb4 hbC hbB
                rintro e9 z7 ⟨rfl, hC9⟩
                replace HC := Lib.hid (HC.out.tr hC9)
                clear hC9
                go_wp2
                go_roundw
                case rel => exact ⟨2, by decide, rfl, HC.out⟩
                case measure => simp [intOf]
              · obtain ⟨g0, g1⟩ := mset2 (.slice none 0 0) .nilFunc z0 z1
                have hCs := (HC.out.setCell (p := ⟨x7, 0, none⟩) (.inr HX7.out) (.slice none 0 0)).setCell (p := ⟨x7, 1, none⟩) (.inr HX7.out) .nilFunc
                replace hB8 := hB8.chg (((Chg.refl (fun k => k = x7) w1).setCell (p := ⟨x7, 0, none⟩) (.inl rfl) (.slice none 0 0)).setCell (p := ⟨x7, 1, none⟩) (.inl rfl) .nilFunc) (by omega)
                have HNN := Lib.hid hn0
                clear hD1 g0 g1
                obtain ⟨n, hnn⟩ : ∃ n, Y.n = n := ⟨_, rfl⟩
                rw [hnn] at hn0
                have b1 : (n != n) = false := bne_self_eq_false n
                have b2 : (n != 0) = true := bne_iff_ne.2 hn0
                have HNE := Lib.hid hnn
                rw [hnn]
                clear hn0 hs0 hg0 hnn
                go_upto_region 16 with (fail)
                generalize (w1.setCell ⟨x7, 0, none⟩ (.slice none 0 0)).setCell ⟨x7, 1, none⟩ .nilFunc = w2 at *
                clear z0 z1 f0 f1
                obtain ⟨⟨y0, y1, y2⟩, hb1⟩ := HYA.out _ hCs
                obtain ⟨⟨p0, p1, p2⟩, hb2⟩ := HYL.out _ hCs
                have harr := HARR.out w2 _ _ hb2 hb1
                rw [HTE.out.1 HNN.out, HNE.out] at harr
                replace HC := Lib.hid hCs
                clear hCs
                go_wp2_with fail
                refine harr.mono ?_
                clear harr y0 y1 y2 hb1 p0 p1 p2 hb2
                rintro e9 w3 ⟨v3, rfl, ho3, hC3⟩
                obtain ⟨a3, c3, b3, d3, rfl, _, _⟩ := ara_new ho3
                replace hB8 := hB8.fr hC3
                obtain ⟨q0, q1, q2, k0, k1, k2⟩ := id hB8
                have hCs := chg_set3 (HC.out.tr hC3) (show w5.heap.size ≤ x7 + 1 by have := HX7.out; omega) (.int .i64 B.k) (.slice a3 B.s.length c3) (.slice b3 B.e.length d3)
                go_upto_region 23 with (fail)
                generalize ((w3.setCell ⟨x7 + 1, 0, none⟩ (.int .i64 B.k)).setCell ⟨x7 + 1, 1, none⟩ (.slice a3 B.s.length c3)).setCell ⟨x7 + 1, 2, none⟩ (.slice b3 B.e.length d3) = w4 at *
                clear q0 q1 q2 k0 k1 k2 hB8 hC3 ho3
                go_wp2
                go_roundw
                case rel => exact ⟨2, by decide, rfl, hCs⟩
                case measure => simp [intOf]
            · skip
              have HTE := Lib.hid (tell_one HKL.out HK.out (drW_ok (L := L) (s := A.s)) (fun x hx => drW_in HK.out hx))
              have HWAY := Lib.hid (fun (w' : World) (u0 u1 : Value) (h0 : Ara w' u0 L) (h : Ls w' u1 A.s) => dropway_any u0 u1 L A.s w' h0 h HSL.out.2.2.2.1)
              have HARR := Lib.hid (fun (w' : World) (u0 u1 : Value) (h0 : Ara w' u0 L) (h : Ara w' u1 A) => drop_any u0 u1 L A w' h0 h HSL.out.2.2.2.1 HSL.out.2.1)
              obtain ⟨B, hB⟩ : ∃ B, mgA (drW L A.s) L A = B := ⟨_, rfl⟩
              obtain ⟨m, hm⟩ : ∃ m, mgN (drW L A.s) L A = m := ⟨_, rfl⟩
              rw [hB, hm] at HARR HTE
              clear hB hm
              obtain ⟨Y, hY⟩ : ∃ Y, drW L A.s = Y := ⟨_, rfl⟩
              rw [hY] at HWAY HTE
              clear hY
              obtain ⟨x7, hx7⟩ : ∃ x, wr.heap.size = x := ⟨_, rfl⟩
              have hC0 := (hC.alloc (.cells #[.slice none 0 0, .nilFunc] 31)).alloc (.cells #[.int .i64 0, .slice none 0 0, .slice none 0 0] 25)
              have z0 := alloc_cell (new_cell wr #[.slice none 0 0, .nilFunc] 31 (i := 0) rfl) (.cells #[.int .i64 0, .slice none 0 0, .slice none 0 0] 25)
              have z1 := alloc_cell (new_cell wr #[.slice none 0 0, .nilFunc] 31 (i := 1) rfl) (.cells #[.int .i64 0, .slice none 0 0, .slice none 0 0] 25)
              have f0 := alloc_frozen (new_cell wr #[.slice none 0 0, .nilFunc] 31 (i := 0) rfl) (new_frozen wr #[.slice none 0 0, .nilFunc] 31 0) (.cells #[.int .i64 0, .slice none 0 0, .slice none 0 0] 25)
              have f1 := alloc_frozen (new_cell wr #[.slice none 0 0, .nilFunc] 31 (i := 1) rfl) (new_frozen wr #[.slice none 0 0, .nilFunc] 31 1) (.cells #[.int .i64 0, .slice none 0 0, .slice none 0 0] 25)
              have hB8 := Bx.new (wr.alloc (.cells #[.slice none 0 0, .nilFunc] 31)) (.int .i64 0) (.slice none 0 0) (.slice none 0 0) 25
              rw [World.size_alloc] at hB8
              rw [hx7] at z0 z1 f0 f1 hB8
              go_upto_region 10 with (fail)
              generalize (wr.alloc (.cells #[.slice none 0 0, .nilFunc] 31)).alloc (.cells #[.int .i64 0, .slice none 0 0, .slice none 0 0] 25) = w0 at *
              have hlt5 : w5.heap.size ≤ x7 := by rw [← hx7]; exact hC.size
              have HX7 := Lib.hid hlt5
              have hx8 := hB8.lt
              have HX8 := Lib.hid hx8
              clear hx7 hC hx8 hlt5
              obtain ⟨⟨y0, y1, y2⟩, hb1⟩ := HYA.out _ hC0
              obtain ⟨⟨p0, p1, p2⟩, hb2⟩ := HYL.out _ hC0
              have HC := Lib.hid hC0
              have hway := HWAY.out w0 _ _ hb2 (ara_s hb1)
              clear hC0
              go_wp2_with fail
              refine hway.mono ?_
              clear hway
              rintro e9 w1 ⟨v1, D1, rfl, hW1, hD1, hC1⟩
              replace f0 := hC1.frozen z0 f0 id
              replace f1 := hC1.frozen z1 f1 id
              replace z0 := hC1.cell z0 id
              replace z1 := hC1.cell z1 id
              replace hB8 := hB8.fr hC1
              replace HC := Lib.hid (HC.out.tr hC1)
              have hw10 := hC1.size
              have HW10 := Lib.hid hw10
              clear hC1 y0 y1 y2 hb1 p0 p1 p2 hb2 hw10
              have HWY := Lib.hid hW1
              have HD1 := Lib.hid hD1
              rcases hW1 with ⟨hn0, vs, gf, lb, rfl, hs1, hd1, eg, hf1⟩ | ⟨hn0, hs0, hg0, rfl⟩
              · obtain ⟨a1, c1, rfl, _⟩ := hs1.form
                obtain ⟨g0, g1⟩ := mset2 (.slice a1 Y.s.length c1) (.func (.func gf) #[] lb) z0 z1
                have hCs := (HC.out.setCell (p := ⟨x7, 0, none⟩) (.inr HX7.out) (.slice a1 Y.s.length c1)).setCell (p := ⟨x7, 1, none⟩) (.inr HX7.out) (.func (.func gf) #[] lb)
                have hO1 : OldC D1 w1 ((w1.setCell ⟨x7, 0, none⟩ (.slice a1 Y.s.length c1)).setCell ⟨x7, 1, none⟩ (.func (.func gf) #[] lb)) := ((Chg.refl _ w1).setCell (p := ⟨x7, 0, none⟩) (.inl (fun hd => (HD1.out _ hd).elim id (fun h => by have h9 : w0.heap.size ≤ x7 := h; have := HX8.out; omega))) _).setCell (p := ⟨x7, 1, none⟩) (.inl (fun hd => (HD1.out _ hd).elim id (fun h => by have h9 : w0.heap.size ≤ x7 := h; have := HX8.out; omega))) _
                replace hB8 := hB8.chg (((Chg.refl (fun k => k = x7) w1).setCell (p := ⟨x7, 0, none⟩) (.inl rfl) (.slice a1 Y.s.length c1)).setCell (p := ⟨x7, 1, none⟩) (.inl rfl) (.func (.func gf) #[] lb)) (by omega)
                have HNN := Lib.hid hn0
                clear hs1 hd1 hf1 hD1
                rw [hn0]
                clear hn0
                go_upto_region 19 with (fail)
                generalize (w1.setCell ⟨x7, 0, none⟩ (.slice a1 Y.s.length c1)).setCell ⟨x7, 1, none⟩ (.func (.func gf) #[] lb) = w2 at *
                clear z0 z1 f0 f1
                obtain ⟨⟨y0, y1, y2⟩, hb1⟩ := HYA.out _ hCs
                obtain ⟨⟨p0, p1, p2⟩, hb2⟩ := HYL.out _ hCs
                have harr := HARR.out w2 _ _ hb2 hb1
                rw [(HTE.out.2 HNN.out).1] at harr
                replace HC := Lib.hid hCs
                have HO1 := Lib.hid hO1
                have HDO := Lib.hid (HTE.out.2 HNN.out).2
                clear hCs hO1
                go_wp2_with fail
                refine harr.mono ?_
                clear harr y0 y1 y2 hb1 p0 p1 p2 hb2
                rintro e9 w3 ⟨v3, rfl, ho3, hC3⟩
                obtain ⟨a3, c3, b3, d3, rfl, _, _⟩ := ara_new ho3
                replace g0 := hC3.cell g0 id
                replace g1 := hC3.cell g1 id
                replace hB8 := hB8.fr hC3
                obtain ⟨q0, q1, q2, k0, k1, k2⟩ := id hB8
                have hbB := BoxA.set (A := B) hB8 ho3 (by have := HX8.out; have := HW10.out; have h9 := HO1.out.size; show x7 + 1 < w2.heap.size; omega)
                have hCs := chg_set3 (HC.out.tr hC3) (show w5.heap.size ≤ x7 + 1 by have := HX7.out; omega) (.int .i64 B.k) (.slice a3 B.s.length c3) (.slice b3 B.e.length d3)
                have hnd : ¬ D1 (x7 + 1) := fun hd => (HD1.out _ hd).elim id (fun h => by have := HX8.out; omega)
                have hO3 : OldC D1 w1 (((w3.setCell ⟨x7 + 1, 0, none⟩ (.int .i64 B.k)).setCell ⟨x7 + 1, 1, none⟩ (.slice a3 B.s.length c3)).setCell ⟨x7 + 1, 2, none⟩ (.slice b3 B.e.length d3)) := (((HO1.out.trans (OldC.of hC3)).setCell (p := ⟨x7 + 1, 0, none⟩) (.inl hnd) _).setCell (p := ⟨x7 + 1, 1, none⟩) (.inl hnd) _).setCell (p := ⟨x7 + 1, 2, none⟩) (.inl hnd) _
                have hC8 := (((Chg.refl (fun k => k = x7 + 1) w3).setCell (p := ⟨x7 + 1, 0, none⟩) (.inl rfl) (.int .i64 B.k)).setCell (p := ⟨x7 + 1, 1, none⟩) (.inl rfl) (.slice a3 B.s.length c3)).setCell (p := ⟨x7 + 1, 2, none⟩) (.inl rfl) (.slice b3 B.e.length d3)
                have g0' := hC8.cell g0 (show ¬ x7 = x7 + 1 by omega)
                have g1' := hC8.cell g1 (show ¬ x7 = x7 + 1 by omega)
                go_upto_region 23 with (fail)
                generalize ((w3.setCell ⟨x7 + 1, 0, none⟩ (.int .i64 B.k)).setCell ⟨x7 + 1, 1, none⟩ (.slice a3 B.s.length c3)).setCell ⟨x7 + 1, 2, none⟩ (.slice b3 B.e.length d3) = w4 at *
                clear q0 q1 q2 k0 k1 k2 g0 g1 hB8 hC3 ho3 hnd hC8
                have hWe : Y = ⟨Y.s, Y.g, 0⟩ := by
                  have h := HNN.out
                  rcases Y with ⟨s, g, n⟩
                  simp only at h
                  subst h
                  rfl
                have hCn := (Chg.refl (fun _ => False) w4).alloc (.cells #[.int .i64 A.k, .slice sa A.s.length cs, .slice sb A.e.length cb, .int .i64 A.k, .slice sa A.s.length cs, .slice sb A.e.length cb] 25)
                obtain ⟨⟨y0, y1, y2⟩, hb1⟩ := HYA.out _ hCs
                have hgo := mgo_any _ (.slice (some ⟨w4.heap.size, 0, none⟩) 2 2) A.k Y.s Y.g D1 [A, A] _ (show WayAt _ D1 _ ⟨Y.s, Y.g, 0⟩ by rw [← hWe]; exact HWY.out.old (hO3.trans (OldC.of hCn))) HDO.out.1.1 HDO.out.1.2 (two_lit hb1) (two_len HSL.out.2.1)
                rw [HDO.out.2.1.1, HDO.out.2.1.2] at hgo
                replace HC := Lib.hid (hCs.tr hCn)
                replace hbB := hbB.fr hCn
                clear hWe hCs hO3
                go_wp2_with fail
                refine hgo.mono ?_
                clear hgo y0 y1 y2 hb1 g0' g1'
                rintro e9 w6 ⟨v6, rfl, ho6, hC6⟩
                obtain ⟨a9, c9, b9, d9, rfl, _, _⟩ := ara_new ho6
                have hbC := BoxA.new (A := B) 25 ho6.ara
                have hC7 := hC6.alloc (.cells #[.int .i64 B.k, .slice a9 B.s.length c9, .slice b9 B.e.length d9] 25)
                replace HC := Lib.hid (HC.out.tr hC7)
                replace hbB := hbB.fr hC7
                obtain ⟨x11, hx11⟩ : ∃ x, w6.heap.size = x := ⟨_, rfl⟩
                rw [hx11] at hbC
                clear hC6 hC7 ho6 hCn
                obtain ⟨sa3, cs3, sb3, cb3, ⟨q0, q1, q2⟩, hb3⟩ := id hbC
                obtain ⟨sa4, cs4, sb4, cb4, ⟨r0, r1, r2⟩, hb4⟩ := id hbB
                have h1 := isC _ _ B _ hb3 hb4 HDO.out.2.2
                go_wp2_with fail
                clear hx11
                refine h1.mono ?_
                clear h1 q0 q1 q2 hb3 r0 r1 r2 hb4 hbC hbB
                rintro e9 z7 ⟨rfl, hC9⟩
                replace HC := Lib.hid (HC.out.tr hC9)
                clear hC9
                go_wp2
                go_roundw
                case rel => exact ⟨3, by decide, rfl, HC.out⟩
                case measure => simp [intOf]
              · obtain ⟨g0, g1⟩ := mset2 (.slice none 0 0) .nilFunc z0 z1
                have hCs := (HC.out.setCell (p := ⟨x7, 0, none⟩) (.inr HX7.out) (.slice none 0 0)).setCell (p := ⟨x7, 1, none⟩) (.inr HX7.out) .nilFunc
                replace hB8 := hB8.chg (((Chg.refl (fun k => k = x7) w1).setCell (p := ⟨x7, 0, none⟩) (.inl rfl) (.slice none 0 0)).setCell (p := ⟨x7, 1, none⟩) (.inl rfl) .nilFunc) (by omega)
                have HNN := Lib.hid hn0
                clear hD1 g0 g1
                obtain ⟨n, hnn⟩ : ∃ n, Y.n = n := ⟨_, rfl⟩
                rw [hnn] at hn0
                have b1 : (n != n) = false := bne_self_eq_false n
                have b2 : (n != 0) = true := bne_iff_ne.2 hn0
                have HNE := Lib.hid hnn
                rw [hnn]
                clear hn0 hs0 hg0 hnn
                go_upto_region 19 with (fail)
                generalize (w1.setCell ⟨x7, 0, none⟩ (.slice none 0 0)).setCell ⟨x7, 1, none⟩ .nilFunc = w2 at *
                clear z0 z1 f0 f1
                obtain ⟨⟨y0, y1, y2⟩, hb1⟩ := HYA.out _ hCs
                obtain ⟨⟨p0, p1, p2⟩, hb2⟩ := HYL.out _ hCs
                have harr := HARR.out w2 _ _ hb2 hb1
                rw [HTE.out.1 HNN.out, HNE.out] at harr
                replace HC := Lib.hid hCs
                clear hCs
                go_wp2_with fail
                refine harr.mono ?_
                clear harr y0 y1 y2 hb1 p0 p1 p2 hb2
                rintro e9 w3 ⟨v3, rfl, ho3, hC3⟩
                obtain ⟨a3, c3, b3, d3, rfl, _, _⟩ := ara_new ho3
                replace hB8 := hB8.fr hC3
                obtain ⟨q0, q1, q2, k0, k1, k2⟩ := id hB8
                have hCs := chg_set3 (HC.out.tr hC3) (show w5.heap.size ≤ x7 + 1 by have := HX7.out; omega) (.int .i64 B.k) (.slice a3 B.s.length c3) (.slice b3 B.e.length d3)
                go_upto_region 23 with (fail)
                generalize ((w3.setCell ⟨x7 + 1, 0, none⟩ (.int .i64 B.k)).setCell ⟨x7 + 1, 1, none⟩ (.slice a3 B.s.length c3)).setCell ⟨x7 + 1, 2, none⟩ (.slice b3 B.e.length d3) = w4 at *
                clear q0 q1 q2 k0 k1 k2 hB8 hC3 ho3
                go_wp2
                go_roundw
                case rel => exact ⟨3, by decide, rfl, hCs⟩
                case measure => simp [intOf]
            · skip
              have HTE := Lib.hid (tell_cat HK.out)
              have HWAY := Lib.hid (fun (w' : World) (u0 u1 : Value) (_ : Ara w' u0 L) (h : Ls w' u1 A.s) => catway_any u1 u1 A.s A.s w' h h)
              have HARR := Lib.hid (fun (w' : World) (u0 u1 : Value) (_ : Ara w' u0 L) (h : Ara w' u1 A) => cat_any u1 u1 A A w' h h HSL.out.2.1 HSL.out.2.1)
              obtain ⟨B, hB⟩ : ∃ B, catA A A = B := ⟨_, rfl⟩
              obtain ⟨m, hm⟩ : ∃ m, catE A A = m := ⟨_, rfl⟩
              rw [hB, hm] at HARR HTE
              clear hB hm
              obtain ⟨Y, hY⟩ : ∃ Y, catW A.s A.s = Y := ⟨_, rfl⟩
              rw [hY] at HWAY HTE
              clear hY
              obtain ⟨x7, hx7⟩ : ∃ x, wr.heap.size = x := ⟨_, rfl⟩
              have hC0 := (hC.alloc (.cells #[.slice none 0 0, .nilFunc] 31)).alloc (.cells #[.int .i64 0, .slice none 0 0, .slice none 0 0] 25)
              have z0 := alloc_cell (new_cell wr #[.slice none 0 0, .nilFunc] 31 (i := 0) rfl) (.cells #[.int .i64 0, .slice none 0 0, .slice none 0 0] 25)
              have z1 := alloc_cell (new_cell wr #[.slice none 0 0, .nilFunc] 31 (i := 1) rfl) (.cells #[.int .i64 0, .slice none 0 0, .slice none 0 0] 25)
              have f0 := alloc_frozen (new_cell wr #[.slice none 0 0, .nilFunc] 31 (i := 0) rfl) (new_frozen wr #[.slice none 0 0, .nilFunc] 31 0) (.cells #[.int .i64 0, .slice none 0 0, .slice none 0 0] 25)
              have f1 := alloc_frozen (new_cell wr #[.slice none 0 0, .nilFunc] 31 (i := 1) rfl) (new_frozen wr #[.slice none 0 0, .nilFunc] 31 1) (.cells #[.int .i64 0, .slice none 0 0, .slice none 0 0] 25)
              have hB8 := Bx.new (wr.alloc (.cells #[.slice none 0 0, .nilFunc] 31)) (.int .i64 0) (.slice none 0 0) (.slice none 0 0) 25
              rw [World.size_alloc] at hB8
              rw [hx7] at z0 z1 f0 f1 hB8
              go_upto_region 10 with (fail)
              generalize (wr.alloc (.cells #[.slice none 0 0, .nilFunc] 31)).alloc (.cells #[.int .i64 0, .slice none 0 0, .slice none 0 0] 25) = w0 at *
              have hlt5 : w5.heap.size ≤ x7 := by rw [← hx7]; exact hC.size
              have HX7 := Lib.hid hlt5
              have hx8 := hB8.lt
              have HX8 := Lib.hid hx8
              clear hx7 hC hx8 hlt5
              obtain ⟨⟨y0, y1, y2⟩, hb1⟩ := HYA.out _ hC0
              obtain ⟨⟨p0, p1, p2⟩, hb2⟩ := HYL.out _ hC0
              have HC := Lib.hid hC0
              have hway := HWAY.out w0 _ _ hb2 (ara_s hb1)
              clear hC0
              go_wp2_with fail
              refine hway.mono ?_
              clear hway
              rintro e9 w1 ⟨v1, D1, rfl, hW1, hD1, hC1⟩
              replace f0 := hC1.frozen z0 f0 id
              replace f1 := hC1.frozen z1 f1 id
              replace z0 := hC1.cell z0 id
              replace z1 := hC1.cell z1 id
              replace hB8 := hB8.fr hC1
              replace HC := Lib.hid (HC.out.tr hC1)
              have hw10 := hC1.size
              have HW10 := Lib.hid hw10
              clear hC1 y0 y1 y2 hb1 p0 p1 p2 hb2 hw10
              have HWY := Lib.hid hW1
              have HD1 := Lib.hid hD1
              rcases hW1 with ⟨hn0, vs, gf, lb, rfl, hs1, hd1, eg, hf1⟩ | ⟨hn0, hs0, hg0, rfl⟩
              · obtain ⟨a1, c1, rfl, _⟩ := hs1.form
                obtain ⟨g0, g1⟩ := mset2 (.slice a1 Y.s.length c1) (.func (.func gf) #[] lb) z0 z1
                have hCs := (HC.out.setCell (p := ⟨x7, 0, none⟩) (.inr HX7.out) (.slice a1 Y.s.length c1)).setCell (p := ⟨x7, 1, none⟩) (.inr HX7.out) (.func (.func gf) #[] lb)
                have hO1 : OldC D1 w1 ((w1.setCell ⟨x7, 0, none⟩ (.slice a1 Y.s.length c1)).setCell ⟨x7, 1, none⟩ (.func (.func gf) #[] lb)) := ((Chg.refl _ w1).setCell (p := ⟨x7, 0, none⟩) (.inl (fun hd => (HD1.out _ hd).elim id (fun h => by have h9 : w0.heap.size ≤ x7 := h; have := HX8.out; omega))) _).setCell (p := ⟨x7, 1, none⟩) (.inl (fun hd => (HD1.out _ hd).elim id (fun h => by have h9 : w0.heap.size ≤ x7 := h; have := HX8.out; omega))) _
                replace hB8 := hB8.chg (((Chg.refl (fun k => k = x7) w1).setCell (p := ⟨x7, 0, none⟩) (.inl rfl) (.slice a1 Y.s.length c1)).setCell (p := ⟨x7, 1, none⟩) (.inl rfl) (.func (.func gf) #[] lb)) (by omega)
                have HNN := Lib.hid hn0
                clear hs1 hd1 hf1 hD1
                rw [hn0]
                clear hn0
                go_upto_region 22 with (fail)
                generalize (w1.setCell ⟨x7, 0, none⟩ (.slice a1 Y.s.length c1)).setCell ⟨x7, 1, none⟩ (.func (.func gf) #[] lb) = w2 at *
                clear z0 z1 f0 f1
                obtain ⟨⟨y0, y1, y2⟩, hb1⟩ := HYA.out _ hCs
                obtain ⟨⟨p0, p1, p2⟩, hb2⟩ := HYL.out _ hCs
                have harr := HARR.out w2 _ _ hb2 hb1
                rw [(HTE.out.2 HNN.out).1] at harr
                replace HC := Lib.hid hCs
                have HO1 := Lib.hid hO1
                have HDO := Lib.hid (HTE.out.2 HNN.out).2
                clear hCs hO1
                go_wp2_with fail
                refine harr.mono ?_
                clear harr y0 y1 y2 hb1 p0 p1 p2 hb2
                rintro e9 w3 ⟨v3, rfl, ho3, hC3⟩
                obtain ⟨a3, c3, b3, d3, rfl, _, _⟩ := ara_new ho3
                replace g0 := hC3.cell g0 id
                replace g1 := hC3.cell g1 id
                replace hB8 := hB8.fr hC3
                obtain ⟨q0, q1, q2, k0, k1, k2⟩ := id hB8
                have hbB := BoxA.set (A := B) hB8 ho3 (by have := HX8.out; have := HW10.out; have h9 := HO1.out.size; show x7 + 1 < w2.heap.size; omega)
                have hCs := chg_set3 (HC.out.tr hC3) (show w5.heap.size ≤ x7 + 1 by have := HX7.out; omega) (.int .i64 B.k) (.slice a3 B.s.length c3) (.slice b3 B.e.length d3)
                have hnd : ¬ D1 (x7 + 1) := fun hd => (HD1.out _ hd).elim id (fun h => by have := HX8.out; omega)
                have hO3 : OldC D1 w1 (((w3.setCell ⟨x7 + 1, 0, none⟩ (.int .i64 B.k)).setCell ⟨x7 + 1, 1, none⟩ (.slice a3 B.s.length c3)).setCell ⟨x7 + 1, 2, none⟩ (.slice b3 B.e.length d3)) := (((HO1.out.trans (OldC.of hC3)).setCell (p := ⟨x7 + 1, 0, none⟩) (.inl hnd) _).setCell (p := ⟨x7 + 1, 1, none⟩) (.inl hnd) _).setCell (p := ⟨x7 + 1, 2, none⟩) (.inl hnd) _
                have hC8 := (((Chg.refl (fun k => k = x7 + 1) w3).setCell (p := ⟨x7 + 1, 0, none⟩) (.inl rfl) (.int .i64 B.k)).setCell (p := ⟨x7 + 1, 1, none⟩) (.inl rfl) (.slice a3 B.s.length c3)).setCell (p := ⟨x7 + 1, 2, none⟩) (.inl rfl) (.slice b3 B.e.length d3)
                have g0' := hC8.cell g0 (show ¬ x7 = x7 + 1 by omega)
                have g1' := hC8.cell g1 (show ¬ x7 = x7 + 1 by omega)
                go_upto_region 23 with (fail)
                generalize ((w3.setCell ⟨x7 + 1, 0, none⟩ (.int .i64 B.k)).setCell ⟨x7 + 1, 1, none⟩ (.slice a3 B.s.length c3)).setCell ⟨x7 + 1, 2, none⟩ (.slice b3 B.e.length d3) = w4 at *
                clear q0 q1 q2 k0 k1 k2 g0 g1 hB8 hC3 ho3 hnd hC8
                have hWe : Y = ⟨Y.s, Y.g, 0⟩ := by
                  have h := HNN.out
                  rcases Y with ⟨s, g, n⟩
                  simp only at h
                  subst h
                  rfl
                have hCn := (Chg.refl (fun _ => False) w4).alloc (.cells #[.int .i64 A.k, .slice sa A.s.length cs, .slice sb A.e.length cb, .int .i64 A.k, .slice sa A.s.length cs, .slice sb A.e.length cb] 25)
                obtain ⟨⟨y0, y1, y2⟩, hb1⟩ := HYA.out _ hCs
                have hgo := mgo_any _ (.slice (some ⟨w4.heap.size, 0, none⟩) 2 2) A.k Y.s Y.g D1 [A, A] _ (show WayAt _ D1 _ ⟨Y.s, Y.g, 0⟩ by rw [← hWe]; exact HWY.out.old (hO3.trans (OldC.of hCn))) HDO.out.1.1 HDO.out.1.2 (two_lit hb1) (two_len HSL.out.2.1)
                rw [HDO.out.2.1.1, HDO.out.2.1.2] at hgo
                replace HC := Lib.hid (hCs.tr hCn)
                replace hbB := hbB.fr hCn
                clear hWe hCs hO3
                go_wp2_with fail
                refine hgo.mono ?_
                clear hgo y0 y1 y2 hb1 g0' g1'
                rintro e9 w6 ⟨v6, rfl, ho6, hC6⟩
                obtain ⟨a9, c9, b9, d9, rfl, _, _⟩ := ara_new ho6
                have hbC := BoxA.new (A := B) 25 ho6.ara
                have hC7 := hC6.alloc (.cells #[.int .i64 B.k, .slice a9 B.s.length c9, .slice b9 B.e.length d9] 25)
                replace HC := Lib.hid (HC.out.tr hC7)
                replace hbB := hbB.fr hC7
                obtain ⟨x11, hx11⟩ : ∃ x, w6.heap.size = x := ⟨_, rfl⟩
                rw [hx11] at hbC
                clear hC6 hC7 ho6 hCn
                obtain ⟨sa3, cs3, sb3, cb3, ⟨q0, q1, q2⟩, hb3⟩ := id hbC
                obtain ⟨sa4, cs4, sb4, cb4, ⟨r0, r1, r2⟩, hb4⟩ := id hbB
                have h1 := isC _ _ B _ hb3 hb4 HDO.out.2.2
                go_wp2_with fail
                clear hx11
                refine h1.mono ?_
                clear h1 q0 q1 q2 hb3 r0 r1 r2 hb4 hbC hbB
                rintro e9 z7 ⟨rfl, hC9⟩
                replace HC := Lib.hid (HC.out.tr hC9)
                clear hC9
                go_wp2
                go_roundw
                case rel => exact ⟨4, by decide, rfl, HC.out⟩
                case measure => simp [intOf]
              · obtain ⟨g0, g1⟩ := mset2 (.slice none 0 0) .nilFunc z0 z1
                have hCs := (HC.out.setCell (p := ⟨x7, 0, none⟩) (.inr HX7.out) (.slice none 0 0)).setCell (p := ⟨x7, 1, none⟩) (.inr HX7.out) .nilFunc
                replace hB8 := hB8.chg (((Chg.refl (fun k => k = x7) w1).setCell (p := ⟨x7, 0, none⟩) (.inl rfl) (.slice none 0 0)).setCell (p := ⟨x7, 1, none⟩) (.inl rfl) .nilFunc) (by omega)
                have HNN := Lib.hid hn0
                clear hD1 g0 g1
                obtain ⟨n, hnn⟩ : ∃ n, Y.n = n := ⟨_, rfl⟩
                rw [hnn] at hn0
                have b1 : (n != n) = false := bne_self_eq_false n
                have b2 : (n != 0) = true := bne_iff_ne.2 hn0
                have HNE := Lib.hid hnn
                rw [hnn]
                clear hn0 hs0 hg0 hnn
                go_upto_region 22 with (fail)
                generalize (w1.setCell ⟨x7, 0, none⟩ (.slice none 0 0)).setCell ⟨x7, 1, none⟩ .nilFunc = w2 at *
                clear z0 z1 f0 f1
                obtain ⟨⟨y0, y1, y2⟩, hb1⟩ := HYA.out _ hCs
                obtain ⟨⟨p0, p1, p2⟩, hb2⟩ := HYL.out _ hCs
                have harr := HARR.out w2 _ _ hb2 hb1
                rw [HTE.out.1 HNN.out, HNE.out] at harr
                replace HC := Lib.hid hCs
                clear hCs
                go_wp2_with fail
                refine harr.mono ?_
                clear harr y0 y1 y2 hb1 p0 p1 p2 hb2
                rintro e9 w3 ⟨v3, rfl, ho3, hC3⟩
                obtain ⟨a3, c3, b3, d3, rfl, _, _⟩ := ara_new ho3
                replace hB8 := hB8.fr hC3
                obtain ⟨q0, q1, q2, k0, k1, k2⟩ := id hB8
                have hCs := chg_set3 (HC.out.tr hC3) (show w5.heap.size ≤ x7 + 1 by have := HX7.out; omega) (.int .i64 B.k) (.slice a3 B.s.length c3) (.slice b3 B.e.length d3)
                go_upto_region 23 with (fail)
                generalize ((w3.setCell ⟨x7 + 1, 0, none⟩ (.int .i64 B.k)).setCell ⟨x7 + 1, 1, none⟩ (.slice a3 B.s.length c3)).setCell ⟨x7 + 1, 2, none⟩ (.slice b3 B.e.length d3) = w4 at *
                clear q0 q1 q2 k0 k1 k2 hB8 hC3 ho3
                go_wp2
                go_roundw
                case rel => exact ⟨4, by decide, rfl, hCs⟩
                case measure => simp [intOf]
          · obtain rfl : j = 4 := by omega
            go_wp2
            go_ret
            exact ⟨rfl, HCO.out.tr hC⟩
end Go.Proofs.Ytceooipljhjpaaa
