/- MoldWays. -/
import Derived.Test.YtceooipljhjpaaaMeM
import Derived.Test.YtceooipljhjpaaaMeN
import Derived.Test.YtceooipljhjpaaaMeK
import Derived.Test.YtceooipljhjpaaaMdQ
import Derived.Test.YtceooipljhjpaaaArO
namespace Go.Proofs.Ytceooipljhjpaaa
open Go.RowKit Go.Shelf

theorem mwlen {w : World} {D : Nat → Prop} {v : Value} {W : Wy} (hg : W.n = 0 → shB W.s = true ∧ (W.g.length : Int) = prodL W.s) (h : WayAt w D v W) : W.s.length ≤ 1000000 ∧ W.g.length ≤ 1000000 := by
  rcases h with ⟨h0, _⟩ | ⟨_, h1, h2, _⟩
  · obtain ⟨a, b⟩ := hg h0
    have c := shB_iff.1 a
    omega
  · rw [h1, h2]
    simp
/-- The blocks that are written over. -/
def Zb (v1 v2 v3 v4 : Value) (q : Nat) : Prop := v1.ownBlock = some q ∨ v2.ownBlock = some q ∨ v3.ownBlock = some q ∨ v4.ownBlock = some q
set_option maxRecDepth 100000 in
set_option maxHeartbeats 10000000 in
theorem moldWays_walk (vl : Value) (L : Ar) (v : Value) (a : List Int) (u : Value) (b : List Int) (W : World) (hl : OkArr W vl L) (h : Okshape W v a) (hb : Okshape W u b) : Calls Try.prog 3 #[vl, v, u] W (True_ W) := by
  have hL := hl.1
  have hS := h.1
  have hS2 := hb.1
  clear h hl hb
  obtain ⟨vp, vf, hu, hp, hf⟩ := id hL
  subst hu
  obtain ⟨pa, cp, rfl, _⟩ := hp.form
  obtain ⟨fa, cf, rfl, _⟩ := hf.form
  obtain ⟨ao, c, rfl, _⟩ := hS.form
  obtain ⟨bo, c', rfl, _⟩ := hS2.form
  obtain ⟨l0, l1, l2⟩ := cell_two W (.int .i64 L.k) (.slice pa L.s.length cp) (.slice fa L.e.length cf) 25
  have HLO := Lib.hid (show ∀ w', Chg (fun _ => False) W w' → Ara w' (.agg #[.int .i64 L.k, .slice pa L.s.length cp, .slice fa L.e.length cf]) L from fun w' h => hL.fr h)
  have HC := Lib.hid ((Chg.refl (fun _ => False) W).alloc (.cells #[.int .i64 L.k, .slice pa L.s.length cp, .slice fa L.e.length cf] 25))
  have HSA := Lib.hid (show ∀ w', Chg (fun _ => False) W w' → Ls w' (.slice ao a.length c) a from fun w' h => hS.fr h)
  have HSB := Lib.hid (show ∀ w', Chg (fun _ => False) W w' → Ls w' (.slice bo b.length c') b from fun w' h => hS2.fr h)
  have hb2 := HLO.out _ HC.out
  have hgr := great_any _ _ L L _ hb2 hb2
  clear hp hf hL hS hS2
  cases hg : grtB L L with
  | true =>
    rw [hg] at hgr
    clear hg
    go_enter Try.func3, Try.ntmps3
    go_wp2_with fail
    refine hgr.mono ?_
    clear hgr
    rintro e9 w2 ⟨rfl, hC2⟩
    go_wp2
    go_ret
    exact ⟨rfl, HC.out.tr hC2⟩
  | false =>
    rw [hg] at hgr
    obtain ⟨⟨gl1, gl2⟩, _⟩ := grtB_not hg
    clear hg
    by_cases h100 : 100 < a.length
    · have d1 : decide ((100 : Int) < (a.length : Int)) = true := decide_eq_true (by omega)
      clear h100
      go_enter Try.func3, Try.ntmps3
      go_wp2_with fail
      refine hgr.mono ?_
      clear hgr
      rintro e9 w2 ⟨rfl, hC2⟩
      go_wp2
      go_ret
      exact ⟨rfl, HC.out.tr hC2⟩
    · have d1 : decide ((100 : Int) < (a.length : Int)) = false := decide_eq_false (by omega)
      have hal : a.length ≤ 1000000 := by omega
      clear h100
      by_cases h100 : 100 < b.length
      · have d2 : decide ((100 : Int) < (b.length : Int)) = true := decide_eq_true (by omega)
        clear h100
        go_enter Try.func3, Try.ntmps3
        go_wp2_with fail
        refine hgr.mono ?_
        clear hgr
        rintro e9 w2 ⟨rfl, hC2⟩
        go_wp2
        go_ret
        exact ⟨rfl, HC.out.tr hC2⟩
      · have d2 : decide ((100 : Int) < (b.length : Int)) = false := decide_eq_false (by omega)
        have hbl : b.length ≤ 1000000 := by omega
        clear h100
        go_enter Try.func3, Try.ntmps3
        go_wp2_with fail
        refine hgr.mono ?_
        clear hgr hb2
        rintro e9 w2 ⟨rfl, hC2⟩
        replace l0 := hC2.cell l0 id
        replace l1 := hC2.cell l1 id
        replace l2 := hC2.cell l2 id
        replace HC := Lib.hid (HC.out.tr hC2)
        clear hC2
        obtain ⟨x2, hx2⟩ : ∃ x2, W.heap.size = x2 := ⟨_, rfl⟩
        rw [hx2] at l0 l1 l2
        have hxl : x2 < w2.heap.size := cell_lt l0
        have hb2 := HLO.out _ HC.out
        have htw := twin_any _ L _ hb2 (by omega) (by omega)
        go_wp2_with fail
        refine htw.mono ?_
        clear htw hb2 d1 d2
        rintro e9 w20 ⟨v20, rfl, ho20, hC20⟩
        obtain ⟨oa, oc, ob, od, rfl, hq1, hq2⟩ := ara_new ho20
        have hin := r11ints_any _ a w20 (HSA.out _ (HC.out.tr hC20)) hal
        go_wp2_with fail
        refine hin.mono ?_
        clear hin
        rintro e9 w21 ⟨v21, rfl, ho21, hC21⟩
        obtain ⟨na, nc, rfl⟩ := own_name ho21
        have hin := r11ints_any _ b w21 (HSB.out _ ((HC.out.tr hC20).tr hC21)) hbl
        go_wp2_with fail
        refine hin.mono ?_
        clear hin
        rintro e9 w22 ⟨v22, rfl, ho22, hC22⟩
        obtain ⟨nb, nd, rfl⟩ := own_name ho22
        have hCA := (Chg.refl (fun _ => False) w22).alloc (.cells #[.int .i64 L.k, .slice oa L.s.length oc, .slice ob L.e.length od] 25)
        obtain ⟨y0, y1, y2⟩ := cell_two w22 (.int .i64 L.k) (.slice oa L.s.length oc) (.slice ob L.e.length od) 25
        have hCB := hC21.tr hC22
        have HAO := Lib.hid ((ho20.ara.fr hCB).fr hCA)
        have HQ1 := Lib.hid ((hq1.fr hCB).fr hCA)
        have HQ2 := Lib.hid ((hq2.fr hCB).fr hCA)
        have HOS := Lib.hid ((ho21.fr hC22).fr hCA)
        have HOT := Lib.hid (ho22.fr hCA)
        have HZ := Lib.hid (show ∀ q, Zb (.slice oa L.s.length oc) (.slice ob L.e.length od) (.slice na a.length nc) (.slice nb b.length nd) q → x2 < q ∧ q < w22.heap.size from fun q hq => by
          have a1 := hxl
          have a2 := hC20.size
          have a3 := hC21.size
          have a4 := hC22.size
          rcases hq with h | h | h | h
          · have := hq1.lt q h; omega
          · have := hq2.lt q h; omega
          · have := ho21.lt q h; omega
          · have := ho22.lt q h; omega)
        have HZ2 := Lib.hid (show (∀ q, (Value.slice na a.length nc).ownBlock = some q → ¬ ((Value.slice oa L.s.length oc).ownBlock = some q ∨ (Value.slice ob L.e.length od).ownBlock = some q)) ∧ ∀ q, (Value.slice nb b.length nd).ownBlock = some q → ¬ ((Value.slice oa L.s.length oc).ownBlock = some q ∨ (Value.slice ob L.e.length od).ownBlock = some q) from ⟨fun q hq h => by
          have := (ho21.lt q hq).1
          rcases h with h | h
          · have := (hq1.lt q h).2; omega
          · have := (hq2.lt q h).2; omega, fun q hq h => by
          have := (ho22.lt q hq).1
          have := hC21.size
          rcases h with h | h
          · have := (hq1.lt q h).2; omega
          · have := (hq2.lt q h).2; omega⟩)
        replace l0 := ((hC20.tr hCB).tr hCA).cell l0 id
        replace l1 := ((hC20.tr hCB).tr hCA).cell l1 id
        replace l2 := ((hC20.tr hCB).tr hCA).cell l2 id
        replace HC := Lib.hid (((HC.out.tr hC20).tr hCB).tr hCA)
        obtain ⟨x5, hx5⟩ : ∃ x5, w22.heap.size = x5 := ⟨_, rfl⟩
        rw [hx5] at y0 y1 y2 HZ
        have HZX := Lib.hid (show ∀ q, Zb (.slice oa L.s.length oc) (.slice ob L.e.length od) (.slice na a.length nc) (.slice nb b.length nd) q → W.heap.size ≤ q ∧ x2 < q ∧ q < x5 from fun q hq => ⟨by have := (HZ.out q hq).1; omega, (HZ.out q hq).1, (HZ.out q hq).2⟩)
        clear ho20 hC20 ho21 hC21 ho22 hC22 hq1 hq2 hCA hCB HZ hxl
        go_upto_region 4 with (fail)
        clear hx5 hx2
        generalize w22.alloc (.cells #[.int .i64 L.k, .slice oa L.s.length oc, .slice ob L.e.length od] 25) = w3 at *
        have HX5 := Lib.hid (show x5 < w3.heap.size from cell_lt y0)
        have HSZ := Lib.hid (Nat.le_refl w3.heap.size)
        have HLB := Lib.hid (show L.s.length ≤ 1000000 ∧ L.e.length ≤ 1000000 by omega)
        have R1 := Lib.hid (show ∀ w' z u, Ara w' z L → Ls w' u a → Calls Try.prog 14 #[z, u] w' (GaveW w' (rsW L a)) from fun w' z u h0 h => reshway_any z u L a w' h0 h HLB.out.2)
        have R2 := Lib.hid (show ∀ w' z u, Ara w' z L → Ls w' u a → Calls Try.prog 15 #[z, u] w' (GaveW w' (tkW L a)) from fun w' z u h0 h => takeway_any z u L a w' h0 h HLB.out.2)
        have R3 := Lib.hid (show ∀ w' z u, Ara w' z L → Ls w' u a → Calls Try.prog 16 #[z, u] w' (GaveW w' (drW L a)) from fun w' z u h0 h => dropway_any z u L a w' h0 h HLB.out.2)
        have R4 := Lib.hid (show ∀ w' z u, Ls w' z a → Ls w' u b → Calls Try.prog 17 #[z, u] w' (GaveW w' (catW a b)) from fun w' z u h0 h => catway_any z u a b w' h0 h)
        have Q1 := Lib.hid (show ∀ w' z u, Ara w' z L → Ls w' u a → Calls Try.prog 19 #[z, u] w' (GaveG w' (rsW L a)) from fun w' z u h0 h => (r13resh_any z u L a w' h0 h HLB.out.2).mono fun _ _ h => h.gave)
        have Q2 := Lib.hid (show ∀ w' z u, Ara w' z L → Ls w' u a → Calls Try.prog 20 #[z, u] w' (GaveG w' (tkW L a)) from fun w' z u h0 h => (r13take_any z u L a w' h0 h HLB.out.2).mono fun _ _ h => h.gave)
        have Q3 := Lib.hid (show ∀ w' z u, Ara w' z L → Ls w' u a → Calls Try.prog 21 #[z, u] w' (GaveG w' (drW L a)) from fun w' z u h0 h => (r13drop_any z u L a w' h0 h HLB.out.2).mono fun _ _ h => h.gave)
        have Q4 := Lib.hid (show ∀ w' z u, Ls w' z a → Ls w' u b → Calls Try.prog 22 #[z, u] w' (GaveG w' (catW a b)) from fun w' z u h0 h => (r13cat_any z u a b w' h0 h).mono fun _ _ h => h.gave)
        have G1 := Lib.hid (rsW_ok (L := L) (s := a))
        have G2 := Lib.hid (tkW_ok (L := L) (s := a))
        have G3 := Lib.hid (drW_ok (L := L) (s := a))
        have G4 := Lib.hid (catW_ok (a := a) (b := b))
        generalize rsW L a = Y1 at *
        generalize tkW L a = Y2 at *
        generalize drW L a = Y3 at *
        generalize catW a b = Y4 at *
        clear gl1 gl2
        have hway := R1.out _ _ _ HAO.out HOS.out.ls
        go_wp2_with fail
        refine hway.mono ?_
        clear hway
        rintro e9 w40 ⟨v9, D1, rfl, hW9, hD9, hC9⟩
        obtain ⟨a0, a1, rfl, hv0, hv1⟩ := mway_agg hW9
        have st0 := fun (a : Addr) (m : Mode) (w : World) => run_store Try.prog w a a0 m hv0
        have st1 := fun (a : Addr) (m : Mode) (w : World) => run_store Try.prog w a a1 m hv1
        have hC8 := hC9.alloc (.cells #[a0, a1] 31)
        have p70 := new_cell w40 #[a0, a1] 31 (i := 0) rfl
        have p71 := new_cell w40 #[a0, a1] 31 (i := 1) rfl
        have hW1 := hW9.fr ((Chg.refl _ _).alloc (.cells #[a0, a1] 31))
        have LEN1 := Lib.hid (mwlen G1.out hW9)
        have hlow : w3.heap.size ≤ w40.heap.size := hC9.size
        have HD1 := Lib.hid (show (∀ q, D1 q → w3.heap.size ≤ q) ∧ w3.heap.size ≤ w40.heap.size from ⟨fun q hq => (hD9 q hq).elim (fun h => h.elim) (fun h => by have := HSZ.out; omega), by have := HSZ.out; omega⟩)
        replace HSZ := Lib.hid (show w3.heap.size ≤ (w40.alloc (.cells #[a0, a1] 31)).heap.size by have := HD1.out.2; rw [World.size_alloc]; omega)
        obtain ⟨x7, hx⟩ : ∃ x, w40.heap.size = x := ⟨_, rfl⟩
        rw [hx] at p70 p71 HD1
        clear hC9 hW9 hD9 hlow
        have hT3 := hC8
        replace y0 := hC8.cell y0 id
        replace y1 := hC8.cell y1 id
        replace y2 := hC8.cell y2 id
        clear hC8
        go_upto_region 5 with (fail)
        clear hx st0 st1 hv0 hv1
        generalize w40.alloc (.cells #[a0, a1] 31) = w4 at *
        have hway := R2.out _ _ _ (HAO.out.fr hT3) (HOS.out.ls.fr hT3)
        go_wp2_with fail
        refine hway.mono ?_
        clear hway
        rintro e9 w50 ⟨v9, D2, rfl, hW9, hD9, hC9⟩
        obtain ⟨b0, b1, rfl, hv0, hv1⟩ := mway_agg hW9
        have st0 := fun (a : Addr) (m : Mode) (w : World) => run_store Try.prog w a b0 m hv0
        have st1 := fun (a : Addr) (m : Mode) (w : World) => run_store Try.prog w a b1 m hv1
        have hC8 := hC9.alloc (.cells #[b0, b1] 31)
        have p90 := new_cell w50 #[b0, b1] 31 (i := 0) rfl
        have p91 := new_cell w50 #[b0, b1] 31 (i := 1) rfl
        have hW2 := hW9.fr ((Chg.refl _ _).alloc (.cells #[b0, b1] 31))
        have LEN2 := Lib.hid (mwlen G2.out hW9)
        have hlow : w4.heap.size ≤ w50.heap.size := hC9.size
        have HD2 := Lib.hid (show (∀ q, D2 q → w3.heap.size ≤ q) ∧ w3.heap.size ≤ w50.heap.size from ⟨fun q hq => (hD9 q hq).elim (fun h => h.elim) (fun h => by have := HSZ.out; omega), by have := HSZ.out; omega⟩)
        replace HSZ := Lib.hid (show w3.heap.size ≤ (w50.alloc (.cells #[b0, b1] 31)).heap.size by have := HD2.out.2; rw [World.size_alloc]; omega)
        obtain ⟨x9, hx⟩ : ∃ x, w50.heap.size = x := ⟨_, rfl⟩
        rw [hx] at p90 p91 HD2
        clear hC9 hW9 hD9 hlow
        replace hT3 := hT3.tr hC8
        replace y0 := hC8.cell y0 id
        replace y1 := hC8.cell y1 id
        replace y2 := hC8.cell y2 id
        replace p70 := hC8.cell p70 id
        replace p71 := hC8.cell p71 id
        replace hW1 := hW1.fr hC8
        clear hC8
        go_upto_region 6 with (fail)
        clear hx st0 st1 hv0 hv1
        generalize w50.alloc (.cells #[b0, b1] 31) = w5 at *
        have hway := R3.out _ _ _ (HAO.out.fr hT3) (HOS.out.ls.fr hT3)
        go_wp2_with fail
        refine hway.mono ?_
        clear hway
        rintro e9 w60 ⟨v9, D3, rfl, hW9, hD9, hC9⟩
        obtain ⟨c0, c1, rfl, hv0, hv1⟩ := mway_agg hW9
        have st0 := fun (a : Addr) (m : Mode) (w : World) => run_store Try.prog w a c0 m hv0
        have st1 := fun (a : Addr) (m : Mode) (w : World) => run_store Try.prog w a c1 m hv1
        have hC8 := hC9.alloc (.cells #[c0, c1] 31)
        have p110 := new_cell w60 #[c0, c1] 31 (i := 0) rfl
        have p111 := new_cell w60 #[c0, c1] 31 (i := 1) rfl
        have hW3 := hW9.fr ((Chg.refl _ _).alloc (.cells #[c0, c1] 31))
        have LEN3 := Lib.hid (mwlen G3.out hW9)
        have hlow : w5.heap.size ≤ w60.heap.size := hC9.size
        have HD3 := Lib.hid (show (∀ q, D3 q → w3.heap.size ≤ q) ∧ w3.heap.size ≤ w60.heap.size from ⟨fun q hq => (hD9 q hq).elim (fun h => h.elim) (fun h => by have := HSZ.out; omega), by have := HSZ.out; omega⟩)
        replace HSZ := Lib.hid (show w3.heap.size ≤ (w60.alloc (.cells #[c0, c1] 31)).heap.size by have := HD3.out.2; rw [World.size_alloc]; omega)
        obtain ⟨x11, hx⟩ : ∃ x, w60.heap.size = x := ⟨_, rfl⟩
        rw [hx] at p110 p111 HD3
        clear hC9 hW9 hD9 hlow
        replace hT3 := hT3.tr hC8
        replace y0 := hC8.cell y0 id
        replace y1 := hC8.cell y1 id
        replace y2 := hC8.cell y2 id
        replace p70 := hC8.cell p70 id
        replace p71 := hC8.cell p71 id
        replace p90 := hC8.cell p90 id
        replace p91 := hC8.cell p91 id
        replace hW1 := hW1.fr hC8
        replace hW2 := hW2.fr hC8
        clear hC8
        go_upto_region 7 with (fail)
        clear hx st0 st1 hv0 hv1
        generalize w60.alloc (.cells #[c0, c1] 31) = w6 at *
        have hway := R4.out _ _ _ (HOS.out.ls.fr hT3) (HOT.out.ls.fr hT3)
        go_wp2_with fail
        refine hway.mono ?_
        clear hway
        rintro e9 w70 ⟨v9, D4, rfl, hW9, hD9, hC9⟩
        obtain ⟨d0, d1, rfl, hv0, hv1⟩ := mway_agg hW9
        have st0 := fun (a : Addr) (m : Mode) (w : World) => run_store Try.prog w a d0 m hv0
        have st1 := fun (a : Addr) (m : Mode) (w : World) => run_store Try.prog w a d1 m hv1
        have hC8 := hC9.alloc (.cells #[d0, d1] 31)
        have p130 := new_cell w70 #[d0, d1] 31 (i := 0) rfl
        have p131 := new_cell w70 #[d0, d1] 31 (i := 1) rfl
        have hW4 := hW9.fr ((Chg.refl _ _).alloc (.cells #[d0, d1] 31))
        have LEN4 := Lib.hid (mwlen G4.out hW9)
        have hlow : w6.heap.size ≤ w70.heap.size := hC9.size
        have HD4 := Lib.hid (show (∀ q, D4 q → w3.heap.size ≤ q) ∧ w3.heap.size ≤ w70.heap.size from ⟨fun q hq => (hD9 q hq).elim (fun h => h.elim) (fun h => by have := HSZ.out; omega), by have := HSZ.out; omega⟩)
        replace HSZ := Lib.hid (show w3.heap.size ≤ (w70.alloc (.cells #[d0, d1] 31)).heap.size by have := HD4.out.2; rw [World.size_alloc]; omega)
        obtain ⟨x13, hx⟩ : ∃ x, w70.heap.size = x := ⟨_, rfl⟩
        rw [hx] at p130 p131 HD4
        clear hC9 hW9 hD9 hlow
        replace hT3 := hT3.tr hC8
        replace y0 := hC8.cell y0 id
        replace y1 := hC8.cell y1 id
        replace y2 := hC8.cell y2 id
        replace p70 := hC8.cell p70 id
        replace p71 := hC8.cell p71 id
        replace p90 := hC8.cell p90 id
        replace p91 := hC8.cell p91 id
        replace p110 := hC8.cell p110 id
        replace p111 := hC8.cell p111 id
        replace hW1 := hW1.fr hC8
        replace hW2 := hW2.fr hC8
        replace hW3 := hW3.fr hC8
        clear hC8
        go_upto_region 8 with (fail)
        clear hx st0 st1 hv0 hv1
        generalize w70.alloc (.cells #[d0, d1] 31) = w7 at *
        have hCL := (Chg.refl (fun _ => False) w7).alloc (.cells #[.int .i64 L.k, .slice oa L.s.length oc, .slice ob L.e.length od] 25)
        have hsp := spoil13_any w7.heap.size _ _ _ _ _ _ (w7.alloc (.cells #[.int .i64 L.k, .slice oa L.s.length oc, .slice ob L.e.length od] 25)) ((HQ1.out.fr hT3).fr hCL) ((HQ2.out.fr hT3).fr hCL) HLB.out.1 HLB.out.2 (new_cell w7 _ _ rfl) (new_cell w7 _ _ rfl) (fun h => by
          rcases h with h | h
          · have := ((HQ1.out.fr hT3).lt _ h).2; omega
          · have := ((HQ2.out.fr hT3).lt _ h).2; omega)
        have HWA := Lib.hid (show Wrt w7 (.slice na a.length nc) a.length from Wrt.of (HOS.out.fr hT3))
        have HWB := Lib.hid (show Wrt w7 (.slice nb b.length nd) b.length from Wrt.of (HOT.out.fr hT3))
        have HCL := Lib.hid hCL
        have HCW := Lib.hid (HC.out.tr hT3)
        have HXZ := Lib.hid (show ∀ q, Zb (.slice oa L.s.length oc) (.slice ob L.e.length od) (.slice na a.length nc) (.slice nb b.length nd) q → q < w3.heap.size from fun q hq => Nat.lt_trans (HZX.out q hq).2.2 HX5.out)
        have HW37 := Lib.hid (show w3.heap.size ≤ w7.heap.size from hT3.size)
        have HKP := Lib.hid (show ∀ w', Chg (Zb (.slice oa L.s.length oc) (.slice ob L.e.length od) (.slice na a.length nc) (.slice nb b.length nd)) w7 w' → ((w'.cell? ⟨x7, 0, none⟩ = some a0 ∧ w'.cell? ⟨x7, 1, none⟩ = some a1) ∧ (w'.cell? ⟨x9, 0, none⟩ = some b0 ∧ w'.cell? ⟨x9, 1, none⟩ = some b1) ∧ (w'.cell? ⟨x11, 0, none⟩ = some c0 ∧ w'.cell? ⟨x11, 1, none⟩ = some c1) ∧ (w'.cell? ⟨x13, 0, none⟩ = some d0 ∧ w'.cell? ⟨x13, 1, none⟩ = some d1)) ∧ WayAt w' D1 (.agg #[a0, a1]) Y1 ∧ WayAt w' D2 (.agg #[b0, b1]) Y2 ∧ WayAt w' D3 (.agg #[c0, c1]) Y3 ∧ WayAt w' D4 (.agg #[d0, d1]) Y4 from fun w' h => by
          have n1 : ¬ Zb (.slice oa L.s.length oc) (.slice ob L.e.length od) (.slice na a.length nc) (.slice nb b.length nd) x7 := fun hz => by have := HXZ.out _ hz; have := HD1.out.2; omega
          have n2 : ¬ Zb (.slice oa L.s.length oc) (.slice ob L.e.length od) (.slice na a.length nc) (.slice nb b.length nd) x9 := fun hz => by have := HXZ.out _ hz; have := HD2.out.2; omega
          have n3 : ¬ Zb (.slice oa L.s.length oc) (.slice ob L.e.length od) (.slice na a.length nc) (.slice nb b.length nd) x11 := fun hz => by have := HXZ.out _ hz; have := HD3.out.2; omega
          have n4 : ¬ Zb (.slice oa L.s.length oc) (.slice ob L.e.length od) (.slice na a.length nc) (.slice nb b.length nd) x13 := fun hz => by have := HXZ.out _ hz; have := HD4.out.2; omega
          refine ⟨⟨⟨h.cell p70 n1, h.cell p71 n1⟩, ⟨h.cell p90 n2, h.cell p91 n2⟩, ⟨h.cell p110 n3, h.cell p111 n3⟩, ⟨h.cell p130 n4, h.cell p131 n4⟩⟩, hW1.old (Chg.mono h (fun i _ hz hd => ?_)), hW2.old (Chg.mono h (fun i _ hz hd => ?_)), hW3.old (Chg.mono h (fun i _ hz hd => ?_)), hW4.old (Chg.mono h (fun i _ hz hd => ?_))⟩
          · have := HXZ.out _ hz; have := HD1.out.1 _ hd; omega
          · have := HXZ.out _ hz; have := HD2.out.1 _ hd; omega
          · have := HXZ.out _ hz; have := HD3.out.1 _ hd; omega
          · have := HXZ.out _ hz; have := HD4.out.1 _ hd; omega)
        have hl7 : w7.cell? ⟨x2, 0, none⟩ = some (.int .i64 L.k) ∧ w7.cell? ⟨x2, 1, none⟩ = some (.slice pa L.s.length cp) ∧ w7.cell? ⟨x2, 2, none⟩ = some (.slice fa L.e.length cf) := ⟨hT3.cell l0 id, hT3.cell l1 id, hT3.cell l2 id⟩
        have HLW := Lib.hid (show ∀ w', Chg (Zb (.slice oa L.s.length oc) (.slice ob L.e.length od) (.slice na a.length nc) (.slice nb b.length nd)) w7 w' → (w'.cell? ⟨x2, 0, none⟩ = some (.int .i64 L.k) ∧ w'.cell? ⟨x2, 1, none⟩ = some (.slice pa L.s.length cp) ∧ w'.cell? ⟨x2, 2, none⟩ = some (.slice fa L.e.length cf)) ∧ Ara w' (.agg #[.int .i64 L.k, .slice pa L.s.length cp, .slice fa L.e.length cf]) L ∧ Chg (fun _ => False) W w' ∧ Ls w' (.slice ao a.length c) a ∧ Ls w' (.slice bo b.length c') b from fun w' h => by
          have n2 : ¬ Zb (.slice oa L.s.length oc) (.slice ob L.e.length od) (.slice na a.length nc) (.slice nb b.length nd) x2 := fun hz => by have := (HZX.out _ hz).2.1; omega
          have hW := Chg.trans (T := fun _ => False) HCW.out h (fun _ _ h => h) (fun i hi hz => by have := (HZX.out _ hz).1; omega)
          exact ⟨⟨h.cell hl7.1 n2, h.cell hl7.2.1 n2, h.cell hl7.2.2 n2⟩, HLO.out _ hW, hW, HSA.out _ hW, HSB.out _ hW⟩)
        clear p70 p71 p90 p91 p110 p111 p130 p131 hW1 hW2 hW3 hW4 hT3 hl7 l0 l1 l2 hCL
        go_wp2_with fail
        refine hsp.mono ?_
        clear hsp y0 y1 y2
        rintro e9 w8 ⟨⟨vv, rfl⟩, hCsp⟩
        have hC78 : Chg (fun q => (Value.slice oa L.s.length oc).ownBlock = some q ∨ (Value.slice ob L.e.length od).ownBlock = some q) w7 w8 := HCL.out.trans hCsp (fun _ _ h => h.elim) (fun _ _ h => h)
        have hCx : Chg (Zb (.slice oa L.s.length oc) (.slice ob L.e.length od) (.slice na a.length nc) (.slice nb b.length nd)) w7 w8 := Chg.mono hC78 (fun _ _ h => h.elim .inl (fun h => .inr (.inl h)))
        have hCy := (Chg.refl (fun _ => False) w8).alloc (.cells #[.slice na a.length nc, .slice nb b.length nd] 22)
        have HR1 := Lib.hid (((HWA.out.chg hC78 (fun q hq => HZ2.out.1 q hq)).chg hCy (fun _ _ => id)))
        have HR2 := Lib.hid (((HWB.out.chg hC78 (fun q hq => HZ2.out.2 q hq)).chg hCy (fun _ _ => id)))
        have k0 := new_cell w8 #[.slice na a.length nc, .slice nb b.length nd] 22 (i := 0) rfl
        have k1 := new_cell w8 #[.slice na a.length nc, .slice nb b.length nd] 22 (i := 1) rfl
        have hx8 : w3.heap.size ≤ w8.heap.size := Nat.le_trans HW37.out hCx.size
        obtain ⟨x8, hx8e⟩ : ∃ x, w8.heap.size = x := ⟨_, rfl⟩
        rw [hx8e] at k0 k1 hx8
        have HX8 := Lib.hid hx8
        have HC8 := Lib.hid (hCx.trans hCy (T := Zb (.slice oa L.s.length oc) (.slice ob L.e.length od) (.slice na a.length nc) (.slice nb b.length nd)) (fun _ _ h => h) (fun _ _ h => h.elim))
        clear hCsp hC78 hCx hCy hx8 HWA HWB
        have HNX := Lib.hid (show ¬ Zb (.slice oa L.s.length oc) (.slice ob L.e.length od) (.slice na a.length nc) (.slice nb b.length nd) x8 from fun hz => by have := HXZ.out _ hz; have := HX8.out; omega)
        have HK0 := Lib.hid k0
        have HK1 := Lib.hid k1
        clear k0 k1
        go_wp2
        clear hx8e
        generalize w8.alloc (.cells #[.slice na a.length nc, .slice nb b.length nd] 22) = w9 at *
        go_loopw [79] (fun i wr => ∃ q : Nat, q ≤ 2 ∧ i = .int .i64 q ∧ Wrt wr (.slice na a.length nc) a.length ∧ Wrt wr (.slice nb b.length nd) b.length ∧ Chg (Zb (.slice oa L.s.length oc) (.slice ob L.e.length od) (.slice na a.length nc) (.slice nb b.length nd)) w9 wr) (fun i _ => 2 - (intOf i).toNat)
        case atStart => exact ⟨0, by decide, rfl, HR1.out, HR2.out, Chg.refl _ _⟩
        case round =>
          obtain ⟨q, hq, rfl, hs1, hs2, hC⟩ := hrel
          clear HR1 HR2
          have hq3 : q = 0 ∨ q = 1 ∨ q = 2 := by omega
          clear hq
          rcases hq3 with rfl | rfl | rfl
          · have k0 := hC.cell HK0.out HNX.out
            have HR1 := Lib.hid hs1
            have HR2 := Lib.hid hs2
            have HR3 := Lib.hid hC
            clear hs1 hs2 hC
            go_wp2
            clear k0
            go_loopw [85] (fun i wr => ∃ j : Nat, j ≤ a.length ∧ i = .int .i64 j ∧ Wrt wr (.slice na a.length nc) a.length ∧ Wrt wr (.slice nb b.length nd) b.length ∧ Chg (Zb (.slice oa L.s.length oc) (.slice ob L.e.length od) (.slice na a.length nc) (.slice nb b.length nd)) w9 wr) (fun i _ => a.length - (intOf i).toNat)
            case atStart => exact ⟨0, Nat.zero_le _, rfl, HR1.out, HR2.out, HR3.out⟩
            case round =>
              obtain ⟨j, hj, rfl, hs1, hs2, hC⟩ := hrel
              clear HR1 HR2 HR3
              by_cases hlt : j < a.length
              · have hlt' : (j : Int) < (a.length : Int) := by omega
                have hj0 : (0 : Int) ≤ (j : Int) := by omega
                have hkw : IntKind.i64.wrap ((j : Int) + 1) = (j : Int) + 1 := IntWalk.i64_in _ (by omega)
                obtain ⟨b', o, c9, x, e1, hc, hf⟩ := hs1 j hlt
                injection e1 with e1 e3 e4
                clear e3 e4
                subst e1
                have HS9 := Lib.hid (hs1.set ⟨b', o + j, none⟩ (IntKind.i64.wrap (x + 1)))
                have HS8 := Lib.hid (hs2.set ⟨b', o + j, none⟩ (IntKind.i64.wrap (x + 1)))
                have HC9 := Lib.hid (hC.setCell (p := ⟨b', o + j, none⟩) (.inl (.inr (.inr (.inl rfl)))) (.int .i64 (IntKind.i64.wrap (x + 1))))
                generalize hz : IntKind.i64.wrap (x + 1) = z at *
                clear hs1 hs2 hC
                go_wp2
                go_roundw
                case rel => exact ⟨j + 1, hlt, by go_num, HS9.out, HS8.out, HC9.out⟩
                case measure => exact fit_meas j a.length hlt
              · obtain rfl : j = a.length := by omega
                have HR1 := Lib.hid hs1
                have HR2 := Lib.hid hs2
                have HR3 := Lib.hid hC
                clear hs1 hs2 hC hlt hj
                go_wp2
                go_roundw
                case rel => exact ⟨1, by decide, rfl, HR1.out, HR2.out, HR3.out⟩
                case measure => simp [intOf]
          · have k1 := hC.cell HK1.out HNX.out
            have HR1 := Lib.hid hs1
            have HR2 := Lib.hid hs2
            have HR3 := Lib.hid hC
            clear hs1 hs2 hC
            go_wp2
            clear k1
            go_loopw [85] (fun i wr => ∃ j : Nat, j ≤ b.length ∧ i = .int .i64 j ∧ Wrt wr (.slice na a.length nc) a.length ∧ Wrt wr (.slice nb b.length nd) b.length ∧ Chg (Zb (.slice oa L.s.length oc) (.slice ob L.e.length od) (.slice na a.length nc) (.slice nb b.length nd)) w9 wr) (fun i _ => b.length - (intOf i).toNat)
            case atStart => exact ⟨0, Nat.zero_le _, rfl, HR1.out, HR2.out, HR3.out⟩
            case round =>
              obtain ⟨j, hj, rfl, hs1, hs2, hC⟩ := hrel
              clear HR1 HR2 HR3
              by_cases hlt : j < b.length
              · have hlt' : (j : Int) < (b.length : Int) := by omega
                have hj0 : (0 : Int) ≤ (j : Int) := by omega
                have hkw : IntKind.i64.wrap ((j : Int) + 1) = (j : Int) + 1 := IntWalk.i64_in _ (by omega)
                obtain ⟨b', o, c9, x, e1, hc, hf⟩ := hs2 j hlt
                injection e1 with e1 e3 e4
                clear e3 e4
                subst e1
                have HS9 := Lib.hid (hs1.set ⟨b', o + j, none⟩ (IntKind.i64.wrap (x + 1)))
                have HS8 := Lib.hid (hs2.set ⟨b', o + j, none⟩ (IntKind.i64.wrap (x + 1)))
                have HC9 := Lib.hid (hC.setCell (p := ⟨b', o + j, none⟩) (.inl (.inr (.inr (.inr rfl)))) (.int .i64 (IntKind.i64.wrap (x + 1))))
                generalize hz : IntKind.i64.wrap (x + 1) = z at *
                clear hs1 hs2 hC
                go_wp2
                go_roundw
                case rel => exact ⟨j + 1, hlt, by go_num, HS9.out, HS8.out, HC9.out⟩
                case measure => exact fit_meas j b.length hlt
              · obtain rfl : j = b.length := by omega
                have HR1 := Lib.hid hs1
                have HR2 := Lib.hid hs2
                have HR3 := Lib.hid hC
                clear hs1 hs2 hC hlt hj
                go_wp2
                go_roundw
                case rel => exact ⟨2, by decide, rfl, HR1.out, HR2.out, HR3.out⟩
                case measure => simp [intOf]
          · have HCZ := Lib.hid (HC8.out.trans hC (T := Zb (.slice oa L.s.length oc) (.slice ob L.e.length od) (.slice na a.length nc) (.slice nb b.length nd)) (fun _ _ h => h) (fun _ _ h => h))
            clear hs1 hs2 hC
            obtain ⟨⟨l0, l1, l2⟩, hLa, _, hLs, _⟩ := HLW.out _ HCZ.out
            have hdoc := Q1.out _ _ _ hLa hLs
            clear hLa hLs
            go_wp2_with fail
            refine hdoc.mono ?_
            clear hdoc
            rintro e9 z10 ⟨v9, rfl, hG9, hC9⟩
            obtain ⟨e0, e1, e2, rfl, hs9, ho9, hp9⟩ := id hG9
            have hv0 : e0.oneCell' = true := by obtain ⟨_, _, rfl, _⟩ := hs9.form; rfl
            have hv1 : e1.oneCell' = true := by obtain ⟨_, _, rfl, _⟩ := ho9.form; rfl
            have hv2 : e2.oneCell' = true := by obtain ⟨_, _, rfl, _⟩ := hp9.form; rfl
            have st0 := fun (a : Addr) (m : Mode) (w : World) => run_store Try.prog w a e0 m hv0
            have st1 := fun (a : Addr) (m : Mode) (w : World) => run_store Try.prog w a e1 m hv1
            have st2 := fun (a : Addr) (m : Mode) (w : World) => run_store Try.prog w a e2 m hv2
            have hC8 := hC9.alloc (.cells #[e0, e1, e2] 39)
            obtain ⟨q10, q11, q12⟩ := cell_two z10 e0 e1 e2 39
            have hG1 := hG9.fr ((Chg.refl _ _).alloc (.cells #[e0, e1, e2] 39))
            replace HCZ := Lib.hid (HCZ.out.trans hC8 (fun _ _ h => h) (fun _ _ h => h.elim))
            obtain ⟨x21, hx⟩ : ∃ x, z10.heap.size = x := ⟨_, rfl⟩
            rw [hx] at q10 q11 q12
            clear hC9 hG9 hs9 ho9 hp9
            go_upto_region 19 with (fail)
            clear hx st0 st1 st2 hv0 hv1 hv2
            generalize z10.alloc (.cells #[e0, e1, e2] 39) = z11 at *
            clear hC8 l0 l1 l2
            obtain ⟨⟨l0, l1, l2⟩, hLa, _, hLs, _⟩ := HLW.out _ HCZ.out
            have hdoc := Q2.out _ _ _ hLa hLs
            clear hLa hLs
            go_wp2_with fail
            refine hdoc.mono ?_
            clear hdoc
            rintro e9 z20 ⟨v9, rfl, hG9, hC9⟩
            obtain ⟨f0, f1, f2, rfl, hs9, ho9, hp9⟩ := id hG9
            have hv0 : f0.oneCell' = true := by obtain ⟨_, _, rfl, _⟩ := hs9.form; rfl
            have hv1 : f1.oneCell' = true := by obtain ⟨_, _, rfl, _⟩ := ho9.form; rfl
            have hv2 : f2.oneCell' = true := by obtain ⟨_, _, rfl, _⟩ := hp9.form; rfl
            have st0 := fun (a : Addr) (m : Mode) (w : World) => run_store Try.prog w a f0 m hv0
            have st1 := fun (a : Addr) (m : Mode) (w : World) => run_store Try.prog w a f1 m hv1
            have st2 := fun (a : Addr) (m : Mode) (w : World) => run_store Try.prog w a f2 m hv2
            have hC8 := hC9.alloc (.cells #[f0, f1, f2] 39)
            obtain ⟨q20, q21, q22⟩ := cell_two z20 f0 f1 f2 39
            have hG2 := hG9.fr ((Chg.refl _ _).alloc (.cells #[f0, f1, f2] 39))
            replace HCZ := Lib.hid (HCZ.out.trans hC8 (fun _ _ h => h) (fun _ _ h => h.elim))
            obtain ⟨x23, hx⟩ : ∃ x, z20.heap.size = x := ⟨_, rfl⟩
            rw [hx] at q20 q21 q22
            clear hC9 hG9 hs9 ho9 hp9
            go_upto_region 20 with (fail)
            clear hx st0 st1 st2 hv0 hv1 hv2
            generalize z20.alloc (.cells #[f0, f1, f2] 39) = z21 at *
            replace q10 := hC8.cell q10 id
            replace q11 := hC8.cell q11 id
            replace q12 := hC8.cell q12 id
            replace hG1 := hG1.fr hC8
            clear hC8 l0 l1 l2
            obtain ⟨⟨l0, l1, l2⟩, hLa, _, hLs, _⟩ := HLW.out _ HCZ.out
            have hdoc := Q3.out _ _ _ hLa hLs
            clear hLa hLs
            go_wp2_with fail
            refine hdoc.mono ?_
            clear hdoc
            rintro e9 z30 ⟨v9, rfl, hG9, hC9⟩
            obtain ⟨g0, g1, g2, rfl, hs9, ho9, hp9⟩ := id hG9
            have hv0 : g0.oneCell' = true := by obtain ⟨_, _, rfl, _⟩ := hs9.form; rfl
            have hv1 : g1.oneCell' = true := by obtain ⟨_, _, rfl, _⟩ := ho9.form; rfl
            have hv2 : g2.oneCell' = true := by obtain ⟨_, _, rfl, _⟩ := hp9.form; rfl
            have st0 := fun (a : Addr) (m : Mode) (w : World) => run_store Try.prog w a g0 m hv0
            have st1 := fun (a : Addr) (m : Mode) (w : World) => run_store Try.prog w a g1 m hv1
            have st2 := fun (a : Addr) (m : Mode) (w : World) => run_store Try.prog w a g2 m hv2
            have hC8 := hC9.alloc (.cells #[g0, g1, g2] 39)
            obtain ⟨q30, q31, q32⟩ := cell_two z30 g0 g1 g2 39
            have hG3 := hG9.fr ((Chg.refl _ _).alloc (.cells #[g0, g1, g2] 39))
            replace HCZ := Lib.hid (HCZ.out.trans hC8 (fun _ _ h => h) (fun _ _ h => h.elim))
            obtain ⟨x25, hx⟩ : ∃ x, z30.heap.size = x := ⟨_, rfl⟩
            rw [hx] at q30 q31 q32
            clear hC9 hG9 hs9 ho9 hp9
            go_upto_region 21 with (fail)
            clear hx st0 st1 st2 hv0 hv1 hv2
            generalize z30.alloc (.cells #[g0, g1, g2] 39) = z31 at *
            replace q10 := hC8.cell q10 id
            replace q11 := hC8.cell q11 id
            replace q12 := hC8.cell q12 id
            replace hG1 := hG1.fr hC8
            replace q20 := hC8.cell q20 id
            replace q21 := hC8.cell q21 id
            replace q22 := hC8.cell q22 id
            replace hG2 := hG2.fr hC8
            clear hC8 l0 l1 l2
            obtain ⟨_, _, _, hLs, hLt⟩ := HLW.out _ HCZ.out
            have hdoc := Q4.out _ _ _ hLs hLt
            clear hLs hLt
            go_wp2_with fail
            refine hdoc.mono ?_
            clear hdoc
            rintro e9 z40 ⟨v9, rfl, hG9, hC9⟩
            obtain ⟨h0, h1, h2, rfl, hs9, ho9, hp9⟩ := id hG9
            have hv0 : h0.oneCell' = true := by obtain ⟨_, _, rfl, _⟩ := hs9.form; rfl
            have hv1 : h1.oneCell' = true := by obtain ⟨_, _, rfl, _⟩ := ho9.form; rfl
            have hv2 : h2.oneCell' = true := by obtain ⟨_, _, rfl, _⟩ := hp9.form; rfl
            have st0 := fun (a : Addr) (m : Mode) (w : World) => run_store Try.prog w a h0 m hv0
            have st1 := fun (a : Addr) (m : Mode) (w : World) => run_store Try.prog w a h1 m hv1
            have st2 := fun (a : Addr) (m : Mode) (w : World) => run_store Try.prog w a h2 m hv2
            have hC8 := hC9.alloc (.cells #[h0, h1, h2] 39)
            obtain ⟨q40, q41, q42⟩ := cell_two z40 h0 h1 h2 39
            have hG4 := hG9.fr ((Chg.refl _ _).alloc (.cells #[h0, h1, h2] 39))
            replace HCZ := Lib.hid (HCZ.out.trans hC8 (fun _ _ h => h) (fun _ _ h => h.elim))
            obtain ⟨x27, hx⟩ : ∃ x, z40.heap.size = x := ⟨_, rfl⟩
            rw [hx] at q40 q41 q42
            clear hC9 hG9 hs9 ho9 hp9
            go_upto_region 22 with (fail)
            clear hx st0 st1 st2 hv0 hv1 hv2
            generalize z40.alloc (.cells #[h0, h1, h2] 39) = z41 at *
            replace q10 := hC8.cell q10 id
            replace q11 := hC8.cell q11 id
            replace q12 := hC8.cell q12 id
            replace hG1 := hG1.fr hC8
            replace q20 := hC8.cell q20 id
            replace q21 := hC8.cell q21 id
            replace q22 := hC8.cell q22 id
            replace hG2 := hG2.fr hC8
            replace q30 := hC8.cell q30 id
            replace q31 := hC8.cell q31 id
            replace q32 := hC8.cell q32 id
            replace hG3 := hG3.fr hC8
            clear hC8
            obtain ⟨⟨⟨p70, p71⟩, _, _, _⟩, hW1, _⟩ := HKP.out _ HCZ.out
            have h1 := way_any _ _ Y1 D1 _ hW1 hG1 LEN1.out.1 LEN1.out.2
            go_wp2_with fail
            refine h1.mono ?_
            clear h1 p70 p71 hW1 q10 q11 q12 hG1
            rintro e9 z50 ⟨rfl, hC8⟩
            replace HCZ := Lib.hid (HCZ.out.trans hC8 (fun _ _ h => h) (fun _ _ h => h.elim))
            replace q20 := hC8.cell q20 id
            replace q21 := hC8.cell q21 id
            replace q22 := hC8.cell q22 id
            replace hG2 := hG2.fr hC8
            replace q30 := hC8.cell q30 id
            replace q31 := hC8.cell q31 id
            replace q32 := hC8.cell q32 id
            replace hG3 := hG3.fr hC8
            replace q40 := hC8.cell q40 id
            replace q41 := hC8.cell q41 id
            replace q42 := hC8.cell q42 id
            replace hG4 := hG4.fr hC8
            clear hC8
            obtain ⟨⟨_, ⟨p70, p71⟩, _, _⟩, _, hW2, _⟩ := HKP.out _ HCZ.out
            have h1 := way_any _ _ Y2 D2 _ hW2 hG2 LEN2.out.1 LEN2.out.2
            go_wp2_with fail
            refine h1.mono ?_
            clear h1 p70 p71 hW2 q20 q21 q22 hG2
            rintro e9 z51 ⟨rfl, hC8⟩
            replace HCZ := Lib.hid (HCZ.out.trans hC8 (fun _ _ h => h) (fun _ _ h => h.elim))
            replace q30 := hC8.cell q30 id
            replace q31 := hC8.cell q31 id
            replace q32 := hC8.cell q32 id
            replace hG3 := hG3.fr hC8
            replace q40 := hC8.cell q40 id
            replace q41 := hC8.cell q41 id
            replace q42 := hC8.cell q42 id
            replace hG4 := hG4.fr hC8
            clear hC8
            obtain ⟨⟨_, _, ⟨p70, p71⟩, _⟩, _, _, hW3, _⟩ := HKP.out _ HCZ.out
            have h1 := way_any _ _ Y3 D3 _ hW3 hG3 LEN3.out.1 LEN3.out.2
            go_wp2_with fail
            refine h1.mono ?_
            clear h1 p70 p71 hW3 q30 q31 q32 hG3
            rintro e9 z52 ⟨rfl, hC8⟩
            replace HCZ := Lib.hid (HCZ.out.trans hC8 (fun _ _ h => h) (fun _ _ h => h.elim))
            replace q40 := hC8.cell q40 id
            replace q41 := hC8.cell q41 id
            replace q42 := hC8.cell q42 id
            replace hG4 := hG4.fr hC8
            clear hC8
            obtain ⟨⟨_, _, _, p70, p71⟩, _, _, _, hW4⟩ := HKP.out _ HCZ.out
            have h1 := way_any _ _ Y4 D4 _ hW4 hG4 LEN4.out.1 LEN4.out.2
            go_wp2_with fail
            refine h1.mono ?_
            clear h1 p70 p71 hW4 q40 q41 q42 hG4
            rintro e9 z53 ⟨rfl, hC8⟩
            replace HCZ := Lib.hid (HCZ.out.trans hC8 (fun _ _ h => h) (fun _ _ h => h.elim))
            clear hC8
            have hend := (HLW.out _ HCZ.out).2.2.1
            go_wp2
            go_ret
            exact ⟨rfl, hend⟩
end Go.Proofs.Ytceooipljhjpaaa
