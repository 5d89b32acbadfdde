/- TurnRows. -/
import Derived.Test.YtmmbdhfljabefaaTuT
import Derived.Test.YtmmbdhfljabefaaTuV
import Derived.Test.YtmmbdhfljabefaaTuZ
namespace Go.Proofs.Ytmmbdhfljabefaa
open Go.RowKit Go.Shelf

theorem sizeOf_long (w : World) : (sizeOf 2).run Try.prog w = .ok 1 w := by kernel_rfl
theorem Ls.cut {w : World} {v : Value} {xs : List Int} (h : Ls w v xs) (l hi n : Nat) (h1 : l ≤ hi) (h2 : hi ≤ xs.length) (hn : hi - l = n) : ∃ ao c, Ls w (.slice ao n c) ((xs.take hi).drop l) ∧ (∀ W, (Instr.slice 23 v (some (.int .i64 l)) (some (.int .i64 hi)) none).run Try.prog W = .ok (.slice ao n c) W) := by
  obtain ⟨ao, c, hS, _, h3, _, _⟩ := Sl.slice (P := Try.prog) 23 2 Try.underlying23 sizeOf_long h l hi h1 (by rw [List.length_map]; exact h2)
  subst hn
  refine ⟨ao, c, ?_, h3⟩
  unfold Ls
  rw [List.map_drop, List.map_take]
  exact hS
theorem rot_len {L A : Ar} (hA : chkB A = true) (hE : rotE L A.s = 0) : (tgA (rotW L A.s) A).e.length = cnt A.s := by
  obtain ⟨hsh, hl2, hc2, _, _⟩ := chk_len hA
  have hw : rotW L A.s = ⟨A.s, tabG (cnt A.s) (fun i => (0, (i : Int) / rowN A.s * rowN A.s + rotF L A.s i)), 0⟩ := if_pos hE
  have hin : InP (cnt A.s) (fun (i : Nat) => (i : Int) / rowN A.s * rowN A.s + rotF L A.s i) := fun j hj => by
    obtain ⟨p1, _, _⟩ := ediv_lt_cnt hsh hj
    exact row_in hsh hj (Int.emod_nonneg _ (by omega)) (Int.emod_lt_of_pos _ p1)
  rw [hw, (tg_tab hA hsh hc2 hl2 hin).2]
  exact mvE_length _ _ _
theorem box_lit1 {w : World} {k m : Int} {ax : Option Addr} {n c : Nat} {e : List Int} (h : Ls w (.slice ax n c) e) : BoxA ((w.alloc (.cells #[.int .i64 m] 3)).alloc (.cells #[.int .i64 k, .slice (some ⟨w.heap.size, 0, none⟩) 1 1, .slice ax n c] 25)) (w.heap.size + 1) ⟨k, [m], e⟩ := by
  have h0 := own_lit w 3 [m] 1 rfl #[.int .i64 m] rfl (by simp)
  have h1 : Ara (w.alloc (.cells #[.int .i64 m] 3)) (.agg #[.int .i64 k, .slice (some ⟨w.heap.size, 0, none⟩) 1 1, .slice ax n c]) ⟨k, [m], e⟩ := Ara.mk h0.ls (h.fr ((Chg.refl _ _).alloc _))
  have h2 := BoxA.new (A := ⟨k, [m], e⟩) 25 h1
  rw [World.size_alloc] at h2
  exact h2
theorem box_lit2 {w : World} {k m : Int} {ax : Option Addr} {n c : Nat} {e : List Int} (h : Ls w (.slice ax n c) e) (hn : e.length = n) : BoxA ((w.alloc (.cells #[.int .i64 k, .slice (some ⟨w.heap.size + 1, 0, none⟩) 1 1, .slice ax n c] 25)).alloc (.cells #[.int .i64 m] 3)) w.heap.size ⟨k, [m], e⟩ := by
  subst hn
  have h0 := own_lit (w.alloc (.cells #[.int .i64 k, .slice (some ⟨w.heap.size + 1, 0, none⟩) 1 1, .slice ax e.length c] 25)) 3 [m] 1 rfl #[.int .i64 m] rfl (by simp)
  rw [World.size_alloc] at h0
  obtain ⟨z0, z1, z2⟩ := cell_two w (.int .i64 k) (.slice (some ⟨w.heap.size + 1, 0, none⟩) 1 1) (.slice ax e.length c) 25
  exact ⟨_, _, _, _, ⟨alloc_cell z0 _, alloc_cell z1 _, alloc_cell z2 _⟩, Ara.mk h0.ls (h.fr (((Chg.refl _ _).alloc _).alloc _))⟩


set_option maxRecDepth 100000 in
set_option maxHeartbeats 4000000 in
theorem turnRows_walk (v : Value) (A : Ar) (vl : Value) (L : Ar) (W : World) (h : OkArr W v A) (hl : OkArr W vl L) : Calls Try.prog 5 #[v, vl] W (True_ W) := by
  have hA := h.1
  have hL := hl.1
  clear h hl
  have hal := alive_any
  have hA' := hA
  have hL' := hL
  obtain ⟨vt, ve, hv, ht, he⟩ := id hA
  obtain ⟨vp, vf, hu, hp, hf⟩ := id hL
  subst hv hu
  obtain ⟨ta, ct, rfl, _⟩ := ht.form
  obtain ⟨ae, ce, rfl, _⟩ := he.form
  obtain ⟨pa, cp, rfl, _⟩ := hp.form
  obtain ⟨fa, cf, rfl, _⟩ := hf.form
  have hbA := (BoxA.new (A := A) 25 hA).fr ((Chg.refl _ _).alloc (.cells #[.int .i64 L.k, .slice pa L.s.length cp, .slice fa L.e.length cf] 25))
  have hbL := BoxA.new (w := W.alloc (.cells #[.int .i64 A.k, .slice ta A.s.length ct, .slice ae A.e.length ce] 25)) (A := L) 25 (hL.fr ((Chg.refl _ _).alloc _))
  rw [World.size_alloc] at hbL
  have HC := Lib.hid (((Chg.refl (fun _ => False) W).alloc (.cells #[.int .i64 A.k, .slice ta A.s.length ct, .slice ae A.e.length ce] 25)).alloc (.cells #[.int .i64 L.k, .slice pa L.s.length cp, .slice fa L.e.length cf] 25))
  clear ht he hp hf hA hL
  go_enter Try.func5, Try.ntmps5
  go_wp2_with fail
  refine (hal _).mono ?_
  clear hal
  rintro e9 w1 ⟨rfl, hC1⟩
  replace hbA := hbA.fr hC1
  replace hbL := hbL.fr hC1
  replace HC := Lib.hid (HC.out.tr hC1)
  clear hC1 hA' hL'
  obtain ⟨x2, hx2⟩ : ∃ x2, W.heap.size = x2 := ⟨_, rfl⟩
  rw [hx2] at hbA hbL
  obtain ⟨sa, cs, sb, cb, ⟨y0, y1, y2⟩, hb1⟩ := id hbA
  obtain ⟨pa2, cp2, pb2, cq2, ⟨p0, p1, p2⟩, hb2⟩ := id hbL
  have hgr := great_any _ _ A L _ hb1 hb2
  cases hg : grtB A L with
  | true =>
    rw [hg] at hgr
    clear hg hbA hbL
    go_wp2_with fail
    refine hgr.mono ?_
    clear hgr
    rintro e9 w2 ⟨rfl, hC2⟩
    go_wp2
    go_ret
    exact ⟨rfl, HC.out.tr hC2⟩
  | false =>
    rw [hg] at hgr
    obtain ⟨⟨ga1, ga2⟩, gl1, gl2⟩ := grtB_not hg
    clear hg
    go_wp2_with fail
    refine hgr.mono ?_
    clear hgr y0 y1 y2 hb1 p0 p1 p2 hb2
    rintro e9 w2 ⟨rfl, hC2⟩
    replace hbA := hbA.fr hC2
    replace hbL := hbL.fr hC2
    replace HC := Lib.hid (HC.out.tr hC2)
    clear hC2
    obtain ⟨sa, cs, sb, cb, ⟨y0, y1, y2⟩, hb1⟩ := id hbA
    have hck := check_any _ A _ hb1 (by omega)
    cases hc : chkB A with
    | false =>
      rw [show chkE A = 110 by unfold chkE; rw [hc]; rfl] at hck
      clear hc hbA hbL
      go_wp2_with fail
      refine hck.mono ?_
      clear hck
      rintro e9 w3 ⟨rfl, hC3⟩
      go_wp2
      go_ret
      exact ⟨rfl, HC.out.tr hC3⟩
    | true =>
      rw [show chkE A = 0 by unfold chkE; rw [hc]; rfl] at hck
      have HK := Lib.hid hc
      clear hc
      by_cases h2 : A.s.length = 2
      · have d2 : ((A.s.length : Int) != 2) = false := bne_eq_false_iff_eq.2 (by omega)
        have HAS := Lib.hid (show ∃ h m, A.s = [h, m] from match A.s, h2 with | [h, m], _ => ⟨h, m, rfl⟩)
        have HSL := Lib.hid (show A.s.length = 2 ∧ A.e.length ≤ 5000 ∧ L.s.length ≤ 1000000 ∧ L.e.length ≤ 1000000 by omega)
        clear h2
        go_wp2_with fail
        refine hck.mono ?_
        clear hck y0 y1 y2 hb1
        rintro e9 w3 ⟨rfl, hC3⟩
        replace hbA := hbA.fr hC3
        replace hbL := hbL.fr hC3
        replace HC := Lib.hid (HC.out.tr hC3)
        clear hC3
        obtain ⟨sa, cs, sb, cb, ⟨y0, y1, y2⟩, hb1⟩ := id hbA
        obtain ⟨pa2, cp2, pb2, cq2, ⟨p0, p1, p2⟩, hb2⟩ := id hbL
        have hrot := trot_any _ _ L A _ hb2 hb1 HSL.out.2.2.1 HSL.out.2.2.2 (by have := HSL.out.1; omega) (by have := HSL.out.2.1; omega)
        rw [rot_n L A HK.out] at hrot
        obtain ⟨B, hB⟩ : ∃ B, tgA (rotW L A.s) A = B := ⟨_, rfl⟩
        obtain ⟨e, he⟩ : ∃ e, rotE L A.s = e := ⟨_, rfl⟩
        rw [hB, he] at hrot
        have HB := Lib.hid hB
        have HE := Lib.hid he
        clear hB he
        go_wp2_with fail
        refine hrot.mono ?_
        clear hrot y0 y1 y2 hb1 p0 p1 p2 hb2 ga1 ga2 gl1 gl2
        rintro e9 w4 ⟨v9, rfl, ho9, hC9⟩
        obtain ⟨a9, c9, b9, d9, rfl, _, _⟩ := ara_new ho9
        have hbB := BoxA.new (A := B) 25 ho9.ara
        have hC8 := hC9.alloc (.cells #[.int .i64 B.k, .slice a9 B.s.length c9, .slice b9 B.e.length d9] 25)
        replace HC := Lib.hid (HC.out.tr hC8)
        obtain ⟨x6, hx⟩ : ∃ x, w4.heap.size = x := ⟨_, rfl⟩
        rw [hx] at hbB
        clear hC9 ho9
        replace hbA := hbA.fr hC8
        replace hbL := hbL.fr hC8
        clear hC8 d2
        by_cases h0 : e = 0
        · subst h0
          obtain ⟨h, m, hAs⟩ := HAS.out
          obtain ⟨H, M, rfl, rfl, hel, hH, hM, hHM, hcn, hrn⟩ := two_facts HK.out hAs
          have HAS2 := Lib.hid hAs
          have HEL := Lib.hid hel
          have HCN := Lib.hid hcn
          have HRN := Lib.hid hrn
          clear hAs hel hcn hrn
          obtain ⟨sa, cs, sb, cb, ⟨y0, y1, y2⟩, hb1⟩ := id hbA
          have hSs := ara_s hb1
          have q2 : A.s.length = 2 := HSL.out.1
          obtain ⟨bs, os, cc, e1, hcm⟩ := hSs.at (j := 1) (by omega)
          injection e1 with e1 e2 e3
          clear e2 e3
          subst e1
          have hcm' : A.s[1]'(by omega) = (M : Int) := by have h := HAS2.out; simp only [h]; rfl
          rw [hcm'] at hcm
          have q3 : (1 : Int) < (A.s.length : Int) := by omega
          have h1 := trevC _ A _ hb1 HK.out
          obtain ⟨R, hR⟩ : ∃ R, revA A = R := ⟨_, rfl⟩
          rw [hR] at h1
          have HR := Lib.hid hR
          clear hR hcm' hSs q2
          go_wp2_with fail
          clear hx
          refine h1.mono ?_
          clear h1 y0 y1 y2 hb1 hcm q3
          rintro e9 w5 ⟨v9, rfl, ho9, hC9⟩
          obtain ⟨a9, c9, b9, d9, rfl, _, _⟩ := ara_new ho9
          have hbR := BoxA.new (A := R) 25 ho9.ara
          have hC8 := hC9.alloc (.cells #[.int .i64 R.k, .slice a9 R.s.length c9, .slice b9 R.e.length d9] 25)
          replace HC := Lib.hid (HC.out.tr hC8)
          obtain ⟨x9, hx⟩ : ∃ x, w5.heap.size = x := ⟨_, rfl⟩
          rw [hx] at hbR
          clear hC9 ho9
          replace hbA := hbA.fr hC8
          replace hbL := hbL.fr hC8
          replace hbB := hbB.fr hC8
          clear hC8
          go_upto_region 9 with (fail)
          clear hx
          generalize w5.alloc (.cells #[.int .i64 R.k, .slice a9 R.s.length c9, .slice b9 R.e.length d9] 25) = w8 at *
          have HBA := Lib.hid hbA
          have HBL := Lib.hid hbL
          have HBB := Lib.hid hbB
          have HBR := Lib.hid hbR
          clear hbA hbL hbB hbR
          go_wp2
          obtain ⟨sa, cs, sb, cb, ⟨y0, y1, y2⟩, hb1⟩ := HBA.out
          obtain ⟨pa, cp, pb, cq, ⟨p0, p1, p2⟩, hb2⟩ := HBL.out
          obtain ⟨ka, kc, kb, kd, ⟨k0, k1, k2⟩, hbk⟩ := HBB.out
          obtain ⟨ra, rc, rb, rd, ⟨r0, r1, r2⟩, hbr⟩ := HBR.out
          have hSs := ara_s hb1
          have q2 : A.s.length = 2 := HSL.out.1
          obtain ⟨bs, os, cc, e1, hch⟩ := hSs.at (j := 0) (by omega)
          injection e1 with e1 e2 e3
          clear e2 e3
          subst e1
          have hch' : A.s[0]'(by omega) = (H : Int) := by have h := HAS2.out; simp only [h]; rfl
          rw [hch', Nat.add_zero] at hch
          have hBl : B.e.length = H * M := by rw [← HB.out, rot_len HK.out HE.out, HCN.out]
          have hRl : R.e.length = H * M := by rw [← HR.out, (rev_ok HK.out).2.1]; show (mvE _ _ _).length = _; rw [mvE_length, HCN.out]
          have q3 : (0 : Int) < (A.s.length : Int) := by omega
          have HQ3 := Lib.hid q3
          have HF := Lib.hid (show ∀ w', Chg (fun _ => False) w8 w' → (w'.cell? ⟨x2, 0, none⟩ = some (.int .i64 A.k) ∧ w'.cell? ⟨x2, 1, none⟩ = some (.slice (some ⟨bs, os, none⟩) A.s.length cs) ∧ w'.cell? ⟨x2, 2, none⟩ = some (.slice sb A.e.length cb) ∧ w'.cell? ⟨bs, os, none⟩ = some (.int .i64 H)) ∧ (w'.cell? ⟨x2 + 1, 1, none⟩ = some (.slice pa L.s.length cp) ∧ w'.cell? ⟨x2 + 1, 2, none⟩ = some (.slice pb L.e.length cq)) ∧ w'.cell? ⟨x6, 2, none⟩ = some (.slice kb B.e.length kd) ∧ w'.cell? ⟨x9, 2, none⟩ = some (.slice rb R.e.length rd) from fun w' h => ⟨⟨h.cell y0 id, h.cell y1 id, h.cell y2 id, h.cell hch id⟩, ⟨h.cell p1 id, h.cell p2 id⟩, h.cell k2 id, h.cell r2 id⟩)
          have HLS := Lib.hid (show ∀ w', Chg (fun _ => False) w8 w' → Ls w' (.slice sb A.e.length cb) A.e ∧ Ls w' (.slice pb L.e.length cq) L.e ∧ Ls w' (.slice kb B.e.length kd) B.e ∧ Ls w' (.slice rb R.e.length rd) R.e from fun w' h => ⟨(ara_e hb1).fr h, (ara_e hb2).fr h, (ara_e hbk).fr h, (ara_e hbr).fr h⟩)
          have HBL2 := Lib.hid (show B.e.length = H * M ∧ R.e.length = H * M from ⟨hBl, hRl⟩)
          clear y0 y1 y2 hb1 p0 p1 p2 hb2 k0 k1 k2 hbk r0 r1 r2 hbr hSs hch hch' hBl hRl q2 q3 HBA HBL HBB HBR
          go_loopw [11] (fun i wr => ∃ j : Nat, j ≤ H ∧ i = .int .i64 j ∧ Chg (fun _ => False) w8 wr) (fun i _ => H - (intOf i).toNat)
          case atStart => exact ⟨0, Nat.zero_le _, rfl, Chg.refl _ _⟩
          case round =>
            obtain ⟨j, hj, rfl, hC⟩ := hrel
            obtain ⟨⟨y0, y1, y2, y3⟩, ⟨p1, p2⟩, k2, r2⟩ := HF.out _ hC
            have q3 := HQ3.out
            by_cases hlt : j < H
            · have hlt' : (j : Int) < (H : Int) := by omega
              have hj0 : (0 : Int) ≤ (j : Int) := by omega
              have hkw : IntKind.i64.wrap ((j : Int) + 1) = (j : Int) + 1 := IntWalk.i64_in _ (by omega)
              have hle1 := row_le (m := M) hlt
              have hmul := row_mul j M
              obtain ⟨lo, hlo⟩ : ∃ lo, j * M = lo := ⟨_, rfl⟩
              obtain ⟨hi, hhi⟩ : ∃ hi, (j + 1) * M = hi := ⟨_, rfl⟩
              rw [hhi] at hle1 hmul
              rw [hlo] at hmul
              have hw1 : IntKind.i64.wrap ((j : Int) * (M : Int)) = (lo : Int) := by rw [show (j : Int) * (M : Int) = (lo : Int) by rw [← hlo]; simp]; exact IntWalk.i64_in _ (by omega)
              have hw3 : IntKind.i64.wrap (((j : Int) + 1) * (M : Int)) = (hi : Int) := by rw [show ((j : Int) + 1) * (M : Int) = (hi : Int) by rw [← hhi]; simp]; exact IntWalk.i64_in _ (by omega)
              obtain ⟨ax, cx, hxl, hxr⟩ := (HLS.out _ hC).1.cut lo hi M (by omega) (by rw [HEL.out]; exact hle1) (by omega)
              obtain ⟨bx, dx, hyl, hyr⟩ := (HLS.out _ hC).2.2.1.cut lo hi M (by omega) (by rw [HBL2.out.1]; exact hle1) (by omega)
              obtain ⟨rx, ex, hzl, hzr⟩ := (HLS.out _ hC).2.2.2.cut lo hi M (by omega) (by rw [HBL2.out.2]; exact hle1) (by omega)
              have hrow : ∀ e : List Int, (e.take hi).drop lo = rowL e j M := fun e => by unfold rowL; rw [hlo, hhi]
              rw [hrow] at hxl hyl hzl
              have hrl : (rowL A.e j M).length = M := rowL_length HEL.out hlt
              have HROW := Lib.hid (show chkB (rowA A j M) = true ∧ rotA (L.e.getD (amtI L j) 0) (rowA A j M) = ⟨A.k, [(M : Int)], rowL B.e j M⟩ ∧ revA (rowA A j M) = ⟨A.k, [(M : Int)], rowL R.e j M⟩ ∧ amtI L j < L.e.length from
                ⟨rowA_chk HK.out HEL.out hM hlt, by rw [rot_rows HK.out HEL.out hM HCN.out HRN.out HE.out hlt, HB.out], by rw [rev_rows HK.out HEL.out hM HCN.out HRN.out hlt, HR.out], amt_in HE.out HAS2.out hlt⟩)
              have HX := Lib.hid hxl
              have HY := Lib.hid hyl
              have HZ := Lib.hid hzl
              have HLT := Lib.hid hlt
              have HC0 := Lib.hid hC
              have HRL := Lib.hid (show (rowL A.e j M).length = M ∧ (rowL B.e j M).length = M ∧ (rowL R.e j M).length = M from ⟨hrl, rowL_length HBL2.out.1 hlt, rowL_length HBL2.out.2 hlt⟩)
              clear hle1 hmul hlo hhi hxl hyl hzl hrow hrl hj hlt p1 p2 k2 r2
              go_upto_region 12 with (fail)
              clear y1 y3 q3
              go_cut [12] (fun s4 wx => ∃ x, s4 = .pointer (some ⟨x, 0, none⟩) ∧ BoxA wx x (rowA A j M) ∧ Chg (fun _ => False) wr wx)
              case first =>
                have KP := Lib.hid (show ∀ w', Chg (fun _ => False) wr w' → (Chg (fun _ => False) wr w' ∧ w'.cell? ⟨x2, 0, none⟩ = some (.int .i64 A.k) ∧ w'.cell? ⟨x2, 2, none⟩ = some (.slice sb A.e.length cb)) from fun w' h => ⟨h, h.cell y0 id, h.cell y2 id⟩)
                go_region_held3 (fun w' => Chg (fun _ => False) wr w' ∧ w'.cell? ⟨x2, 0, none⟩ = some (.int .i64 A.k) ∧ w'.cell? ⟨x2, 2, none⟩ = some (.slice sb A.e.length cb)) ((refine KP.out _ ?_; repeat (first | (with_reducible exact Chg.refl _ _) | (with_reducible assumption) | (with_reducible refine chg_drew' ?_) | (with_reducible refine chg_alloc' ?_) | (with_reducible refine Chg.tr ?_ hC6) | (with_reducible refine Chg.tr ?_ hC5) | (with_reducible refine Chg.setCell ?_ (.inr hs5) _) | (refine Chg.setCell ?_ (.inr (by simp only []; omega)) _)))) (fail)
                all_goals
                  rename_i hHd
                  go_wp2_with fail
                  go_meet
                  refine ⟨_, rfl, ?_, hHd.1⟩
                  first
                  | exact box_lit1 HX.out
                  | exact box_lit2 HX.out HRL.out.1
                  | exact (box_lit1 HX.out).fr ((Chg.refl _ _).drew)
                  | exact (box_lit2 HX.out HRL.out.1).fr ((Chg.refl _ _).drew)
              case rest =>
                obtain ⟨x12, rfl, hb12, hCc⟩ := hcut
                replace hC := HC0.out.tr hCc
                replace HC0 := Lib.hid hC
                replace HX := Lib.hid (show ∀ w', Chg (fun _ => False) wc w' → Ls w' (.slice bx M dx) (rowL B.e j M) ∧ Ls w' (.slice rx M ex) (rowL R.e j M) from fun w' h => ⟨(HY.out.fr hCc).fr h, (HZ.out.fr hCc).fr h⟩)
                clear y0 y2 HY HZ hCc hxr
                obtain ⟨⟨y0, y1, y2, y3⟩, ⟨p1, p2⟩, k2, r2⟩ := HF.out _ hC
                go_upto_if 98 with (fail)
                go_cut [13] (fun s13 wx => s13 = .int .i64 (amtI L j) ∧ wx = wc)
                case first =>
                  by_cases hs : L.s = []
                  · have hv : amtI L j = 0 := if_pos hs
                    have d2 : decide (0 < L.s.length) = false := decide_eq_false (by rw [hs]; decide)
                    have d3 : ¬ 0 < L.s.length := by rw [hs]; decide
                    rw [d2]
                    have HV := Lib.hid hv
                    clear hs hv
                    go_wp2_with fail
                    go_meet
                    exact ⟨by rw [HV.out]; rfl, rfl⟩
                  · have hv : amtI L j = j := if_neg hs
                    have d2 : decide (0 < L.s.length) = true := decide_eq_true (List.length_pos_iff.2 hs)
                    rw [d2]
                    have HV := Lib.hid hv
                    clear hs hv d2
                    go_wp2_with fail
                    go_meet
                    exact ⟨by rw [HV.out], rfl⟩
                case rest =>
                  obtain ⟨rfl, rfl⟩ := hcut
                  obtain ⟨q, hq⟩ : ∃ q, amtI L j = q := ⟨_, rfl⟩
                  rw [hq] at HROW ⊢
                  generalize rowA A j M = T at *
                  have hql : q < L.e.length := HROW.out.2.2.2
                  obtain ⟨bl, ol, cc2, e1, hcq⟩ := (HLS.out _ hC).2.1.at hql
                  injection e1 with e1 e2 e3
                  clear e2 e3
                  subst e1
                  have hgd : L.e.getD q 0 = L.e[q] := by rw [List.getD, List.getElem?_eq_getElem hql]; rfl
                  have hql' : (q : Int) < (L.e.length : Int) := by omega
                  have hq0 : (0 : Int) ≤ (q : Int) := by omega
                  generalize L.e[q] = xx at *
                  rw [hgd] at HROW
                  obtain ⟨C, hCq⟩ : ∃ C : Ar, (⟨A.k, [(M : Int)], rowL B.e j M⟩ : Ar) = C := ⟨_, rfl⟩
                  obtain ⟨D, hDq⟩ : ∃ D : Ar, (⟨A.k, [(M : Int)], rowL R.e j M⟩ : Ar) = D := ⟨_, rfl⟩
                  rw [hCq, hDq] at HROW
                  have HCQ := Lib.hid hCq
                  have HDQ := Lib.hid hDq
                  have HR2 := Lib.hid (show ∀ w' u v, Ara w' u ⟨1, [], [xx]⟩ → Ara w' v T → Calls Try.prog 30 #[u, v] w' (GaveAE w' C 0) from fun w' u v h1 h2 => by have h := trotC xx u v T w' h1 h2 HROW.out.1; rw [HROW.out.2.1] at h; exact h)
                  clear hq hql hgd hCq hDq y0 y1 y2 y3 p1 k2 r2
                  go_upto_region 16 with (fail)
                  obtain ⟨sa, cs, sc, cb, ⟨t0, t1, t2⟩, hb1⟩ := id hb12
                  go_cut [14, 15] (fun s4 s5 wx => ∃ x, s4 = .pointer (some ⟨x, 0, none⟩) ∧ s5 = .int .i64 0 ∧ BoxA wx x C ∧ Chg (fun _ => False) wc wx)
                  case first =>
                    have KP := Lib.hid (show ∀ w', Chg (fun _ => False) wc w' → (Chg (fun _ => False) wc w' ∧ w'.cell? ⟨x12, 0, none⟩ = some (.int .i64 T.k) ∧ w'.cell? ⟨x12, 1, none⟩ = some (.slice sa T.s.length cs) ∧ w'.cell? ⟨x12, 2, none⟩ = some (.slice sc T.e.length cb) ∧ w'.cell? ⟨x2 + 1, 2, none⟩ = some (.slice (some ⟨bl, ol, none⟩) L.e.length cq) ∧ w'.cell? ⟨bl, ol + q, none⟩ = some (.int .i64 xx)) from fun w' h => ⟨h, h.cell t0 id, h.cell t1 id, h.cell t2 id, h.cell p2 id, h.cell hcq id⟩)
                    have HA := Lib.hid (show ∀ w', Chg (fun _ => False) wc w' → Ara w' (.agg #[.int .i64 T.k, .slice sa T.s.length cs, .slice sc T.e.length cb]) T from fun w' h => hb1.fr h)
                    go_region_held3 (fun w' => Chg (fun _ => False) wc w' ∧ w'.cell? ⟨x12, 0, none⟩ = some (.int .i64 T.k) ∧ w'.cell? ⟨x12, 1, none⟩ = some (.slice sa T.s.length cs) ∧ w'.cell? ⟨x12, 2, none⟩ = some (.slice sc T.e.length cb) ∧ w'.cell? ⟨x2 + 1, 2, none⟩ = some (.slice (some ⟨bl, ol, none⟩) L.e.length cq) ∧ w'.cell? ⟨bl, ol + q, none⟩ = some (.int .i64 xx)) ((refine KP.out _ ?_; repeat (first | (with_reducible exact Chg.refl _ _) | (with_reducible assumption) | (with_reducible refine chg_drew' ?_) | (with_reducible refine chg_alloc' ?_) | (with_reducible refine Chg.tr ?_ hC6) | (with_reducible refine Chg.tr ?_ hC5) | (with_reducible refine Chg.setCell ?_ (.inr hs5) _) | (refine Chg.setCell ?_ (.inr (by simp only []; omega)) _)))) (first
                      | (go_at_call 31
                         (with_reducible refine (ascalar_any xx _).mono ?_)
                         rintro e9 w5 ⟨v5, rfl, ho5, hC5⟩
                         obtain ⟨a5, c5, a6, c6, rfl, _, _⟩ := ara_new ho5
                         simp only [List.length_cons, List.length_nil, Nat.reduceAdd] at ho5 ⊢
                         have hs5 : wc.heap.size ≤ w5.heap.size := (by have := hC5.size; simp at this; omega)
                         (first
                          | have hB5 := (Bx.new wc (.int .i64 0) (.slice none 0 0) (.slice none 0 0) 25).fr (((Chg.refl (fun _ => False) _).drew).tr hC5)
                          | skip))
                      | (go_at_call 30
                         with_reducible refine (HR2.out _ _ _ ?_ ?_).mono ?_
                         · first
                           | exact ho5.ara.fr (Chg.refl _ _)
                           | exact ho5.ara.fr ((Chg.refl _ _).drew)
                           | exact ho5.ara.fr ((Chg.refl _ _).alloc _)
                           | exact ho5.ara.fr (((Chg.refl _ _).alloc _).drew)
                         · refine HA.out _ ?_
                           repeat (first | (with_reducible exact Chg.refl _ _) | assumption | (with_reducible refine chg_drew' ?_) | (with_reducible refine chg_alloc' ?_) | (with_reducible refine Chg.tr ?_ hC5))
                         rintro e9 w6 ⟨v6, rfl, ho6, hC6⟩
                         obtain ⟨a7, c7, a8, c8, rfl, _, _⟩ := ara_new ho6
                         (first
                          | (have hB6 := hB5.fr hC6
                             have hl6 := Lib.hid ((hB5.lt : wc.heap.size < _))
                             obtain ⟨z0, z1, z2, f0, f1, f2⟩ := id hB6)
                          | (have hB6 := (Bx.new w5 (.int .i64 0) (.slice none 0 0) (.slice none 0 0) 25).fr hC6
                             have hl6 := Lib.hid (((Bx.new w5 (.int .i64 0) (.slice none 0 0) (.slice none 0 0) 25).lt : w5.heap.size < _))
                             obtain ⟨z0, z1, z2, f0, f1, f2⟩ := id hB6)
                          | skip)))
                    all_goals
                      rename_i hHd
                      go_wp2_with fail
                      go_meet
                      refine ⟨_, rfl, rfl, ?_, hHd.1⟩
                      first
                      | exact BoxA.new (A := C) 25 ho6.ara
                      | exact BoxA.set (A := C) hB6 ho6 hl6.out
                  case rest =>
                    obtain ⟨x14, rfl, rfl, hbC, hCc⟩ := hcut
                    replace hC := HC0.out.tr hCc
                    replace HC0 := Lib.hid hC
                    replace hb12 := hb12.fr hCc
                    replace HX := Lib.hid (show ∀ w', Chg (fun _ => False) wc w' → Ls w' (.slice bx M dx) (rowL B.e j M) ∧ Ls w' (.slice rx M ex) (rowL R.e j M) from fun w' h => HX.out w' (hCc.tr h))
                    clear t0 t1 t2 hb1 p2 hcq HR2 hCc hql' hq0
                    obtain ⟨sa, cs, sc, cb, ⟨t0, t1, t2⟩, hb1⟩ := id hb12
                    have h1 := trevC _ T _ hb1 HROW.out.1
                    rw [HROW.out.2.2.1] at h1
                    go_wp2_with fail
                    refine h1.mono ?_
                    clear h1 t0 t1 t2 hb1 hb12
                    rintro e9 z4 ⟨v9, rfl, ho9, hC9⟩
                    obtain ⟨a9, c9, b9, d9, rfl, _, _⟩ := ara_new ho9
                    have hbD := BoxA.new (A := D) 25 ho9.ara
                    have hC8 := hC9.alloc (.cells #[.int .i64 D.k, .slice a9 D.s.length c9, .slice b9 D.e.length d9] 25)
                    replace HC0 := Lib.hid (HC0.out.tr hC8)
                    replace hbC := hbC.fr hC8
                    replace HX := Lib.hid (show ∀ w', Chg (fun _ => False) _ w' → Ls w' (.slice bx M dx) (rowL B.e j M) ∧ Ls w' (.slice rx M ex) (rowL R.e j M) from fun w' h => HX.out w' (hC8.tr h))
                    obtain ⟨x16, hx⟩ : ∃ x, z4.heap.size = x := ⟨_, rfl⟩
                    rw [hx] at hbD
                    clear hC9 ho9 hC hC8
                    go_upto_region 18 with (fail)
                    clear hx
                    generalize z4.alloc (.cells #[.int .i64 D.k, .slice a9 D.s.length c9, .slice b9 D.e.length d9] 25) = z5 at *
                    obtain ⟨⟨y0, y1, y2, y3⟩, ⟨p1, p2⟩, k2, r2⟩ := HF.out _ HC0.out
                    obtain ⟨sa, cs, sc, cb, ⟨t0, t1, t2⟩, hb1⟩ := id hbC
                    obtain ⟨na, ns, nc, nb, ⟨m0, m1, m2⟩, hb2⟩ := id hbD
                    have HS1 := Lib.hid (show ∀ w' v, Chg (fun _ => False) z5 w' → Ara w' v ⟨A.k, [(M : Int)], rowL B.e j M⟩ → Calls Try.prog 32 #[.agg #[.int .i64 C.k, .slice sa C.s.length cs, .slice sc C.e.length cb], v] w' (GaveBo w' true) from fun w' v h hv => by
                      have h2 := r11same_any _ _ C ⟨A.k, [(M : Int)], rowL B.e j M⟩ w' (hb1.fr h) hv (by rw [← HCQ.out]; show (rowL B.e j M).length ≤ 1000000; rw [HRL.out.2.1]; omega) (by rw [← HCQ.out]; simp)
                      rw [sameA_iff.2 HCQ.out.symm] at h2
                      exact h2)
                    have HS2 := Lib.hid (show ∀ w' v, Chg (fun _ => False) z5 w' → Ara w' v ⟨A.k, [(M : Int)], rowL R.e j M⟩ → Calls Try.prog 32 #[.agg #[.int .i64 D.k, .slice na D.s.length ns, .slice nc D.e.length nb], v] w' (GaveBo w' true) from fun w' v h hv => by
                      have h2 := r11same_any _ _ D ⟨A.k, [(M : Int)], rowL R.e j M⟩ w' (hb2.fr h) hv (by rw [← HDQ.out]; show (rowL R.e j M).length ≤ 1000000; rw [HRL.out.2.2]; omega) (by rw [← HDQ.out]; simp)
                      rw [sameA_iff.2 HDQ.out.symm] at h2
                      exact h2)
                    have HO1 := Lib.hid (show ∀ W : World, Chg (fun _ => False) z5 W → Calls Try.prog 33 #[.int .i64 A.k, .slice (some ⟨W.heap.size, 0, none⟩) 1 1, .slice bx M dx] (W.alloc (.cells #[.int .i64 M] 3)) (GaveA (W.alloc (.cells #[.int .i64 M] 3)) ⟨A.k, [(M : Int)], rowL B.e j M⟩) from fun W h => r11of_any _ _ _ _ _ _ (own_lit W 3 [(M : Int)] 1 rfl #[.int .i64 M] rfl (by simp)).ls (HX.out _ (h.alloc _)).1 (by simp) (by rw [HRL.out.2.1]; omega))
                    have HO2 := Lib.hid (show ∀ W : World, Chg (fun _ => False) z5 W → Calls Try.prog 33 #[.int .i64 A.k, .slice (some ⟨W.heap.size, 0, none⟩) 1 1, .slice rx M ex] (W.alloc (.cells #[.int .i64 M] 3)) (GaveA (W.alloc (.cells #[.int .i64 M] 3)) ⟨A.k, [(M : Int)], rowL R.e j M⟩) from fun W h => r11of_any _ _ _ _ _ _ (own_lit W 3 [(M : Int)] 1 rfl #[.int .i64 M] rfl (by simp)).ls (HX.out _ (h.alloc _)).2 (by simp) (by rw [HRL.out.2.2]; omega))
                    have HP1 := Lib.hid (show ∀ W : World, Chg (fun _ => False) z5 W → Calls Try.prog 33 #[.int .i64 A.k, .slice (some ⟨W.heap.size, 0, none⟩) 1 1, .slice bx M dx] ((W.alloc (.cells #[.int .i64 M] 3)).drew) (GaveA ((W.alloc (.cells #[.int .i64 M] 3)).drew) ⟨A.k, [(M : Int)], rowL B.e j M⟩) from fun W h => r11of_any _ _ _ _ _ _ ((own_lit W 3 [(M : Int)] 1 rfl #[.int .i64 M] rfl (by simp)).ls.fr ((Chg.refl _ _).drew)) (HX.out _ ((h.alloc _).drew)).1 (by simp) (by rw [HRL.out.2.1]; omega))
                    have HP2 := Lib.hid (show ∀ W : World, Chg (fun _ => False) z5 W → Calls Try.prog 33 #[.int .i64 A.k, .slice (some ⟨W.heap.size, 0, none⟩) 1 1, .slice rx M ex] ((W.alloc (.cells #[.int .i64 M] 3)).drew) (GaveA ((W.alloc (.cells #[.int .i64 M] 3)).drew) ⟨A.k, [(M : Int)], rowL R.e j M⟩) from fun W h => r11of_any _ _ _ _ _ _ ((own_lit W 3 [(M : Int)] 1 rfl #[.int .i64 M] rfl (by simp)).ls.fr ((Chg.refl _ _).drew)) (HX.out _ ((h.alloc _).drew)).2 (by simp) (by rw [HRL.out.2.2]; omega))
                    have KP := Lib.hid (show ∀ w', Chg (fun _ => False) z5 w' → (Chg (fun _ => False) z5 w' ∧ w'.cell? ⟨x14, 0, none⟩ = some (.int .i64 C.k) ∧ w'.cell? ⟨x14, 1, none⟩ = some (.slice sa C.s.length cs) ∧ w'.cell? ⟨x14, 2, none⟩ = some (.slice sc C.e.length cb) ∧ w'.cell? ⟨x16, 0, none⟩ = some (.int .i64 D.k) ∧ w'.cell? ⟨x16, 1, none⟩ = some (.slice na D.s.length ns) ∧ w'.cell? ⟨x16, 2, none⟩ = some (.slice nc D.e.length nb) ∧ w'.cell? ⟨x2, 0, none⟩ = some (.int .i64 A.k) ∧ w'.cell? ⟨x6, 2, none⟩ = some (.slice kb B.e.length kd) ∧ w'.cell? ⟨x9, 2, none⟩ = some (.slice rb R.e.length rd)) from fun w' h => ⟨h, h.cell t0 id, h.cell t1 id, h.cell t2 id, h.cell m0 id, h.cell m1 id, h.cell m2 id, h.cell y0 id, h.cell k2 id, h.cell r2 id⟩)
                    clear hbC hbD y1 y3 p1 p2 y2
                    go_region_held3 (fun w' => (Chg (fun _ => False) z5 w' ∧ w'.cell? ⟨x14, 0, none⟩ = some (.int .i64 C.k) ∧ w'.cell? ⟨x14, 1, none⟩ = some (.slice sa C.s.length cs) ∧ w'.cell? ⟨x14, 2, none⟩ = some (.slice sc C.e.length cb) ∧ w'.cell? ⟨x16, 0, none⟩ = some (.int .i64 D.k) ∧ w'.cell? ⟨x16, 1, none⟩ = some (.slice na D.s.length ns) ∧ w'.cell? ⟨x16, 2, none⟩ = some (.slice nc D.e.length nb) ∧ w'.cell? ⟨x2, 0, none⟩ = some (.int .i64 A.k) ∧ w'.cell? ⟨x6, 2, none⟩ = some (.slice kb B.e.length kd) ∧ w'.cell? ⟨x9, 2, none⟩ = some (.slice rb R.e.length rd))) ((refine KP.out _ ?_; repeat (first | (with_reducible exact Chg.refl _ _) | (with_reducible assumption) | (with_reducible refine chg_drew' ?_) | (with_reducible refine chg_alloc' ?_) | (with_reducible refine Chg.tr ?_ hq4) | (with_reducible refine Chg.tr ?_ hq3) | (with_reducible refine Chg.tr ?_ hq2) | (with_reducible refine Chg.tr ?_ hq1)))) (first
                      | (go_at_call 33
                         (first | (with_reducible refine (HP1.out _ ?_).mono ?_) | (with_reducible refine (HO1.out _ ?_).mono ?_))
                         · repeat (first | (with_reducible exact Chg.refl _ _) | (with_reducible assumption) | (with_reducible refine chg_drew' ?_) | (with_reducible refine chg_alloc' ?_))
                         rintro e9 q1 ⟨u1, rfl, hu1, hq1⟩
                         have hu1a := Lib.hid hu1.ara)
                      | (go_at_call 32
                         with_reducible refine (HS1.out _ _ ?_ ?_).mono ?_
                         · repeat (first | (with_reducible exact Chg.refl _ _) | (with_reducible assumption) | (with_reducible refine chg_drew' ?_) | (with_reducible refine chg_alloc' ?_) | (with_reducible refine Chg.tr ?_ hq1))
                         · first | exact hu1a.out | exact hu1a.out.fr ((Chg.refl _ _).drew)
                         rintro e9 q2 ⟨rfl, hq2⟩)
                      | (go_at_call 33
                         (first | (with_reducible refine (HP2.out _ ?_).mono ?_) | (with_reducible refine (HO2.out _ ?_).mono ?_))
                         · repeat (first | (with_reducible exact Chg.refl _ _) | (with_reducible assumption) | (with_reducible refine chg_drew' ?_) | (with_reducible refine chg_alloc' ?_) | (with_reducible refine Chg.tr ?_ hq2) | (with_reducible refine Chg.tr ?_ hq1))
                         rintro e9 q3 ⟨u3, rfl, hu3, hq3⟩
                         have hu3a := Lib.hid hu3.ara)
                      | (go_at_call 32
                         with_reducible refine (HS2.out _ _ ?_ ?_).mono ?_
                         · repeat (first | (with_reducible exact Chg.refl _ _) | (with_reducible assumption) | (with_reducible refine chg_drew' ?_) | (with_reducible refine chg_alloc' ?_) | (with_reducible refine Chg.tr ?_ hq3) | (with_reducible refine Chg.tr ?_ hq2) | (with_reducible refine Chg.tr ?_ hq1))
                         · first | exact hu3a.out | exact hu3a.out.fr ((Chg.refl _ _).drew)
                         rintro e9 q4 ⟨rfl, hq4⟩))
                    all_goals
                      rename_i hHd
                      have hCend := HC0.out.tr hHd.1
                      clear hHd t0 t1 t2 m0 m1 m2 hb1 hb2 y0 k2 r2
                      go_wp2
                      go_roundw
                      case rel => exact ⟨j + 1, HLT.out, by go_num, hCend⟩
                      case measure => exact fit_meas j H HLT.out
            · obtain rfl : j = H := by omega
              go_wp2
              go_ret
              exact ⟨rfl, HC.out.tr hC⟩
        · have hb := (rotE_cases L A.s)
          rw [HE.out] at hb
          replace hb := Lib.hid (hb.resolve_left h0)
          clear h0 hbA hbL hbB
          rcases hb.out with rfl | rfl | rfl | rfl
          all_goals
            go_wp2
            go_ret
            exact ⟨rfl, HC.out⟩
      · have d2 : ((A.s.length : Int) != 2) = true := bne_iff_ne.2 (by omega)
        clear h2 hbA hbL
        go_wp2_with fail
        refine hck.mono ?_
        clear hck
        rintro e9 w3 ⟨rfl, hC3⟩
        have y1' := hC3.cell y1 id
        go_wp2
        go_ret
        exact ⟨rfl, HC.out.tr hC3⟩
end Go.Proofs.Ytmmbdhfljabefaa
