/- FoldRows: the walk. -/
import Derived.Test.YtjmlekdgipinfaaMr52
namespace Go.Proofs.Ytjmlekdgipinfaa
open Go.RowKit Go.Shelf

set_option maxRecDepth 100000 in
set_option maxHeartbeats 2000000 in
theorem foldRows_walk (f : Int) (u : Value) (A : Ar) (W : World) (_h : (Lit.int .i64 f).wf = true) (h1 : OkArr W u A) : Calls Try.prog 6 #[.int .i64 f, u] W (True_ W) := by
  clear _h
  have hA := h1.1
  have HI := Lib.hid (show ∀ x ∈ A.e, In x from h1.2.2.2)
  clear h1
  obtain ⟨vs, ve, rfl, hs, he⟩ := hA
  obtain ⟨sa, cs, rfl, _⟩ := hs.form
  obtain ⟨ea, ce, rfl, _⟩ := he.form
  have HBA := Lib.hid (Bx1.new (A := A) 25 hs he)
  have HC := Lib.hid ((Chg.refl (fun _ => False) W).alloc (.cells #[.int .i64 A.k, .slice sa A.s.length cs, .slice ea A.e.length ce] 25))
  clear hs he
  obtain ⟨gr, hgr⟩ : ∃ b, grt1 300 A = b := ⟨_, rfl⟩
  have HGR := Lib.hid hgr
  clear hgr
  obtain ⟨v1, hv1⟩ : ∃ v, W.alloc (.cells #[.int .i64 A.k, .slice sa A.s.length cs, .slice ea A.e.length ce] 25) = v := ⟨_, rfl⟩
  rw [hv1] at HBA HC
  have hg1 := great16_one 300 sa ea cs ce v1.heap.size A (v1.alloc (.cells #[.int .i64 A.k, .slice sa A.s.length cs, .slice ea A.e.length ce] 25)) ⟨new_cell _ _ _ rfl, new_cell _ _ _ rfl⟩ gr HGR.out
  unfold SaidB at hg1
  have hCa := (Chg.refl (fun _ => False) v1).alloc (.cells #[.int .i64 A.k, .slice sa A.s.length cs, .slice ea A.e.length ce] 25)
  have HV1 := Lib.hid hv1
  clear hv1
  go_enter Try.func6, Try.ntmps6
  have a0 := HBA.out.a0
  have a1 := HBA.out.a1
  have a2 := HBA.out.a2
  rw [← HV1.out] at a0 a1 a2
  go_upto_region 1 with (fail)
  rw [HV1.out]
  rw [HV1.out] at a0 a1 a2
  go_wp2_with fail
  refine hg1.mono ?_
  clear hg1
  rintro e9 w1 ⟨rfl, e2⟩
  rw [← e2] at hCa
  clear e2
  replace HBA := Lib.hid (HBA.out.fr hCa)
  replace HC := Lib.hid (HC.out.tr hCa)
  clear hCa a0 a1 a2
  cases gr with
  | true =>
    go_wp2
    go_ret
    exact ⟨rfl, HC.out⟩
  | false =>
    have HG := Lib.hid (grt1_not HGR.out)
    have htw := twin_any _ A w1 HBA.out.ara (by have := HG.out; omega) (by have := HG.out; omega)
    unfold GaveA at htw
    have a0 := HBA.out.a0
    have a1 := HBA.out.a1
    have a2 := HBA.out.a2
    go_wp2_with fail
    refine htw.mono ?_
    clear htw
    rintro e9 w2 ⟨vx, rfl, hox, hC2⟩
    obtain ⟨xa, xc, xe, xd, rfl, ho1, ho2⟩ := ara_new hox
    have HBX := Lib.hid (Bx1.new (A := A) 25 ho1.ls ho2.ls)
    replace hC2 := hC2.alloc (.cells #[.int .i64 A.k, .slice xa A.s.length xc, .slice xe A.e.length xd] 25)
    replace HBA := Lib.hid (HBA.out.fr hC2)
    replace HC := Lib.hid (HC.out.tr hC2)
    have HC3 := Lib.hid (Chg.refl (fun _ => False) (w2.alloc (.cells #[.int .i64 A.k, .slice xa A.s.length xc, .slice xe A.e.length xd] 25)))
    have HBA3 := HBA
    have HC30 := HC
    have HBX3 := HBX
    have hrow := row_any f _ A.e _ HBX.out.ls.2 (by have := HG.out; omega) HI.out
    unfold GaveP at hrow
    obtain ⟨⟨P1, P2⟩, hP⟩ : ∃ p, rwP f A.e = p := ⟨_, rfl⟩
    rw [hP] at hrow
    have HP := Lib.hid hP
    clear hC2 hox ho1 ho2 hP a0 a1 a2
    obtain ⟨w3, hw3⟩ : ∃ w, w2.alloc (.cells #[.int .i64 A.k, .slice xa A.s.length xc, .slice xe A.e.length xd] 25) = w := ⟨_, rfl⟩
    obtain ⟨p1, hp1⟩ : ∃ p, w2.heap.size = p := ⟨_, rfl⟩
    have HW3 := Lib.hid hw3
    have HP1 := Lib.hid hp1
    have x0 := HBX.out.a0
    have x1 := HBX.out.a1
    have x2 := HBX.out.a2
    rw [hw3, hp1] at HBX HBX3
    rw [hw3] at HBA HBA3 HC HC30 HC3 hrow
    clear hw3 hp1
    go_wp2_with fail
    rw [HW3.out, HP1.out]
    clear HW3 HP1 x0 x1 x2
    refine hrow.mono ?_
    clear hrow
    rintro e9 w4 ⟨rfl, hC4⟩
    replace HBA := Lib.hid (HBA.out.fr hC4)
    replace HBX := Lib.hid (HBX.out.fr hC4)
    replace HC := Lib.hid (HC.out.tr hC4)
    replace HC3 := Lib.hid (HC3.out.tr hC4)
    clear hC4
    have hrow := r16row_any f _ A.e w4 HBA.out.ls.2 (by have := HG.out; omega) HI.out
    unfold GaveP at hrow
    rw [HP.out] at hrow
    have a0 := HBA.out.a0
    have a1 := HBA.out.a1
    have a2 := HBA.out.a2
    go_wp2_with fail
    refine hrow.mono ?_
    clear hrow a0 a1 a2
    rintro e9 w5 ⟨rfl, hC5⟩
    replace HBA := Lib.hid (HBA.out.fr hC5)
    replace HBX := Lib.hid (HBX.out.fr hC5)
    replace HC := Lib.hid (HC.out.tr hC5)
    replace HC3 := Lib.hid (HC3.out.tr hC5)
    clear hC5
    have hrs := rows_any _ A.s w5 HBX.out.ls.1
    unfold GaveRw at hrs
    obtain ⟨M, hM⟩ : ∃ p, manyN A.s = p := ⟨_, rfl⟩
    obtain ⟨L, hL⟩ : ∃ p, longN A.s = p := ⟨_, rfl⟩
    rw [hM, hL] at hrs
    have HML := Lib.hid (And.intro hM hL)
    clear hM hL
    have x0 := HBX.out.a0
    have x1 := HBX.out.a1
    have x2 := HBX.out.a2
    go_wp2_with fail
    refine hrs.mono ?_
    clear hrs x0 x1 x2
    rintro e9 w6 ⟨rfl, hC6⟩
    replace HBA := Lib.hid (HBA.out.fr hC6)
    replace HBX := Lib.hid (HBX.out.fr hC6)
    replace HC := Lib.hid (HC.out.tr hC6)
    replace HC3 := Lib.hid (HC3.out.tr hC6)
    clear hC6
    have hrs := r16rows_any _ A.s w6 HBA.out.ls.1
    unfold GaveRw at hrs
    rw [HML.out.1, HML.out.2] at hrs
    have a0 := HBA.out.a0
    have a1 := HBA.out.a1
    have a2 := HBA.out.a2
    go_wp2_with fail
    refine hrs.mono ?_
    clear hrs a0 a1 a2
    rintro e9 w7 ⟨rfl, hC7⟩
    replace HBA := Lib.hid (HBA.out.fr hC7)
    replace HBX := Lib.hid (HBX.out.fr hC7)
    replace HC := Lib.hid (HC.out.tr hC7)
    replace HC3 := Lib.hid (HC3.out.tr hC7)
    clear hC7
    have hrd := reduce_any f _ A w7 HBX.out.ara (by have := HG.out; omega) HI.out
    unfold GaveAE at hrd
    obtain ⟨RA, hRA⟩ : ∃ X, redA f A = X := ⟨_, rfl⟩
    obtain ⟨RE, hRE⟩ : ∃ X, redE f A = X := ⟨_, rfl⟩
    rw [hRA, hRE] at hrd
    have HRL := Lib.hid (hRA ▸ red_len f A (by have := HG.out; omega))
    have HRA := Lib.hid (And.intro hRA hRE)
    clear hRA hRE
    have x0 := HBX.out.a0
    have x1 := HBX.out.a1
    have x2 := HBX.out.a2
    go_wp2_with fail
    refine hrd.mono ?_
    clear hrd x0 x1 x2
    rintro e9 w8 ⟨vb, rfl, hob, hC8⟩
    obtain ⟨b1, c1, b2, c2, rfl, ho1, ho2⟩ := ara_new hob
    have HBB := Lib.hid (BxO.new (A := RA) 25 ho1 ho2 hC8.size)
    have H37 := Lib.hid (show w3.heap.size ≤ w7.heap.size from HC3.out.size)
    replace hC8 := hC8.alloc (.cells #[.int .i64 RA.k, .slice b1 RA.s.length c1, .slice b2 RA.e.length c2] 25)
    replace HBA := Lib.hid (HBA.out.fr hC8)
    replace HBX := Lib.hid (HBX.out.fr hC8)
    replace HC := Lib.hid (HC.out.tr hC8)
    replace HC3 := Lib.hid (HC3.out.tr hC8)
    clear hC8 hob ho1 ho2
    have hrd := r16reduce_any f _ A _ HBA.out.ara (by have := HG.out; omega) HI.out
    unfold GaveAE at hrd
    rw [HRA.out.1, HRA.out.2] at hrd
    have a0 := HBA.out.a0
    have a1 := HBA.out.a1
    have a2 := HBA.out.a2
    go_wp2_with fail
    refine hrd.mono ?_
    clear hrd a0 a1 a2
    rintro e9 w9 ⟨vc, rfl, hoc, hC9⟩
    obtain ⟨k1, l1, k2, l2, rfl, ho1, ho2⟩ := ara_new hoc
    replace HBB := Lib.hid (HBB.out.fr hC9)
    replace HBA := Lib.hid (HBA.out.fr hC9)
    replace HBX := Lib.hid (HBX.out.fr hC9)
    replace HC := Lib.hid (HC.out.tr hC9)
    replace HC3 := Lib.hid (HC3.out.tr hC9)
    have HBC := Lib.hid (Bx1.new (A := RA) 25 ho1.ls ho2.ls)
    have hCa := (Chg.refl (fun _ => False) w9).alloc (.cells #[.int .i64 RA.k, .slice k1 RA.s.length l1, .slice k2 RA.e.length l2] 25)
    replace HBB := Lib.hid (HBB.out.fr hCa)
    replace HBA := Lib.hid (HBA.out.fr hCa)
    replace HBX := Lib.hid (HBX.out.fr hCa)
    replace HC := Lib.hid (HC.out.tr hCa)
    replace HC3 := Lib.hid (HC3.out.tr hCa)
    clear hCa hC9 hoc ho1 ho2
    have hsc := scan_any f _ A _ HBX.out.ara (by have := HG.out; omega) HI.out
    unfold GaveAE at hsc
    obtain ⟨SA, hSA⟩ : ∃ X, scnA f A = X := ⟨_, rfl⟩
    obtain ⟨SE, hSE⟩ : ∃ X, scnE f A = X := ⟨_, rfl⟩
    rw [hSA, hSE] at hsc
    have HSL := Lib.hid (hSA ▸ scn_len f A (by have := HG.out; omega) (by have := HG.out; omega))
    have HSA := Lib.hid (And.intro hSA hSE)
    clear hSA hSE
    have x0 := HBX.out.a0
    have x1 := HBX.out.a1
    have x2 := HBX.out.a2
    go_wp2_with fail
    refine hsc.mono ?_
    clear hsc x0 x1 x2
    rintro e9 wd ⟨vd, rfl, hod, hCd⟩
    obtain ⟨d1, f1, d2, f2, rfl, ho1, ho2⟩ := ara_new hod
    have HLD := Lib.hid (show w8.heap.size + 1 ≤ _ from Nat.lt_of_lt_of_le (cell_lt HBB.out.a0) (Nat.le_refl _))
    replace HBB := Lib.hid (HBB.out.fr hCd)
    replace HBC := Lib.hid (HBC.out.fr hCd)
    replace HBA := Lib.hid (HBA.out.fr hCd)
    replace HBX := Lib.hid (HBX.out.fr hCd)
    replace HC := Lib.hid (HC.out.tr hCd)
    replace HC3 := Lib.hid (HC3.out.tr hCd)
    have HBD := Lib.hid (BxO.new (A := SA) 25 ho1 ho2 hCd.size)
    have hCa := (Chg.refl (fun _ => False) wd).alloc (.cells #[.int .i64 SA.k, .slice d1 SA.s.length f1, .slice d2 SA.e.length f2] 25)
    replace HBB := Lib.hid (HBB.out.fr hCa)
    replace HBC := Lib.hid (HBC.out.fr hCa)
    replace HBA := Lib.hid (HBA.out.fr hCa)
    replace HBX := Lib.hid (HBX.out.fr hCa)
    replace HC := Lib.hid (HC.out.tr hCa)
    replace HC3 := Lib.hid (HC3.out.tr hCa)
    clear hCa hCd hod ho1 ho2
    have hsc := r16scan_any f _ A _ HBA.out.ara (by have := HG.out; omega) HI.out
    unfold GaveAE at hsc
    rw [HSA.out.1, HSA.out.2] at hsc
    have a0 := HBA.out.a0
    have a1 := HBA.out.a1
    have a2 := HBA.out.a2
    go_wp2_with fail
    refine hsc.mono ?_
    clear hsc a0 a1 a2
    rintro e9 wu ⟨vu, rfl, hou, hCu⟩
    obtain ⟨m1, n1, m2, n2, rfl, ho1, ho2⟩ := ara_new hou
    replace HBB := Lib.hid (HBB.out.fr hCu)
    replace HBC := Lib.hid (HBC.out.fr hCu)
    replace HBD := Lib.hid (HBD.out.fr hCu)
    replace HBA := Lib.hid (HBA.out.fr hCu)
    replace HBX := Lib.hid (HBX.out.fr hCu)
    replace HC := Lib.hid (HC.out.tr hCu)
    replace HC3 := Lib.hid (HC3.out.tr hCu)
    have HBU := Lib.hid (Bx1.new (A := SA) 25 ho1.ls ho2.ls)
    have hCa := (Chg.refl (fun _ => False) wu).alloc (.cells #[.int .i64 SA.k, .slice m1 SA.s.length n1, .slice m2 SA.e.length n2] 25)
    replace HBB := Lib.hid (HBB.out.fr hCa)
    replace HBC := Lib.hid (HBC.out.fr hCa)
    replace HBD := Lib.hid (HBD.out.fr hCa)
    replace HBA := Lib.hid (HBA.out.fr hCa)
    replace HBX := Lib.hid (HBX.out.fr hCa)
    replace HC := Lib.hid (HC.out.tr hCa)
    replace HC3 := Lib.hid (HC3.out.tr hCa)
    clear hCa hCu hou ho1 ho2
    have hs1 := r11same_any _ _ RA RA _ HBB.out.ara HBC.out.ara HRL.out.2 HRL.out.1
    rw [sameA_iff.2 rfl] at hs1
    unfold GaveBo at hs1
    have b0 := HBB.out.a0
    have b1' := HBB.out.a1
    have b2' := HBB.out.a2
    have c0 := HBC.out.a0
    have c1' := HBC.out.a1
    have c2' := HBC.out.a2
    have e1 : (P1 != P1) = false := by simp
    have e2 : (P2 != P2) = false := by simp
    have e3 : (M != M) = false := by simp
    have e4 : (L != L) = false := by simp
    go_wp2_with fail
    refine hs1.mono ?_
    clear hs1 b0 b1' b2' c0 c1' c2' e1 e2 e3 e4
    rintro e9 wv ⟨rfl, hCv⟩
    replace HBB := Lib.hid (HBB.out.fr hCv)
    replace HBD := Lib.hid (HBD.out.fr hCv)
    replace HBU := Lib.hid (HBU.out.fr hCv)
    replace HBA := Lib.hid (HBA.out.fr hCv)
    replace HBX := Lib.hid (HBX.out.fr hCv)
    replace HC := Lib.hid (HC.out.tr hCv)
    replace HC3 := Lib.hid (HC3.out.tr hCv)
    clear hCv HBC
    have hs1 := r11same_any _ _ SA SA _ HBD.out.ara HBU.out.ara HSL.out.2 HSL.out.1
    rw [sameA_iff.2 rfl] at hs1
    unfold GaveBo at hs1
    have b0 := HBD.out.a0
    have b1' := HBD.out.a1
    have b2' := HBD.out.a2
    have c0 := HBU.out.a0
    have c1' := HBU.out.a1
    have c2' := HBU.out.a2
    have e1 : (RE != RE) = false := by simp
    go_wp2_with fail
    refine hs1.mono ?_
    clear hs1 b0 b1' b2' c0 c1' c2' e1
    rintro e9 ww ⟨rfl, hCw⟩
    replace HBB := Lib.hid (HBB.out.fr hCw)
    replace HBD := Lib.hid (HBD.out.fr hCw)
    replace HBA := Lib.hid (HBA.out.fr hCw)
    replace HBX := Lib.hid (HBX.out.fr hCw)
    replace HC := Lib.hid (HC.out.tr hCw)
    replace HC3 := Lib.hid (HC3.out.tr hCw)
    clear hCw HBU
    have e2 : (SE != SE) = false := by simp
    have hsp := spoil_any RA.k _ _ _ _ _ _ ww HBB.out.os HBB.out.oe HRL.out.1 HRL.out.2
    have b0 := HBB.out.a0
    have b1' := HBB.out.a1
    have b2' := HBB.out.a2
    go_wp2_with fail
    refine hsp.mono ?_
    clear hsp b0 b1' b2' e2
    rintro e9 wx ⟨⟨vv, rfl⟩, hCx⟩
    have HSB := Lib.hid (show ∀ q, ((Value.slice b1 RA.s.length c1).ownBlock = some q ∨ (Value.slice b2 RA.e.length c2).ownBlock = some q) → w7.heap.size ≤ q ∧ q < w8.heap.size from HBB.out.lt)
    replace HBD := Lib.hid (HBD.out.chg hCx (fun q hq => by have := (HSB.out q hq).2; have := HLD.out; omega))
    have hC3' : Chg (fun _ => False) w3 wx := Chg.trans HC3.out hCx (fun _ _ h => h) (fun i hi h => by have := (HSB.out i h).1; have := H37.out; omega)
    have H78 := Lib.hid HBB.out.bp
    clear hCx HBB HBA HBX HC
    have hsp := spoil_any SA.k _ _ _ _ _ _ wx HBD.out.os HBD.out.oe HSL.out.1 HSL.out.2
    have b0 := HBD.out.a0
    have b1' := HBD.out.a1
    have b2' := HBD.out.a2
    go_wp2_with fail
    refine hsp.mono ?_
    clear hsp b0 b1' b2'
    rintro e9 wy ⟨⟨vv, rfl⟩, hCy⟩
    have HC3y := Lib.hid (show Chg (fun _ => False) w3 wy from Chg.trans hC3' hCy (fun _ _ h => h) (fun i hi h => by have := (HBD.out.lt i h).1; have := H37.out; have := HLD.out; have := H78.out; omega))
    clear hCy hC3'
    have HBA := Lib.hid (HBA3.out.fr HC3y.out)
    have HBX := Lib.hid (HBX3.out.fr HC3y.out)
    have hs1 := r11same_any _ _ A A _ HBX.out.ara HBA.out.ara (by have := HG.out; omega) (by have := HG.out; omega)
    rw [sameA_iff.2 rfl] at hs1
    unfold GaveBo at hs1
    have a0 := HBA.out.a0
    have a1 := HBA.out.a1
    have a2 := HBA.out.a2
    have x0 := HBX.out.a0
    have x1 := HBX.out.a1
    have x2 := HBX.out.a2
    go_wp2_with fail
    refine hs1.mono ?_
    clear hs1 a0 a1 a2 x0 x1 x2
    rintro e9 wz ⟨rfl, hCz⟩
    go_wp2
    go_ret
    exact ⟨rfl, (HC30.out.tr HC3y.out).tr hCz⟩
end Go.Proofs.Ytjmlekdgipinfaa
