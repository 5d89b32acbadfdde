/- The document's functions of two numbers: quotients, rests. -/
import Derived.Test.YtjmlekdgipinfaaMp30
import Derived.Deep.RegionHeld3
namespace Go.Proofs.Ytjmlekdgipinfaa
open Go.RowKit Go.Shelf
theorem quo_fdiv {x y : Int} {bx by' : Bool} {mx my : Nat} (h1 : sgn bx mx = x) (h2 : sgn by' my = y) (h3 : decide (x < 0) = bx) (h4 : decide (y < 0) = by') (h0 : y ≠ 0) : quoZ bx by' mx my = x.fdiv y := by
  rw [fdiv_sgn x y h0, h3, h4, ← h1, ← h2, sgn_abs2, sgn_abs2]
  rfl
theorem rtwo_40 (x y : Int) (hx : In x) (hy : In y) (w : World) (e0 : (y == 0) = true) : Calls Try.prog 66 #[.int .i64 4, .int .i64 x, .int .i64 y] w (GaveP w 0 8) := by
  have HX : ∀ w', Calls Try.prog 102 #[.int .i64 x] w' (GaveBg w' (decide (x < 0), x.natAbs)) := fun w' => r12of_any x hx w'
  have HY : ∀ w', Calls Try.prog 102 #[.int .i64 y] w' (GaveBg w' (decide (y < 0), y.natAbs)) := fun w' => r12of_any y hy w'
  have HSX := Lib.hid (show sgn (decide (x < 0)) x.natAbs = x from sgn_abs x)
  have HSY := Lib.hid (show sgn (decide (y < 0)) y.natAbs = y from sgn_abs y)
  have HMX := Lib.hid (show x.natAbs ≤ 9223372036854775808 by unfold In at hx; omega)
  have HMY := Lib.hid (show y.natAbs ≤ 9223372036854775808 by unfold In at hy; omega)
  unfold GaveBg at HX HY
  obtain ⟨bx, hbx⟩ : ∃ b, decide (x < 0) = b := ⟨_, rfl⟩
  obtain ⟨by', hby⟩ : ∃ b, decide (y < 0) = b := ⟨_, rfl⟩
  obtain ⟨mx, hmx⟩ : ∃ b, x.natAbs = b := ⟨_, rfl⟩
  obtain ⟨my, hmy⟩ : ∃ b, y.natAbs = b := ⟨_, rfl⟩
  rw [hbx, hmx] at HX HSX
  rw [hby, hmy] at HY HSY
  rw [hmx] at HMX
  rw [hmy] at HMY
  have hbx' := hbx
  have hby' := hby
  have hmx' := hmx
  have hmy' := hmy
  clear hx hy hbx hby hmx hmy
  clear hbx' hby' hmx' hmy'
  go_enter Try.func66, Try.ntmps66
  go_wp2_with fail
  refine (HX _).mono ?_
  clear HX
  rintro e9 w1 ⟨v1, rfl, hv1, hC1⟩
  obtain ⟨vs, rfl, hl1⟩ := hv1
  obtain ⟨xa, xc, rfl⟩ := hl1.form
  have HB1 := Lib.hid (BoxB.new (b := bx) hl1 124)
  have HC1 := Lib.hid (hC1.tr ((Chg.refl (fun _ => False) w1).alloc (.cells #[.bool bx, .slice xa (dg mx).length xc] 124)))
  clear hl1 hC1
  go_wp2_with fail
  refine (HY _).mono ?_
  clear HY
  rintro e9 w2 ⟨v2, rfl, hv2, hC2⟩
  obtain ⟨vs, rfl, hl2⟩ := hv2
  obtain ⟨ya, yc, rfl⟩ := hl2.form
  have HB2 := Lib.hid (BoxB.new (b := by') hl2 124)
  have HB1 := Lib.hid ((HB1.out.fr hC2).fr ((Chg.refl (fun _ => False) w2).alloc (.cells #[.bool by', .slice ya (dg my).length yc] 124)))
  have HC2 := Lib.hid ((HC1.out.tr hC2).tr ((Chg.refl (fun _ => False) w2).alloc (.cells #[.bool by', .slice ya (dg my).length yc] 124)))
  have x0 := HB1.out.c0
  have x1 := HB1.out.c1
  have y0 := HB2.out.c0
  have y1 := HB2.out.c1
  clear hl2 hC2 HC1
  go_wp2
  go_ret2
  exact ⟨rfl, HC2.out⟩
set_option maxHeartbeats 4000000 in
theorem rtwo_4 (x y : Int) (hx : In x) (hy : In y) (h0 : y ≠ 0) (w : World) : Calls Try.prog 66 #[.int .i64 4, .int .i64 x, .int .i64 y] w (GaveP w (fitN (x.fdiv y)) (fitE (x.fdiv y))) := by
  have e0 : (y == 0) = false := beq_eq_false_iff_ne.2 h0
  have HQZ := Lib.hid (quo_fdiv (sgn_abs x) (sgn_abs y) rfl rfl h0)
  have HM0 := Lib.hid (show 0 < y.natAbs by omega)
  clear h0
  have HX : ∀ w', Calls Try.prog 102 #[.int .i64 x] w' (GaveBg w' (decide (x < 0), x.natAbs)) := fun w' => r12of_any x hx w'
  have HY : ∀ w', Calls Try.prog 102 #[.int .i64 y] w' (GaveBg w' (decide (y < 0), y.natAbs)) := fun w' => r12of_any y hy w'
  have HSX := Lib.hid (show sgn (decide (x < 0)) x.natAbs = x from sgn_abs x)
  have HSY := Lib.hid (show sgn (decide (y < 0)) y.natAbs = y from sgn_abs y)
  have HMX := Lib.hid (show x.natAbs ≤ 9223372036854775808 by unfold In at hx; omega)
  have HMY := Lib.hid (show y.natAbs ≤ 9223372036854775808 by unfold In at hy; omega)
  unfold GaveBg at HX HY
  obtain ⟨bx, hbx⟩ : ∃ b, decide (x < 0) = b := ⟨_, rfl⟩
  obtain ⟨by', hby⟩ : ∃ b, decide (y < 0) = b := ⟨_, rfl⟩
  obtain ⟨mx, hmx⟩ : ∃ b, x.natAbs = b := ⟨_, rfl⟩
  obtain ⟨my, hmy⟩ : ∃ b, y.natAbs = b := ⟨_, rfl⟩
  rw [hbx, hmx] at HX HSX
  rw [hby, hmy] at HY HSY
  rw [hmx] at HMX
  rw [hmy] at HMY
  have hbx' := hbx
  have hby' := hby
  have hmx' := hmx
  have hmy' := hmy
  clear hx hy hbx hby hmx hmy
  rw [hbx', hby', hmx', hmy'] at HQZ
  rw [hmy'] at HM0
  clear hbx' hby' hmx' hmy'
  go_enter Try.func66, Try.ntmps66
  go_wp2_with fail
  refine (HX _).mono ?_
  clear HX
  rintro e9 w1 ⟨v1, rfl, hv1, hC1⟩
  obtain ⟨vs, rfl, hl1⟩ := hv1
  obtain ⟨xa, xc, rfl⟩ := hl1.form
  have HB1 := Lib.hid (BoxB.new (b := bx) hl1 124)
  have HC1 := Lib.hid (hC1.tr ((Chg.refl (fun _ => False) w1).alloc (.cells #[.bool bx, .slice xa (dg mx).length xc] 124)))
  clear hl1 hC1
  go_wp2_with fail
  refine (HY _).mono ?_
  clear HY
  rintro e9 w2 ⟨v2, rfl, hv2, hC2⟩
  obtain ⟨vs, rfl, hl2⟩ := hv2
  obtain ⟨ya, yc, rfl⟩ := hl2.form
  have HB2 := Lib.hid (BoxB.new (b := by') hl2 124)
  have HB1 := Lib.hid ((HB1.out.fr hC2).fr ((Chg.refl (fun _ => False) w2).alloc (.cells #[.bool by', .slice ya (dg my).length yc] 124)))
  have HC2 := Lib.hid ((HC1.out.tr hC2).tr ((Chg.refl (fun _ => False) w2).alloc (.cells #[.bool by', .slice ya (dg my).length yc] 124)))
  have x0 := HB1.out.c0
  have x1 := HB1.out.c1
  have y0 := HB2.out.c0
  have y1 := HB2.out.c1
  clear hl2 hC2 HC1
  have hop := r12quot_any _ _ bx by' mx my _ HB1.out.big HB2.out.big HMX.out HMY.out HM0.out
  unfold GaveQu GaveBg at hop
  go_wp2_with fail
  refine hop.mono ?_
  clear hop x0 x1 y0 y1
  rintro e9 w3 ⟨p, hp, hpb, v3, rfl, hv3, hC3⟩
  have hft := r12fit_any _ _ _ w3 hv3 (Nat.le_trans (dg_small5 (by have := HMX.out; omega)) (by decide))
  rw [hp, HQZ.out] at hft
  obtain ⟨vs, rfl, hl3⟩ := hv3
  obtain ⟨za, zc, rfl⟩ := hl3.form
  clear hl3 hp hpb
  go_wp2_with fail
  refine hft.mono ?_
  clear hft
  rintro e9 w4 ⟨rfl, hC4⟩
  have HCZ := Lib.hid ((HC2.out.tr hC3).tr hC4)
  clear hC3 hC4
  go_wp2
  go_ret2
  exact ⟨rfl, HCZ.out⟩
theorem rtwo_50 (x y : Int) (hx : In x) (hy : In y) (w : World) (e0 : (x == 0) = true) : Calls Try.prog 66 #[.int .i64 5, .int .i64 x, .int .i64 y] w (GaveP w y 0) := by
  have HX : ∀ w', Calls Try.prog 102 #[.int .i64 x] w' (GaveBg w' (decide (x < 0), x.natAbs)) := fun w' => r12of_any x hx w'
  have HY : ∀ w', Calls Try.prog 102 #[.int .i64 y] w' (GaveBg w' (decide (y < 0), y.natAbs)) := fun w' => r12of_any y hy w'
  have HSX := Lib.hid (show sgn (decide (x < 0)) x.natAbs = x from sgn_abs x)
  have HSY := Lib.hid (show sgn (decide (y < 0)) y.natAbs = y from sgn_abs y)
  have HMX := Lib.hid (show x.natAbs ≤ 9223372036854775808 by unfold In at hx; omega)
  have HMY := Lib.hid (show y.natAbs ≤ 9223372036854775808 by unfold In at hy; omega)
  unfold GaveBg at HX HY
  obtain ⟨bx, hbx⟩ : ∃ b, decide (x < 0) = b := ⟨_, rfl⟩
  obtain ⟨by', hby⟩ : ∃ b, decide (y < 0) = b := ⟨_, rfl⟩
  obtain ⟨mx, hmx⟩ : ∃ b, x.natAbs = b := ⟨_, rfl⟩
  obtain ⟨my, hmy⟩ : ∃ b, y.natAbs = b := ⟨_, rfl⟩
  rw [hbx, hmx] at HX HSX
  rw [hby, hmy] at HY HSY
  rw [hmx] at HMX
  rw [hmy] at HMY
  have hbx' := hbx
  have hby' := hby
  have hmx' := hmx
  have hmy' := hmy
  clear hx hy hbx hby hmx hmy
  clear hbx' hby' hmx' hmy'
  go_enter Try.func66, Try.ntmps66
  go_wp2_with fail
  refine (HX _).mono ?_
  clear HX
  rintro e9 w1 ⟨v1, rfl, hv1, hC1⟩
  obtain ⟨vs, rfl, hl1⟩ := hv1
  obtain ⟨xa, xc, rfl⟩ := hl1.form
  have HB1 := Lib.hid (BoxB.new (b := bx) hl1 124)
  have HC1 := Lib.hid (hC1.tr ((Chg.refl (fun _ => False) w1).alloc (.cells #[.bool bx, .slice xa (dg mx).length xc] 124)))
  clear hl1 hC1
  go_wp2_with fail
  refine (HY _).mono ?_
  clear HY
  rintro e9 w2 ⟨v2, rfl, hv2, hC2⟩
  obtain ⟨vs, rfl, hl2⟩ := hv2
  obtain ⟨ya, yc, rfl⟩ := hl2.form
  have HB2 := Lib.hid (BoxB.new (b := by') hl2 124)
  have HB1 := Lib.hid ((HB1.out.fr hC2).fr ((Chg.refl (fun _ => False) w2).alloc (.cells #[.bool by', .slice ya (dg my).length yc] 124)))
  have HC2 := Lib.hid ((HC1.out.tr hC2).tr ((Chg.refl (fun _ => False) w2).alloc (.cells #[.bool by', .slice ya (dg my).length yc] 124)))
  have x0 := HB1.out.c0
  have x1 := HB1.out.c1
  have y0 := HB2.out.c0
  have y1 := HB2.out.c1
  clear hl2 hC2 HC1
  go_wp2
  go_ret2
  exact ⟨rfl, HC2.out⟩
set_option maxHeartbeats 8000000 in
theorem rtwo_5 (x y : Int) (hx : In x) (hy : In y) (h0 : x ≠ 0) (w : World) : Calls Try.prog 66 #[.int .i64 5, .int .i64 x, .int .i64 y] w (GaveP w (y.fmod x) 0) := by
  have e0 : (x == 0) = false := beq_eq_false_iff_ne.2 h0
  have HQZ := Lib.hid (quo_fdiv (sgn_abs y) (sgn_abs x) rfl rfl h0)
  have HM0 := Lib.hid (show 0 < x.natAbs by omega)
  have HIN := Lib.hid (fmod_in x y hx h0)
  clear h0
  have HX : ∀ w', Calls Try.prog 102 #[.int .i64 x] w' (GaveBg w' (decide (x < 0), x.natAbs)) := fun w' => r12of_any x hx w'
  have HY : ∀ w', Calls Try.prog 102 #[.int .i64 y] w' (GaveBg w' (decide (y < 0), y.natAbs)) := fun w' => r12of_any y hy w'
  have HSX := Lib.hid (show sgn (decide (x < 0)) x.natAbs = x from sgn_abs x)
  have HSY := Lib.hid (show sgn (decide (y < 0)) y.natAbs = y from sgn_abs y)
  have HMX := Lib.hid (show x.natAbs ≤ 9223372036854775808 by unfold In at hx; omega)
  have HMY := Lib.hid (show y.natAbs ≤ 9223372036854775808 by unfold In at hy; omega)
  unfold GaveBg at HX HY
  obtain ⟨bx, hbx⟩ : ∃ b, decide (x < 0) = b := ⟨_, rfl⟩
  obtain ⟨by', hby⟩ : ∃ b, decide (y < 0) = b := ⟨_, rfl⟩
  obtain ⟨mx, hmx⟩ : ∃ b, x.natAbs = b := ⟨_, rfl⟩
  obtain ⟨my, hmy⟩ : ∃ b, y.natAbs = b := ⟨_, rfl⟩
  rw [hbx, hmx] at HX HSX
  rw [hby, hmy] at HY HSY
  rw [hmx] at HMX
  rw [hmy] at HMY
  have hbx' := hbx
  have hby' := hby
  have hmx' := hmx
  have hmy' := hmy
  clear hx hy hbx hby hmx hmy
  rw [hbx', hby', hmx', hmy'] at HQZ
  rw [hmx'] at HM0
  clear hbx' hby' hmx' hmy'
  go_enter Try.func66, Try.ntmps66
  go_wp2_with fail
  refine (HX _).mono ?_
  clear HX
  rintro e9 w1 ⟨v1, rfl, hv1, hC1⟩
  obtain ⟨vs, rfl, hl1⟩ := hv1
  obtain ⟨xa, xc, rfl⟩ := hl1.form
  have HB1 := Lib.hid (BoxB.new (b := bx) hl1 124)
  have HC1 := Lib.hid (hC1.tr ((Chg.refl (fun _ => False) w1).alloc (.cells #[.bool bx, .slice xa (dg mx).length xc] 124)))
  clear hl1 hC1
  go_wp2_with fail
  refine (HY _).mono ?_
  clear HY
  rintro e9 w2 ⟨v2, rfl, hv2, hC2⟩
  obtain ⟨vs, rfl, hl2⟩ := hv2
  obtain ⟨ya, yc, rfl⟩ := hl2.form
  have HB2 := Lib.hid (BoxB.new (b := by') hl2 124)
  have HB1 := Lib.hid ((HB1.out.fr hC2).fr ((Chg.refl (fun _ => False) w2).alloc (.cells #[.bool by', .slice ya (dg my).length yc] 124)))
  have HC2 := Lib.hid ((HC1.out.tr hC2).tr ((Chg.refl (fun _ => False) w2).alloc (.cells #[.bool by', .slice ya (dg my).length yc] 124)))
  have x0 := HB1.out.c0
  have x1 := HB1.out.c1
  have y0 := HB2.out.c0
  have y1 := HB2.out.c1
  clear hl2 hC2 HC1
  obtain ⟨g1, hg1⟩ : ∃ g, w1.heap.size = g := ⟨_, rfl⟩
  obtain ⟨g2, hg2⟩ : ∃ g, w2.heap.size = g := ⟨_, rfl⟩
  obtain ⟨wb, hwb⟩ : ∃ X, w2.alloc (.cells #[.bool by', .slice ya (dg my).length yc] 124) = X := ⟨_, rfl⟩
  rw [hwb] at HB1 HB2 HC2 x0 x1 y0 y1
  rw [hg1] at HB1 x0 x1
  rw [hg2] at HB2 y0 y1
  have HW := Lib.hid (And.intro hwb (And.intro hg1 hg2))
  clear hwb hg1 hg2
  have HQ := Lib.hid (show ∀ w', Chg (fun _ => False) wb w' → Calls Try.prog 107 #[.agg #[.bool by', .slice ya (dg my).length yc], .agg #[.bool bx, .slice xa (dg mx).length xc]] w' (GaveQu w' by' bx my mx) from fun w' h => r12quot_any _ _ by' bx my mx _ ((HB2.out.fr h).big) ((HB1.out.fr h).big) HMY.out HMX.out HM0.out)
  have HM := Lib.hid (show ∀ w' v b m, Chg (fun _ => False) wb w' → BigV w' v b m → m ≤ my + 1 → Calls Try.prog 106 #[.agg #[.bool bx, .slice xa (dg mx).length xc], v] w' (GaveBg w' (bx != b, mx * m)) from fun w' v b m h hv hb => r12mul_any _ _ bx b mx m w' ((HB1.out.fr h).big) hv (dg_small5 (by have := HMX.out; omega)) (dg_small5 (by have := HMY.out; omega)))
  have HL := Lib.hid (show ∀ w' v b m, Chg (fun _ => False) wb w' → BigV w' v b m → m < 170141183460469231731687303715884105728 → Calls Try.prog 105 #[.agg #[.bool by', .slice ya (dg my).length yc], v] w' (GaveBg w' (addB (by', my) (!b, m))) from fun w' v b m h hv hb => r12less_any _ _ by' b my m w' ((HB2.out.fr h).big) hv (Nat.le_trans (dg_small5 (by have := HMY.out; omega)) (by decide)) (Nat.le_trans (dg_small5 (by omega)) (by decide)))
  have HF := Lib.hid (show ∀ w' v b m, BigV w' v b m → m < 340282366920938463463374607431768211456 → sgn b m = y.fmod x → Calls Try.prog 103 #[v] w' (GaveP w' (y.fmod x) 0) from fun w' v b m hv hb hs => by
    have h := r12fit_any v b m w' hv (Nat.le_trans (dg_small5 hb) (by decide))
    rw [hs, fitN_in HIN.out, fitE_in HIN.out] at h
    exact h)
  have HPB := Lib.hid (show ∀ m, m ≤ my + 1 → mx * m < 170141183460469231731687303715884105728 from fun m hm => Nat.lt_of_le_of_lt (Nat.mul_le_mul HMX.out (Nat.le_trans hm (Nat.add_le_add_right HMY.out 1))) (by decide))
  have HSF := Lib.hid (show ∀ b m, sgn b m = quoZ by' bx my mx → sgn (addB (by', my) (!(bx != b), mx * m)).1 (addB (by', my) (!(bx != b), mx * m)).2 = y.fmod x from fun b m h => by
    rw [addB_sgn, sgn_not, sgn_mul, h, HQZ.out, HSX.out, HSY.out, Int.fmod_def]; omega)
  have HAB := Lib.hid (show ∀ b m, m < 170141183460469231731687303715884105728 → (addB (by', my) (b, m)).2 < 340282366920938463463374607431768211456 from fun b m h => Nat.lt_of_le_of_lt (addB_le _ _) (by have := HMY.out; show my + m < _; omega))
  have KP := Lib.hid (show ∀ w', Chg (fun _ => False) wb w' → (Chg (fun _ => False) wb w' ∧ w'.cell? ⟨g1, 0, none⟩ = some (.bool bx) ∧ w'.cell? ⟨g1, 1, none⟩ = some (.slice xa (dg mx).length xc) ∧ w'.cell? ⟨g2, 0, none⟩ = some (.bool by') ∧ w'.cell? ⟨g2, 1, none⟩ = some (.slice ya (dg my).length yc)) from fun w' h => ⟨h, h.cell HB1.out.c0 id, h.cell HB1.out.c1 id, h.cell HB2.out.c0 id, h.cell HB2.out.c1 id⟩)
  unfold GaveQu GaveBg at HQ
  unfold GaveBg at HM HL
  unfold GaveP at HF
  go_upto_region 17 with (fail)
  rw [HW.out.1, HW.out.2.1, HW.out.2.2]
  clear HW
  go_region_held3 (fun w' => Chg (fun _ => False) wb w' ∧ w'.cell? ⟨g1, 0, none⟩ = some (.bool bx) ∧ w'.cell? ⟨g1, 1, none⟩ = some (.slice xa (dg mx).length xc) ∧ w'.cell? ⟨g2, 0, none⟩ = some (.bool by') ∧ w'.cell? ⟨g2, 1, none⟩ = some (.slice ya (dg my).length yc))
    (first | exact KP.out _ ((Chg.refl _ _).drew) | exact KP.out _ hc1 | exact KP.out _ hc2 | exact KP.out _ hc3 | exact KP.out _ hc4) (first
    | (go_at_call 107; (with_reducible refine (HQ.out _ ((Chg.refl _ _).drew)).mono ?_); rintro e9 w3 ⟨⟨b3, m3⟩, hp3, hpb3, v3, rfl, hv3, hC3⟩; (have hc1 := ((Chg.refl (fun _ => False) wb).drew).tr hC3); (have hv3' := hv3); (obtain ⟨vs3, rfl, hl3⟩ := hv3); (obtain ⟨a3, c3, rfl⟩ := hl3.form))
    | (go_at_call 106; (with_reducible refine (HM.out _ _ _ _ hc1 hv3' hpb3).mono ?_); rintro e9 w4 ⟨v4, rfl, hv4, hC4⟩; (have hc2 := hc1.tr hC4); (have hv4' := hv4); (obtain ⟨vs4, rfl, hl4⟩ := hv4); (obtain ⟨a4, c4, rfl⟩ := hl4.form))
    | (go_at_call 105; (with_reducible refine (HL.out _ _ _ _ hc2 hv4' (HPB.out _ hpb3)).mono ?_); rintro e9 w5 ⟨v5, rfl, hv5, hC5⟩; (have hc3 := hc2.tr hC5); (have hv5' := hv5); (obtain ⟨vs5, rfl, hl5⟩ := hv5); (obtain ⟨a5, c5, rfl⟩ := hl5.form))
    | (go_at_call 103; (with_reducible refine (HF.out _ _ _ _ hv5' (HAB.out _ _ (HPB.out _ hpb3)) (HSF.out _ _ hp3)).mono ?_); rintro e9 w6 ⟨rfl, hC6⟩; (have hc4 := hc3.tr hC6)))
  all_goals
    rename_i hHd
    go_wp2
    go_ret2
    exact ⟨rfl, HC2.out.tr hHd.1⟩
end Go.Proofs.Ytjmlekdgipinfaa
