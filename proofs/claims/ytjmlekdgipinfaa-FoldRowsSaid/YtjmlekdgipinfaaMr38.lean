/- The document's functions of two numbers. -/
import Derived.Test.YtjmlekdgipinfaaMr37
namespace Go.Proofs.Ytjmlekdgipinfaa
open Go.RowKit Go.Shelf

set_option maxHeartbeats 4000000 in
theorem rtwo_1 (x y : Int) (hx : In x) (hy : In y) (w : World) : Calls Try.prog 66 #[.int .i64 1, .int .i64 x, .int .i64 y] w (GaveP w (fitN (x + y)) (fitE (x + y))) := by
  have HX : ∀ w', Calls Try.prog 102 #[.int .i64 x] w' (GaveBg w' (decide (x < 0), x.natAbs)) := fun w' => r12of_any x hx w'
  have HY : ∀ w', Calls Try.prog 102 #[.int .i64 y] w' (GaveBg w' (decide (y < 0), y.natAbs)) := fun w' => r12of_any y hy w'
  have HSX := Lib.hid (show sgn (decide (x < 0)) x.natAbs = x from sgn_abs x)
  have HSY := Lib.hid (show sgn (decide (y < 0)) y.natAbs = y from sgn_abs y)
  have HMX := Lib.hid (show x.natAbs ≤ 9223372036854775808 by unfold In at hx; omega)
  have HMY := Lib.hid (show y.natAbs ≤ 9223372036854775808 by unfold In at hy; omega)
  unfold GaveBg at HX HY
  obtain ⟨bx, hbx⟩ : ∃ b, decide (x < 0) = b := ⟨_, rfl⟩
  obtain ⟨by', hby⟩ : ∃ b, decide (y < 0) = b := ⟨_, rfl⟩
  obtain ⟨mx, hmx⟩ : ∃ b, x.natAbs = b := ⟨_, rfl⟩
  obtain ⟨my, hmy⟩ : ∃ b, y.natAbs = b := ⟨_, rfl⟩
  rw [hbx, hmx] at HX HSX
  rw [hby, hmy] at HY HSY
  rw [hmx] at HMX
  rw [hmy] at HMY
  clear hx hy hbx hby hmx hmy
  go_enter Try.func66, Try.ntmps66
  go_wp2_with fail
  refine (HX _).mono ?_
  clear HX
  rintro e9 w1 ⟨v1, rfl, hv1, hC1⟩
  obtain ⟨vs, rfl, hl1⟩ := hv1
  obtain ⟨xa, xc, rfl⟩ := hl1.form
  have HB1 := Lib.hid (BoxB.new (b := bx) hl1 124)
  have HC1 := Lib.hid (hC1.tr ((Chg.refl (fun _ => False) w1).alloc (.cells #[.bool bx, .slice xa (dg mx).length xc] 124)))
  clear hl1 hC1
  go_wp2_with fail
  refine (HY _).mono ?_
  clear HY
  rintro e9 w2 ⟨v2, rfl, hv2, hC2⟩
  obtain ⟨vs, rfl, hl2⟩ := hv2
  obtain ⟨ya, yc, rfl⟩ := hl2.form
  have HB2 := Lib.hid (BoxB.new (b := by') hl2 124)
  have HB1 := Lib.hid ((HB1.out.fr hC2).fr ((Chg.refl (fun _ => False) w2).alloc (.cells #[.bool by', .slice ya (dg my).length yc] 124)))
  have HC2 := Lib.hid ((HC1.out.tr hC2).tr ((Chg.refl (fun _ => False) w2).alloc (.cells #[.bool by', .slice ya (dg my).length yc] 124)))
  have x0 := HB1.out.c0
  have x1 := HB1.out.c1
  have y0 := HB2.out.c0
  have y1 := HB2.out.c1
  clear hl2 hC2 HC1
  have HP := Lib.hid (show sgn (addB (bx, mx) (by', my)).1 (addB (bx, mx) (by', my)).2 = x + y from by rw [addB_sgn, HSX.out, HSY.out])
  have HPB := Lib.hid (show (addB (bx, mx) (by', my)).2 < 340282366920938463463374607431768211456 from Nat.lt_of_le_of_lt (addB_le _ _) (by have := HMX.out; have := HMY.out; show mx + my < _; omega))
  have hop := r12add_any _ _ bx by' mx my _ HB1.out.big HB2.out.big (Nat.le_trans (dg_small5 (by have := HMX.out; omega)) (by decide)) (Nat.le_trans (dg_small5 (by have := HMY.out; omega)) (by decide))
  unfold GaveBg at hop
  generalize addB (bx, mx) (by', my) = p at *
  go_wp2_with fail
  refine hop.mono ?_
  clear hop x0 x1 y0 y1
  rintro e9 w3 ⟨v3, rfl, hv3, hC3⟩
  have hft := r12fit_any _ _ _ w3 hv3 (Nat.le_trans (dg_small5 HPB.out) (by decide))
  rw [HP.out] at hft
  obtain ⟨vs, rfl, hl3⟩ := hv3
  obtain ⟨za, zc, rfl⟩ := hl3.form
  clear hl3
  go_wp2_with fail
  refine hft.mono ?_
  clear hft
  rintro e9 w4 ⟨rfl, hC4⟩
  have HCZ := Lib.hid ((HC2.out.tr hC3).tr hC4)
  clear hC3 hC4
  go_wp2
  go_ret2
  exact ⟨rfl, HCZ.out⟩
set_option maxHeartbeats 4000000 in
theorem rtwo_2 (x y : Int) (hx : In x) (hy : In y) (w : World) : Calls Try.prog 66 #[.int .i64 2, .int .i64 x, .int .i64 y] w (GaveP w (fitN (x - y)) (fitE (x - y))) := by
  have HX : ∀ w', Calls Try.prog 102 #[.int .i64 x] w' (GaveBg w' (decide (x < 0), x.natAbs)) := fun w' => r12of_any x hx w'
  have HY : ∀ w', Calls Try.prog 102 #[.int .i64 y] w' (GaveBg w' (decide (y < 0), y.natAbs)) := fun w' => r12of_any y hy w'
  have HSX := Lib.hid (show sgn (decide (x < 0)) x.natAbs = x from sgn_abs x)
  have HSY := Lib.hid (show sgn (decide (y < 0)) y.natAbs = y from sgn_abs y)
  have HMX := Lib.hid (show x.natAbs ≤ 9223372036854775808 by unfold In at hx; omega)
  have HMY := Lib.hid (show y.natAbs ≤ 9223372036854775808 by unfold In at hy; omega)
  unfold GaveBg at HX HY
  obtain ⟨bx, hbx⟩ : ∃ b, decide (x < 0) = b := ⟨_, rfl⟩
  obtain ⟨by', hby⟩ : ∃ b, decide (y < 0) = b := ⟨_, rfl⟩
  obtain ⟨mx, hmx⟩ : ∃ b, x.natAbs = b := ⟨_, rfl⟩
  obtain ⟨my, hmy⟩ : ∃ b, y.natAbs = b := ⟨_, rfl⟩
  rw [hbx, hmx] at HX HSX
  rw [hby, hmy] at HY HSY
  rw [hmx] at HMX
  rw [hmy] at HMY
  clear hx hy hbx hby hmx hmy
  go_enter Try.func66, Try.ntmps66
  go_wp2_with fail
  refine (HX _).mono ?_
  clear HX
  rintro e9 w1 ⟨v1, rfl, hv1, hC1⟩
  obtain ⟨vs, rfl, hl1⟩ := hv1
  obtain ⟨xa, xc, rfl⟩ := hl1.form
  have HB1 := Lib.hid (BoxB.new (b := bx) hl1 124)
  have HC1 := Lib.hid (hC1.tr ((Chg.refl (fun _ => False) w1).alloc (.cells #[.bool bx, .slice xa (dg mx).length xc] 124)))
  clear hl1 hC1
  go_wp2_with fail
  refine (HY _).mono ?_
  clear HY
  rintro e9 w2 ⟨v2, rfl, hv2, hC2⟩
  obtain ⟨vs, rfl, hl2⟩ := hv2
  obtain ⟨ya, yc, rfl⟩ := hl2.form
  have HB2 := Lib.hid (BoxB.new (b := by') hl2 124)
  have HB1 := Lib.hid ((HB1.out.fr hC2).fr ((Chg.refl (fun _ => False) w2).alloc (.cells #[.bool by', .slice ya (dg my).length yc] 124)))
  have HC2 := Lib.hid ((HC1.out.tr hC2).tr ((Chg.refl (fun _ => False) w2).alloc (.cells #[.bool by', .slice ya (dg my).length yc] 124)))
  have x0 := HB1.out.c0
  have x1 := HB1.out.c1
  have y0 := HB2.out.c0
  have y1 := HB2.out.c1
  clear hl2 hC2 HC1
  have HP := Lib.hid (show sgn (addB (bx, mx) (!by', my)).1 (addB (bx, mx) (!by', my)).2 = x - y from by rw [addB_sgn, sgn_not, HSX.out, HSY.out]; omega)
  have HPB := Lib.hid (show (addB (bx, mx) (!by', my)).2 < 340282366920938463463374607431768211456 from Nat.lt_of_le_of_lt (addB_le _ _) (by have := HMX.out; have := HMY.out; show mx + my < _; omega))
  have hop := r12less_any _ _ bx by' mx my _ HB1.out.big HB2.out.big (Nat.le_trans (dg_small5 (by have := HMX.out; omega)) (by decide)) (Nat.le_trans (dg_small5 (by have := HMY.out; omega)) (by decide))
  unfold GaveBg at hop
  generalize addB (bx, mx) (!by', my) = p at *
  go_wp2_with fail
  refine hop.mono ?_
  clear hop x0 x1 y0 y1
  rintro e9 w3 ⟨v3, rfl, hv3, hC3⟩
  have hft := r12fit_any _ _ _ w3 hv3 (Nat.le_trans (dg_small5 HPB.out) (by decide))
  rw [HP.out] at hft
  obtain ⟨vs, rfl, hl3⟩ := hv3
  obtain ⟨za, zc, rfl⟩ := hl3.form
  clear hl3
  go_wp2_with fail
  refine hft.mono ?_
  clear hft
  rintro e9 w4 ⟨rfl, hC4⟩
  have HCZ := Lib.hid ((HC2.out.tr hC3).tr hC4)
  clear hC3 hC4
  go_wp2
  go_ret2
  exact ⟨rfl, HCZ.out⟩
set_option maxHeartbeats 4000000 in
theorem rtwo_3 (x y : Int) (hx : In x) (hy : In y) (w : World) : Calls Try.prog 66 #[.int .i64 3, .int .i64 x, .int .i64 y] w (GaveP w (fitN (x * y)) (fitE (x * y))) := by
  have HX : ∀ w', Calls Try.prog 102 #[.int .i64 x] w' (GaveBg w' (decide (x < 0), x.natAbs)) := fun w' => r12of_any x hx w'
  have HY : ∀ w', Calls Try.prog 102 #[.int .i64 y] w' (GaveBg w' (decide (y < 0), y.natAbs)) := fun w' => r12of_any y hy w'
  have HSX := Lib.hid (show sgn (decide (x < 0)) x.natAbs = x from sgn_abs x)
  have HSY := Lib.hid (show sgn (decide (y < 0)) y.natAbs = y from sgn_abs y)
  have HMX := Lib.hid (show x.natAbs ≤ 9223372036854775808 by unfold In at hx; omega)
  have HMY := Lib.hid (show y.natAbs ≤ 9223372036854775808 by unfold In at hy; omega)
  unfold GaveBg at HX HY
  obtain ⟨bx, hbx⟩ : ∃ b, decide (x < 0) = b := ⟨_, rfl⟩
  obtain ⟨by', hby⟩ : ∃ b, decide (y < 0) = b := ⟨_, rfl⟩
  obtain ⟨mx, hmx⟩ : ∃ b, x.natAbs = b := ⟨_, rfl⟩
  obtain ⟨my, hmy⟩ : ∃ b, y.natAbs = b := ⟨_, rfl⟩
  rw [hbx, hmx] at HX HSX
  rw [hby, hmy] at HY HSY
  rw [hmx] at HMX
  rw [hmy] at HMY
  clear hx hy hbx hby hmx hmy
  go_enter Try.func66, Try.ntmps66
  go_wp2_with fail
  refine (HX _).mono ?_
  clear HX
  rintro e9 w1 ⟨v1, rfl, hv1, hC1⟩
  obtain ⟨vs, rfl, hl1⟩ := hv1
  obtain ⟨xa, xc, rfl⟩ := hl1.form
  have HB1 := Lib.hid (BoxB.new (b := bx) hl1 124)
  have HC1 := Lib.hid (hC1.tr ((Chg.refl (fun _ => False) w1).alloc (.cells #[.bool bx, .slice xa (dg mx).length xc] 124)))
  clear hl1 hC1
  go_wp2_with fail
  refine (HY _).mono ?_
  clear HY
  rintro e9 w2 ⟨v2, rfl, hv2, hC2⟩
  obtain ⟨vs, rfl, hl2⟩ := hv2
  obtain ⟨ya, yc, rfl⟩ := hl2.form
  have HB2 := Lib.hid (BoxB.new (b := by') hl2 124)
  have HB1 := Lib.hid ((HB1.out.fr hC2).fr ((Chg.refl (fun _ => False) w2).alloc (.cells #[.bool by', .slice ya (dg my).length yc] 124)))
  have HC2 := Lib.hid ((HC1.out.tr hC2).tr ((Chg.refl (fun _ => False) w2).alloc (.cells #[.bool by', .slice ya (dg my).length yc] 124)))
  have x0 := HB1.out.c0
  have x1 := HB1.out.c1
  have y0 := HB2.out.c0
  have y1 := HB2.out.c1
  clear hl2 hC2 HC1
  have HP := Lib.hid (show sgn ((bx != by', mx * my)).1 ((bx != by', mx * my)).2 = x * y from by rw [sgn_mul, HSX.out, HSY.out])
  have HPB := Lib.hid (show ((bx != by', mx * my)).2 < 340282366920938463463374607431768211456 from Nat.lt_of_le_of_lt (Nat.mul_le_mul HMX.out HMY.out) (by decide))
  have hop := r12mul_any _ _ bx by' mx my _ HB1.out.big HB2.out.big (dg_small5 (by have := HMX.out; omega)) (dg_small5 (by have := HMY.out; omega))
  unfold GaveBg at hop
  generalize (bx != by', mx * my) = p at *
  go_wp2_with fail
  refine hop.mono ?_
  clear hop x0 x1 y0 y1
  rintro e9 w3 ⟨v3, rfl, hv3, hC3⟩
  have hft := r12fit_any _ _ _ w3 hv3 (Nat.le_trans (dg_small5 HPB.out) (by decide))
  rw [HP.out] at hft
  obtain ⟨vs, rfl, hl3⟩ := hv3
  obtain ⟨za, zc, rfl⟩ := hl3.form
  clear hl3
  go_wp2_with fail
  refine hft.mono ?_
  clear hft
  rintro e9 w4 ⟨rfl, hC4⟩
  have HCZ := Lib.hid ((HC2.out.tr hC3).tr hC4)
  clear hC3 hC4
  go_wp2
  go_ret2
  exact ⟨rfl, HCZ.out⟩
end Go.Proofs.Ytjmlekdgipinfaa
