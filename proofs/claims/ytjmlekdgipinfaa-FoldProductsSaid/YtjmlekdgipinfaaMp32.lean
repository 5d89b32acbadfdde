/- The document's functions of two numbers: the rest of them, and all of them in one. -/
import Derived.Test.YtjmlekdgipinfaaMp31
namespace Go.Proofs.Ytjmlekdgipinfaa
open Go.RowKit Go.Shelf
theorem r12flagI (b : Bool) (w : World) : Calls Try.prog 109 #[.bool b] w (fun e w' => e = .returned (.int .i64 (flagI b)) ∧ w' = w) := r12flag_any b w
theorem rtwo_6t (x y : Int) (hx : In x) (hy : In y) (w : World) (hb : decide (x < y) = true) : Calls Try.prog 66 #[.int .i64 6, .int .i64 x, .int .i64 y] w (GaveP w x 0) := by
  have HX : ∀ w', Calls Try.prog 102 #[.int .i64 x] w' (GaveBg w' (decide (x < 0), x.natAbs)) := fun w' => r12of_any x hx w'
  have HY : ∀ w', Calls Try.prog 102 #[.int .i64 y] w' (GaveBg w' (decide (y < 0), y.natAbs)) := fun w' => r12of_any y hy w'
  have HSX := Lib.hid (show sgn (decide (x < 0)) x.natAbs = x from sgn_abs x)
  have HSY := Lib.hid (show sgn (decide (y < 0)) y.natAbs = y from sgn_abs y)
  have HMX := Lib.hid (show x.natAbs ≤ 9223372036854775808 by unfold In at hx; omega)
  have HMY := Lib.hid (show y.natAbs ≤ 9223372036854775808 by unfold In at hy; omega)
  unfold GaveBg at HX HY
  obtain ⟨bx, hbx⟩ : ∃ b, decide (x < 0) = b := ⟨_, rfl⟩
  obtain ⟨by', hby⟩ : ∃ b, decide (y < 0) = b := ⟨_, rfl⟩
  obtain ⟨mx, hmx⟩ : ∃ b, x.natAbs = b := ⟨_, rfl⟩
  obtain ⟨my, hmy⟩ : ∃ b, y.natAbs = b := ⟨_, rfl⟩
  rw [hbx, hmx] at HX HSX
  rw [hby, hmy] at HY HSY
  rw [hmx] at HMX
  rw [hmy] at HMY
  clear hx hy hbx hby hmx hmy
  go_enter Try.func66, Try.ntmps66
  go_wp2_with fail
  refine (HX _).mono ?_
  clear HX
  rintro e9 w1 ⟨v1, rfl, hv1, hC1⟩
  obtain ⟨vs, rfl, hl1⟩ := hv1
  obtain ⟨xa, xc, rfl⟩ := hl1.form
  have HB1 := Lib.hid (BoxB.new (b := bx) hl1 124)
  have HC1 := Lib.hid (hC1.tr ((Chg.refl (fun _ => False) w1).alloc (.cells #[.bool bx, .slice xa (dg mx).length xc] 124)))
  clear hl1 hC1
  go_wp2_with fail
  refine (HY _).mono ?_
  clear HY
  rintro e9 w2 ⟨v2, rfl, hv2, hC2⟩
  obtain ⟨vs, rfl, hl2⟩ := hv2
  obtain ⟨ya, yc, rfl⟩ := hl2.form
  have HB2 := Lib.hid (BoxB.new (b := by') hl2 124)
  have HB1 := Lib.hid ((HB1.out.fr hC2).fr ((Chg.refl (fun _ => False) w2).alloc (.cells #[.bool by', .slice ya (dg my).length yc] 124)))
  have HC2 := Lib.hid ((HC1.out.tr hC2).tr ((Chg.refl (fun _ => False) w2).alloc (.cells #[.bool by', .slice ya (dg my).length yc] 124)))
  have x0 := HB1.out.c0
  have x1 := HB1.out.c1
  have y0 := HB2.out.c0
  have y1 := HB2.out.c1
  clear hl2 hC2 HC1
  go_wp2
  go_ret2
  exact ⟨rfl, HC2.out⟩
theorem rtwo_6f (x y : Int) (hx : In x) (hy : In y) (w : World) (hb : decide (x < y) = false) : Calls Try.prog 66 #[.int .i64 6, .int .i64 x, .int .i64 y] w (GaveP w y 0) := by
  have HX : ∀ w', Calls Try.prog 102 #[.int .i64 x] w' (GaveBg w' (decide (x < 0), x.natAbs)) := fun w' => r12of_any x hx w'
  have HY : ∀ w', Calls Try.prog 102 #[.int .i64 y] w' (GaveBg w' (decide (y < 0), y.natAbs)) := fun w' => r12of_any y hy w'
  have HSX := Lib.hid (show sgn (decide (x < 0)) x.natAbs = x from sgn_abs x)
  have HSY := Lib.hid (show sgn (decide (y < 0)) y.natAbs = y from sgn_abs y)
  have HMX := Lib.hid (show x.natAbs ≤ 9223372036854775808 by unfold In at hx; omega)
  have HMY := Lib.hid (show y.natAbs ≤ 9223372036854775808 by unfold In at hy; omega)
  unfold GaveBg at HX HY
  obtain ⟨bx, hbx⟩ : ∃ b, decide (x < 0) = b := ⟨_, rfl⟩
  obtain ⟨by', hby⟩ : ∃ b, decide (y < 0) = b := ⟨_, rfl⟩
  obtain ⟨mx, hmx⟩ : ∃ b, x.natAbs = b := ⟨_, rfl⟩
  obtain ⟨my, hmy⟩ : ∃ b, y.natAbs = b := ⟨_, rfl⟩
  rw [hbx, hmx] at HX HSX
  rw [hby, hmy] at HY HSY
  rw [hmx] at HMX
  rw [hmy] at HMY
  clear hx hy hbx hby hmx hmy
  go_enter Try.func66, Try.ntmps66
  go_wp2_with fail
  refine (HX _).mono ?_
  clear HX
  rintro e9 w1 ⟨v1, rfl, hv1, hC1⟩
  obtain ⟨vs, rfl, hl1⟩ := hv1
  obtain ⟨xa, xc, rfl⟩ := hl1.form
  have HB1 := Lib.hid (BoxB.new (b := bx) hl1 124)
  have HC1 := Lib.hid (hC1.tr ((Chg.refl (fun _ => False) w1).alloc (.cells #[.bool bx, .slice xa (dg mx).length xc] 124)))
  clear hl1 hC1
  go_wp2_with fail
  refine (HY _).mono ?_
  clear HY
  rintro e9 w2 ⟨v2, rfl, hv2, hC2⟩
  obtain ⟨vs, rfl, hl2⟩ := hv2
  obtain ⟨ya, yc, rfl⟩ := hl2.form
  have HB2 := Lib.hid (BoxB.new (b := by') hl2 124)
  have HB1 := Lib.hid ((HB1.out.fr hC2).fr ((Chg.refl (fun _ => False) w2).alloc (.cells #[.bool by', .slice ya (dg my).length yc] 124)))
  have HC2 := Lib.hid ((HC1.out.tr hC2).tr ((Chg.refl (fun _ => False) w2).alloc (.cells #[.bool by', .slice ya (dg my).length yc] 124)))
  have x0 := HB1.out.c0
  have x1 := HB1.out.c1
  have y0 := HB2.out.c0
  have y1 := HB2.out.c1
  clear hl2 hC2 HC1
  go_wp2
  go_ret2
  exact ⟨rfl, HC2.out⟩
theorem rtwo_7t (x y : Int) (hx : In x) (hy : In y) (w : World) (hb : decide (x > y) = true) : Calls Try.prog 66 #[.int .i64 7, .int .i64 x, .int .i64 y] w (GaveP w x 0) := by
  have HX : ∀ w', Calls Try.prog 102 #[.int .i64 x] w' (GaveBg w' (decide (x < 0), x.natAbs)) := fun w' => r12of_any x hx w'
  have HY : ∀ w', Calls Try.prog 102 #[.int .i64 y] w' (GaveBg w' (decide (y < 0), y.natAbs)) := fun w' => r12of_any y hy w'
  have HSX := Lib.hid (show sgn (decide (x < 0)) x.natAbs = x from sgn_abs x)
  have HSY := Lib.hid (show sgn (decide (y < 0)) y.natAbs = y from sgn_abs y)
  have HMX := Lib.hid (show x.natAbs ≤ 9223372036854775808 by unfold In at hx; omega)
  have HMY := Lib.hid (show y.natAbs ≤ 9223372036854775808 by unfold In at hy; omega)
  unfold GaveBg at HX HY
  obtain ⟨bx, hbx⟩ : ∃ b, decide (x < 0) = b := ⟨_, rfl⟩
  obtain ⟨by', hby⟩ : ∃ b, decide (y < 0) = b := ⟨_, rfl⟩
  obtain ⟨mx, hmx⟩ : ∃ b, x.natAbs = b := ⟨_, rfl⟩
  obtain ⟨my, hmy⟩ : ∃ b, y.natAbs = b := ⟨_, rfl⟩
  rw [hbx, hmx] at HX HSX
  rw [hby, hmy] at HY HSY
  rw [hmx] at HMX
  rw [hmy] at HMY
  clear hx hy hbx hby hmx hmy
  go_enter Try.func66, Try.ntmps66
  go_wp2_with fail
  refine (HX _).mono ?_
  clear HX
  rintro e9 w1 ⟨v1, rfl, hv1, hC1⟩
  obtain ⟨vs, rfl, hl1⟩ := hv1
  obtain ⟨xa, xc, rfl⟩ := hl1.form
  have HB1 := Lib.hid (BoxB.new (b := bx) hl1 124)
  have HC1 := Lib.hid (hC1.tr ((Chg.refl (fun _ => False) w1).alloc (.cells #[.bool bx, .slice xa (dg mx).length xc] 124)))
  clear hl1 hC1
  go_wp2_with fail
  refine (HY _).mono ?_
  clear HY
  rintro e9 w2 ⟨v2, rfl, hv2, hC2⟩
  obtain ⟨vs, rfl, hl2⟩ := hv2
  obtain ⟨ya, yc, rfl⟩ := hl2.form
  have HB2 := Lib.hid (BoxB.new (b := by') hl2 124)
  have HB1 := Lib.hid ((HB1.out.fr hC2).fr ((Chg.refl (fun _ => False) w2).alloc (.cells #[.bool by', .slice ya (dg my).length yc] 124)))
  have HC2 := Lib.hid ((HC1.out.tr hC2).tr ((Chg.refl (fun _ => False) w2).alloc (.cells #[.bool by', .slice ya (dg my).length yc] 124)))
  have x0 := HB1.out.c0
  have x1 := HB1.out.c1
  have y0 := HB2.out.c0
  have y1 := HB2.out.c1
  clear hl2 hC2 HC1
  go_wp2
  go_ret2
  exact ⟨rfl, HC2.out⟩
theorem rtwo_7f (x y : Int) (hx : In x) (hy : In y) (w : World) (hb : decide (x > y) = false) : Calls Try.prog 66 #[.int .i64 7, .int .i64 x, .int .i64 y] w (GaveP w y 0) := by
  have HX : ∀ w', Calls Try.prog 102 #[.int .i64 x] w' (GaveBg w' (decide (x < 0), x.natAbs)) := fun w' => r12of_any x hx w'
  have HY : ∀ w', Calls Try.prog 102 #[.int .i64 y] w' (GaveBg w' (decide (y < 0), y.natAbs)) := fun w' => r12of_any y hy w'
  have HSX := Lib.hid (show sgn (decide (x < 0)) x.natAbs = x from sgn_abs x)
  have HSY := Lib.hid (show sgn (decide (y < 0)) y.natAbs = y from sgn_abs y)
  have HMX := Lib.hid (show x.natAbs ≤ 9223372036854775808 by unfold In at hx; omega)
  have HMY := Lib.hid (show y.natAbs ≤ 9223372036854775808 by unfold In at hy; omega)
  unfold GaveBg at HX HY
  obtain ⟨bx, hbx⟩ : ∃ b, decide (x < 0) = b := ⟨_, rfl⟩
  obtain ⟨by', hby⟩ : ∃ b, decide (y < 0) = b := ⟨_, rfl⟩
  obtain ⟨mx, hmx⟩ : ∃ b, x.natAbs = b := ⟨_, rfl⟩
  obtain ⟨my, hmy⟩ : ∃ b, y.natAbs = b := ⟨_, rfl⟩
  rw [hbx, hmx] at HX HSX
  rw [hby, hmy] at HY HSY
  rw [hmx] at HMX
  rw [hmy] at HMY
  clear hx hy hbx hby hmx hmy
  go_enter Try.func66, Try.ntmps66
  go_wp2_with fail
  refine (HX _).mono ?_
  clear HX
  rintro e9 w1 ⟨v1, rfl, hv1, hC1⟩
  obtain ⟨vs, rfl, hl1⟩ := hv1
  obtain ⟨xa, xc, rfl⟩ := hl1.form
  have HB1 := Lib.hid (BoxB.new (b := bx) hl1 124)
  have HC1 := Lib.hid (hC1.tr ((Chg.refl (fun _ => False) w1).alloc (.cells #[.bool bx, .slice xa (dg mx).length xc] 124)))
  clear hl1 hC1
  go_wp2_with fail
  refine (HY _).mono ?_
  clear HY
  rintro e9 w2 ⟨v2, rfl, hv2, hC2⟩
  obtain ⟨vs, rfl, hl2⟩ := hv2
  obtain ⟨ya, yc, rfl⟩ := hl2.form
  have HB2 := Lib.hid (BoxB.new (b := by') hl2 124)
  have HB1 := Lib.hid ((HB1.out.fr hC2).fr ((Chg.refl (fun _ => False) w2).alloc (.cells #[.bool by', .slice ya (dg my).length yc] 124)))
  have HC2 := Lib.hid ((HC1.out.tr hC2).tr ((Chg.refl (fun _ => False) w2).alloc (.cells #[.bool by', .slice ya (dg my).length yc] 124)))
  have x0 := HB1.out.c0
  have x1 := HB1.out.c1
  have y0 := HB2.out.c0
  have y1 := HB2.out.c1
  clear hl2 hC2 HC1
  go_wp2
  go_ret2
  exact ⟨rfl, HC2.out⟩
theorem rtwo_8 (x y : Int) (hx : In x) (hy : In y) (w : World) : Calls Try.prog 66 #[.int .i64 8, .int .i64 x, .int .i64 y] w (GaveP w (powN x y) (powE x y)) := by
  have hp := fun w' => r12pow_any x y hx hy w'
  unfold GaveP at hp
  have HX : ∀ w', Calls Try.prog 102 #[.int .i64 x] w' (GaveBg w' (decide (x < 0), x.natAbs)) := fun w' => r12of_any x hx w'
  have HY : ∀ w', Calls Try.prog 102 #[.int .i64 y] w' (GaveBg w' (decide (y < 0), y.natAbs)) := fun w' => r12of_any y hy w'
  have HSX := Lib.hid (show sgn (decide (x < 0)) x.natAbs = x from sgn_abs x)
  have HSY := Lib.hid (show sgn (decide (y < 0)) y.natAbs = y from sgn_abs y)
  have HMX := Lib.hid (show x.natAbs ≤ 9223372036854775808 by unfold In at hx; omega)
  have HMY := Lib.hid (show y.natAbs ≤ 9223372036854775808 by unfold In at hy; omega)
  unfold GaveBg at HX HY
  obtain ⟨bx, hbx⟩ : ∃ b, decide (x < 0) = b := ⟨_, rfl⟩
  obtain ⟨by', hby⟩ : ∃ b, decide (y < 0) = b := ⟨_, rfl⟩
  obtain ⟨mx, hmx⟩ : ∃ b, x.natAbs = b := ⟨_, rfl⟩
  obtain ⟨my, hmy⟩ : ∃ b, y.natAbs = b := ⟨_, rfl⟩
  rw [hbx, hmx] at HX HSX
  rw [hby, hmy] at HY HSY
  rw [hmx] at HMX
  rw [hmy] at HMY
  clear hx hy hbx hby hmx hmy
  go_enter Try.func66, Try.ntmps66
  go_wp2_with fail
  refine (HX _).mono ?_
  clear HX
  rintro e9 w1 ⟨v1, rfl, hv1, hC1⟩
  obtain ⟨vs, rfl, hl1⟩ := hv1
  obtain ⟨xa, xc, rfl⟩ := hl1.form
  have HB1 := Lib.hid (BoxB.new (b := bx) hl1 124)
  have HC1 := Lib.hid (hC1.tr ((Chg.refl (fun _ => False) w1).alloc (.cells #[.bool bx, .slice xa (dg mx).length xc] 124)))
  clear hl1 hC1
  go_wp2_with fail
  refine (HY _).mono ?_
  clear HY
  rintro e9 w2 ⟨v2, rfl, hv2, hC2⟩
  obtain ⟨vs, rfl, hl2⟩ := hv2
  obtain ⟨ya, yc, rfl⟩ := hl2.form
  have HB2 := Lib.hid (BoxB.new (b := by') hl2 124)
  have HB1 := Lib.hid ((HB1.out.fr hC2).fr ((Chg.refl (fun _ => False) w2).alloc (.cells #[.bool by', .slice ya (dg my).length yc] 124)))
  have HC2 := Lib.hid ((HC1.out.tr hC2).tr ((Chg.refl (fun _ => False) w2).alloc (.cells #[.bool by', .slice ya (dg my).length yc] 124)))
  have x0 := HB1.out.c0
  have x1 := HB1.out.c1
  have y0 := HB2.out.c0
  have y1 := HB2.out.c1
  clear hl2 hC2 HC1
  go_wp2_with fail
  refine (hp _).mono ?_
  rintro e9 w3 ⟨rfl, hC3⟩
  go_wp2
  go_ret2
  exact ⟨rfl, HC2.out.tr hC3⟩
theorem rtwo_9 (x y : Int) (hx : In x) (hy : In y) (w : World) (b : Bool) (hb : (x == y) = b) : Calls Try.prog 66 #[.int .i64 9, .int .i64 x, .int .i64 y] w (GaveP w (flagI b) 0) := by
  have hf := r12flagI
  have HX : ∀ w', Calls Try.prog 102 #[.int .i64 x] w' (GaveBg w' (decide (x < 0), x.natAbs)) := fun w' => r12of_any x hx w'
  have HY : ∀ w', Calls Try.prog 102 #[.int .i64 y] w' (GaveBg w' (decide (y < 0), y.natAbs)) := fun w' => r12of_any y hy w'
  have HSX := Lib.hid (show sgn (decide (x < 0)) x.natAbs = x from sgn_abs x)
  have HSY := Lib.hid (show sgn (decide (y < 0)) y.natAbs = y from sgn_abs y)
  have HMX := Lib.hid (show x.natAbs ≤ 9223372036854775808 by unfold In at hx; omega)
  have HMY := Lib.hid (show y.natAbs ≤ 9223372036854775808 by unfold In at hy; omega)
  unfold GaveBg at HX HY
  obtain ⟨bx, hbx⟩ : ∃ b, decide (x < 0) = b := ⟨_, rfl⟩
  obtain ⟨by', hby⟩ : ∃ b, decide (y < 0) = b := ⟨_, rfl⟩
  obtain ⟨mx, hmx⟩ : ∃ b, x.natAbs = b := ⟨_, rfl⟩
  obtain ⟨my, hmy⟩ : ∃ b, y.natAbs = b := ⟨_, rfl⟩
  rw [hbx, hmx] at HX HSX
  rw [hby, hmy] at HY HSY
  rw [hmx] at HMX
  rw [hmy] at HMY
  clear hx hy hbx hby hmx hmy
  go_enter Try.func66, Try.ntmps66
  go_wp2_with fail
  refine (HX _).mono ?_
  clear HX
  rintro e9 w1 ⟨v1, rfl, hv1, hC1⟩
  obtain ⟨vs, rfl, hl1⟩ := hv1
  obtain ⟨xa, xc, rfl⟩ := hl1.form
  have HB1 := Lib.hid (BoxB.new (b := bx) hl1 124)
  have HC1 := Lib.hid (hC1.tr ((Chg.refl (fun _ => False) w1).alloc (.cells #[.bool bx, .slice xa (dg mx).length xc] 124)))
  clear hl1 hC1
  go_wp2_with fail
  refine (HY _).mono ?_
  clear HY
  rintro e9 w2 ⟨v2, rfl, hv2, hC2⟩
  obtain ⟨vs, rfl, hl2⟩ := hv2
  obtain ⟨ya, yc, rfl⟩ := hl2.form
  have HB2 := Lib.hid (BoxB.new (b := by') hl2 124)
  have HB1 := Lib.hid ((HB1.out.fr hC2).fr ((Chg.refl (fun _ => False) w2).alloc (.cells #[.bool by', .slice ya (dg my).length yc] 124)))
  have HC2 := Lib.hid ((HC1.out.tr hC2).tr ((Chg.refl (fun _ => False) w2).alloc (.cells #[.bool by', .slice ya (dg my).length yc] 124)))
  have x0 := HB1.out.c0
  have x1 := HB1.out.c1
  have y0 := HB2.out.c0
  have y1 := HB2.out.c1
  clear hl2 hC2 HC1
  go_wp2_with (go_at_call 109; (with_reducible refine (hf _ _).mono ?_); rintro e w' ⟨rfl, rfl⟩)
  go_ret2
  exact ⟨rfl, HC2.out⟩
theorem rtwo_10 (x y : Int) (hx : In x) (hy : In y) (w : World) (b : Bool) (hb : (x != y) = b) : Calls Try.prog 66 #[.int .i64 10, .int .i64 x, .int .i64 y] w (GaveP w (flagI b) 0) := by
  have hf := r12flagI
  have HX : ∀ w', Calls Try.prog 102 #[.int .i64 x] w' (GaveBg w' (decide (x < 0), x.natAbs)) := fun w' => r12of_any x hx w'
  have HY : ∀ w', Calls Try.prog 102 #[.int .i64 y] w' (GaveBg w' (decide (y < 0), y.natAbs)) := fun w' => r12of_any y hy w'
  have HSX := Lib.hid (show sgn (decide (x < 0)) x.natAbs = x from sgn_abs x)
  have HSY := Lib.hid (show sgn (decide (y < 0)) y.natAbs = y from sgn_abs y)
  have HMX := Lib.hid (show x.natAbs ≤ 9223372036854775808 by unfold In at hx; omega)
  have HMY := Lib.hid (show y.natAbs ≤ 9223372036854775808 by unfold In at hy; omega)
  unfold GaveBg at HX HY
  obtain ⟨bx, hbx⟩ : ∃ b, decide (x < 0) = b := ⟨_, rfl⟩
  obtain ⟨by', hby⟩ : ∃ b, decide (y < 0) = b := ⟨_, rfl⟩
  obtain ⟨mx, hmx⟩ : ∃ b, x.natAbs = b := ⟨_, rfl⟩
  obtain ⟨my, hmy⟩ : ∃ b, y.natAbs = b := ⟨_, rfl⟩
  rw [hbx, hmx] at HX HSX
  rw [hby, hmy] at HY HSY
  rw [hmx] at HMX
  rw [hmy] at HMY
  clear hx hy hbx hby hmx hmy
  go_enter Try.func66, Try.ntmps66
  go_wp2_with fail
  refine (HX _).mono ?_
  clear HX
  rintro e9 w1 ⟨v1, rfl, hv1, hC1⟩
  obtain ⟨vs, rfl, hl1⟩ := hv1
  obtain ⟨xa, xc, rfl⟩ := hl1.form
  have HB1 := Lib.hid (BoxB.new (b := bx) hl1 124)
  have HC1 := Lib.hid (hC1.tr ((Chg.refl (fun _ => False) w1).alloc (.cells #[.bool bx, .slice xa (dg mx).length xc] 124)))
  clear hl1 hC1
  go_wp2_with fail
  refine (HY _).mono ?_
  clear HY
  rintro e9 w2 ⟨v2, rfl, hv2, hC2⟩
  obtain ⟨vs, rfl, hl2⟩ := hv2
  obtain ⟨ya, yc, rfl⟩ := hl2.form
  have HB2 := Lib.hid (BoxB.new (b := by') hl2 124)
  have HB1 := Lib.hid ((HB1.out.fr hC2).fr ((Chg.refl (fun _ => False) w2).alloc (.cells #[.bool by', .slice ya (dg my).length yc] 124)))
  have HC2 := Lib.hid ((HC1.out.tr hC2).tr ((Chg.refl (fun _ => False) w2).alloc (.cells #[.bool by', .slice ya (dg my).length yc] 124)))
  have x0 := HB1.out.c0
  have x1 := HB1.out.c1
  have y0 := HB2.out.c0
  have y1 := HB2.out.c1
  clear hl2 hC2 HC1
  go_wp2_with (go_at_call 109; (with_reducible refine (hf _ _).mono ?_); rintro e w' ⟨rfl, rfl⟩)
  go_ret2
  exact ⟨rfl, HC2.out⟩
theorem rtwo_11 (x y : Int) (hx : In x) (hy : In y) (w : World) (b : Bool) (hb : (decide (x < y)) = b) : Calls Try.prog 66 #[.int .i64 11, .int .i64 x, .int .i64 y] w (GaveP w (flagI b) 0) := by
  have hf := r12flagI
  have HX : ∀ w', Calls Try.prog 102 #[.int .i64 x] w' (GaveBg w' (decide (x < 0), x.natAbs)) := fun w' => r12of_any x hx w'
  have HY : ∀ w', Calls Try.prog 102 #[.int .i64 y] w' (GaveBg w' (decide (y < 0), y.natAbs)) := fun w' => r12of_any y hy w'
  have HSX := Lib.hid (show sgn (decide (x < 0)) x.natAbs = x from sgn_abs x)
  have HSY := Lib.hid (show sgn (decide (y < 0)) y.natAbs = y from sgn_abs y)
  have HMX := Lib.hid (show x.natAbs ≤ 9223372036854775808 by unfold In at hx; omega)
  have HMY := Lib.hid (show y.natAbs ≤ 9223372036854775808 by unfold In at hy; omega)
  unfold GaveBg at HX HY
  obtain ⟨bx, hbx⟩ : ∃ b, decide (x < 0) = b := ⟨_, rfl⟩
  obtain ⟨by', hby⟩ : ∃ b, decide (y < 0) = b := ⟨_, rfl⟩
  obtain ⟨mx, hmx⟩ : ∃ b, x.natAbs = b := ⟨_, rfl⟩
  obtain ⟨my, hmy⟩ : ∃ b, y.natAbs = b := ⟨_, rfl⟩
  rw [hbx, hmx] at HX HSX
  rw [hby, hmy] at HY HSY
  rw [hmx] at HMX
  rw [hmy] at HMY
  clear hx hy hbx hby hmx hmy
  go_enter Try.func66, Try.ntmps66
  go_wp2_with fail
  refine (HX _).mono ?_
  clear HX
  rintro e9 w1 ⟨v1, rfl, hv1, hC1⟩
  obtain ⟨vs, rfl, hl1⟩ := hv1
  obtain ⟨xa, xc, rfl⟩ := hl1.form
  have HB1 := Lib.hid (BoxB.new (b := bx) hl1 124)
  have HC1 := Lib.hid (hC1.tr ((Chg.refl (fun _ => False) w1).alloc (.cells #[.bool bx, .slice xa (dg mx).length xc] 124)))
  clear hl1 hC1
  go_wp2_with fail
  refine (HY _).mono ?_
  clear HY
  rintro e9 w2 ⟨v2, rfl, hv2, hC2⟩
  obtain ⟨vs, rfl, hl2⟩ := hv2
  obtain ⟨ya, yc, rfl⟩ := hl2.form
  have HB2 := Lib.hid (BoxB.new (b := by') hl2 124)
  have HB1 := Lib.hid ((HB1.out.fr hC2).fr ((Chg.refl (fun _ => False) w2).alloc (.cells #[.bool by', .slice ya (dg my).length yc] 124)))
  have HC2 := Lib.hid ((HC1.out.tr hC2).tr ((Chg.refl (fun _ => False) w2).alloc (.cells #[.bool by', .slice ya (dg my).length yc] 124)))
  have x0 := HB1.out.c0
  have x1 := HB1.out.c1
  have y0 := HB2.out.c0
  have y1 := HB2.out.c1
  clear hl2 hC2 HC1
  go_wp2_with (go_at_call 109; (with_reducible refine (hf _ _).mono ?_); rintro e w' ⟨rfl, rfl⟩)
  go_ret2
  exact ⟨rfl, HC2.out⟩
theorem rtwo_12 (x y : Int) (hx : In x) (hy : In y) (w : World) (b : Bool) (hb : (decide (x ≤ y)) = b) : Calls Try.prog 66 #[.int .i64 12, .int .i64 x, .int .i64 y] w (GaveP w (flagI b) 0) := by
  have hf := r12flagI
  have HX : ∀ w', Calls Try.prog 102 #[.int .i64 x] w' (GaveBg w' (decide (x < 0), x.natAbs)) := fun w' => r12of_any x hx w'
  have HY : ∀ w', Calls Try.prog 102 #[.int .i64 y] w' (GaveBg w' (decide (y < 0), y.natAbs)) := fun w' => r12of_any y hy w'
  have HSX := Lib.hid (show sgn (decide (x < 0)) x.natAbs = x from sgn_abs x)
  have HSY := Lib.hid (show sgn (decide (y < 0)) y.natAbs = y from sgn_abs y)
  have HMX := Lib.hid (show x.natAbs ≤ 9223372036854775808 by unfold In at hx; omega)
  have HMY := Lib.hid (show y.natAbs ≤ 9223372036854775808 by unfold In at hy; omega)
  unfold GaveBg at HX HY
  obtain ⟨bx, hbx⟩ : ∃ b, decide (x < 0) = b := ⟨_, rfl⟩
  obtain ⟨by', hby⟩ : ∃ b, decide (y < 0) = b := ⟨_, rfl⟩
  obtain ⟨mx, hmx⟩ : ∃ b, x.natAbs = b := ⟨_, rfl⟩
  obtain ⟨my, hmy⟩ : ∃ b, y.natAbs = b := ⟨_, rfl⟩
  rw [hbx, hmx] at HX HSX
  rw [hby, hmy] at HY HSY
  rw [hmx] at HMX
  rw [hmy] at HMY
  clear hx hy hbx hby hmx hmy
  go_enter Try.func66, Try.ntmps66
  go_wp2_with fail
  refine (HX _).mono ?_
  clear HX
  rintro e9 w1 ⟨v1, rfl, hv1, hC1⟩
  obtain ⟨vs, rfl, hl1⟩ := hv1
  obtain ⟨xa, xc, rfl⟩ := hl1.form
  have HB1 := Lib.hid (BoxB.new (b := bx) hl1 124)
  have HC1 := Lib.hid (hC1.tr ((Chg.refl (fun _ => False) w1).alloc (.cells #[.bool bx, .slice xa (dg mx).length xc] 124)))
  clear hl1 hC1
  go_wp2_with fail
  refine (HY _).mono ?_
  clear HY
  rintro e9 w2 ⟨v2, rfl, hv2, hC2⟩
  obtain ⟨vs, rfl, hl2⟩ := hv2
  obtain ⟨ya, yc, rfl⟩ := hl2.form
  have HB2 := Lib.hid (BoxB.new (b := by') hl2 124)
  have HB1 := Lib.hid ((HB1.out.fr hC2).fr ((Chg.refl (fun _ => False) w2).alloc (.cells #[.bool by', .slice ya (dg my).length yc] 124)))
  have HC2 := Lib.hid ((HC1.out.tr hC2).tr ((Chg.refl (fun _ => False) w2).alloc (.cells #[.bool by', .slice ya (dg my).length yc] 124)))
  have x0 := HB1.out.c0
  have x1 := HB1.out.c1
  have y0 := HB2.out.c0
  have y1 := HB2.out.c1
  clear hl2 hC2 HC1
  go_wp2_with (go_at_call 109; (with_reducible refine (hf _ _).mono ?_); rintro e w' ⟨rfl, rfl⟩)
  go_ret2
  exact ⟨rfl, HC2.out⟩
theorem rtwo_13 (x y : Int) (hx : In x) (hy : In y) (w : World) (b : Bool) (hb : (decide (y ≤ x)) = b) : Calls Try.prog 66 #[.int .i64 13, .int .i64 x, .int .i64 y] w (GaveP w (flagI b) 0) := by
  have hf := r12flagI
  have HX : ∀ w', Calls Try.prog 102 #[.int .i64 x] w' (GaveBg w' (decide (x < 0), x.natAbs)) := fun w' => r12of_any x hx w'
  have HY : ∀ w', Calls Try.prog 102 #[.int .i64 y] w' (GaveBg w' (decide (y < 0), y.natAbs)) := fun w' => r12of_any y hy w'
  have HSX := Lib.hid (show sgn (decide (x < 0)) x.natAbs = x from sgn_abs x)
  have HSY := Lib.hid (show sgn (decide (y < 0)) y.natAbs = y from sgn_abs y)
  have HMX := Lib.hid (show x.natAbs ≤ 9223372036854775808 by unfold In at hx; omega)
  have HMY := Lib.hid (show y.natAbs ≤ 9223372036854775808 by unfold In at hy; omega)
  unfold GaveBg at HX HY
  obtain ⟨bx, hbx⟩ : ∃ b, decide (x < 0) = b := ⟨_, rfl⟩
  obtain ⟨by', hby⟩ : ∃ b, decide (y < 0) = b := ⟨_, rfl⟩
  obtain ⟨mx, hmx⟩ : ∃ b, x.natAbs = b := ⟨_, rfl⟩
  obtain ⟨my, hmy⟩ : ∃ b, y.natAbs = b := ⟨_, rfl⟩
  rw [hbx, hmx] at HX HSX
  rw [hby, hmy] at HY HSY
  rw [hmx] at HMX
  rw [hmy] at HMY
  clear hx hy hbx hby hmx hmy
  go_enter Try.func66, Try.ntmps66
  go_wp2_with fail
  refine (HX _).mono ?_
  clear HX
  rintro e9 w1 ⟨v1, rfl, hv1, hC1⟩
  obtain ⟨vs, rfl, hl1⟩ := hv1
  obtain ⟨xa, xc, rfl⟩ := hl1.form
  have HB1 := Lib.hid (BoxB.new (b := bx) hl1 124)
  have HC1 := Lib.hid (hC1.tr ((Chg.refl (fun _ => False) w1).alloc (.cells #[.bool bx, .slice xa (dg mx).length xc] 124)))
  clear hl1 hC1
  go_wp2_with fail
  refine (HY _).mono ?_
  clear HY
  rintro e9 w2 ⟨v2, rfl, hv2, hC2⟩
  obtain ⟨vs, rfl, hl2⟩ := hv2
  obtain ⟨ya, yc, rfl⟩ := hl2.form
  have HB2 := Lib.hid (BoxB.new (b := by') hl2 124)
  have HB1 := Lib.hid ((HB1.out.fr hC2).fr ((Chg.refl (fun _ => False) w2).alloc (.cells #[.bool by', .slice ya (dg my).length yc] 124)))
  have HC2 := Lib.hid ((HC1.out.tr hC2).tr ((Chg.refl (fun _ => False) w2).alloc (.cells #[.bool by', .slice ya (dg my).length yc] 124)))
  have x0 := HB1.out.c0
  have x1 := HB1.out.c1
  have y0 := HB2.out.c0
  have y1 := HB2.out.c1
  clear hl2 hC2 HC1
  go_wp2_with (go_at_call 109; (with_reducible refine (hf _ _).mono ?_); rintro e w' ⟨rfl, rfl⟩)
  go_ret2
  exact ⟨rfl, HC2.out⟩
theorem rtwo_14 (x y : Int) (hx : In x) (hy : In y) (w : World) (b : Bool) (hb : (decide (y < x)) = b) : Calls Try.prog 66 #[.int .i64 14, .int .i64 x, .int .i64 y] w (GaveP w (flagI b) 0) := by
  have hf := r12flagI
  have HX : ∀ w', Calls Try.prog 102 #[.int .i64 x] w' (GaveBg w' (decide (x < 0), x.natAbs)) := fun w' => r12of_any x hx w'
  have HY : ∀ w', Calls Try.prog 102 #[.int .i64 y] w' (GaveBg w' (decide (y < 0), y.natAbs)) := fun w' => r12of_any y hy w'
  have HSX := Lib.hid (show sgn (decide (x < 0)) x.natAbs = x from sgn_abs x)
  have HSY := Lib.hid (show sgn (decide (y < 0)) y.natAbs = y from sgn_abs y)
  have HMX := Lib.hid (show x.natAbs ≤ 9223372036854775808 by unfold In at hx; omega)
  have HMY := Lib.hid (show y.natAbs ≤ 9223372036854775808 by unfold In at hy; omega)
  unfold GaveBg at HX HY
  obtain ⟨bx, hbx⟩ : ∃ b, decide (x < 0) = b := ⟨_, rfl⟩
  obtain ⟨by', hby⟩ : ∃ b, decide (y < 0) = b := ⟨_, rfl⟩
  obtain ⟨mx, hmx⟩ : ∃ b, x.natAbs = b := ⟨_, rfl⟩
  obtain ⟨my, hmy⟩ : ∃ b, y.natAbs = b := ⟨_, rfl⟩
  rw [hbx, hmx] at HX HSX
  rw [hby, hmy] at HY HSY
  rw [hmx] at HMX
  rw [hmy] at HMY
  clear hx hy hbx hby hmx hmy
  go_enter Try.func66, Try.ntmps66
  go_wp2_with fail
  refine (HX _).mono ?_
  clear HX
  rintro e9 w1 ⟨v1, rfl, hv1, hC1⟩
  obtain ⟨vs, rfl, hl1⟩ := hv1
  obtain ⟨xa, xc, rfl⟩ := hl1.form
  have HB1 := Lib.hid (BoxB.new (b := bx) hl1 124)
  have HC1 := Lib.hid (hC1.tr ((Chg.refl (fun _ => False) w1).alloc (.cells #[.bool bx, .slice xa (dg mx).length xc] 124)))
  clear hl1 hC1
  go_wp2_with fail
  refine (HY _).mono ?_
  clear HY
  rintro e9 w2 ⟨v2, rfl, hv2, hC2⟩
  obtain ⟨vs, rfl, hl2⟩ := hv2
  obtain ⟨ya, yc, rfl⟩ := hl2.form
  have HB2 := Lib.hid (BoxB.new (b := by') hl2 124)
  have HB1 := Lib.hid ((HB1.out.fr hC2).fr ((Chg.refl (fun _ => False) w2).alloc (.cells #[.bool by', .slice ya (dg my).length yc] 124)))
  have HC2 := Lib.hid ((HC1.out.tr hC2).tr ((Chg.refl (fun _ => False) w2).alloc (.cells #[.bool by', .slice ya (dg my).length yc] 124)))
  have x0 := HB1.out.c0
  have x1 := HB1.out.c1
  have y0 := HB2.out.c0
  have y1 := HB2.out.c1
  clear hl2 hC2 HC1
  go_wp2_with (go_at_call 109; (with_reducible refine (hf _ _).mono ?_); rintro e w' ⟨rfl, rfl⟩)
  go_ret2
  exact ⟨rfl, HC2.out⟩
theorem rtwo_15xo (x y : Int) (hx : In x) (hy : In y) (w : World) (qx0 : (x != 0) = true) (qx1 : (x != 1) = true) : Calls Try.prog 66 #[.int .i64 15, .int .i64 x, .int .i64 y] w (GaveP w 0 5) := by
  have HX : ∀ w', Calls Try.prog 102 #[.int .i64 x] w' (GaveBg w' (decide (x < 0), x.natAbs)) := fun w' => r12of_any x hx w'
  have HY : ∀ w', Calls Try.prog 102 #[.int .i64 y] w' (GaveBg w' (decide (y < 0), y.natAbs)) := fun w' => r12of_any y hy w'
  have HSX := Lib.hid (show sgn (decide (x < 0)) x.natAbs = x from sgn_abs x)
  have HSY := Lib.hid (show sgn (decide (y < 0)) y.natAbs = y from sgn_abs y)
  have HMX := Lib.hid (show x.natAbs ≤ 9223372036854775808 by unfold In at hx; omega)
  have HMY := Lib.hid (show y.natAbs ≤ 9223372036854775808 by unfold In at hy; omega)
  unfold GaveBg at HX HY
  obtain ⟨bx, hbx⟩ : ∃ b, decide (x < 0) = b := ⟨_, rfl⟩
  obtain ⟨by', hby⟩ : ∃ b, decide (y < 0) = b := ⟨_, rfl⟩
  obtain ⟨mx, hmx⟩ : ∃ b, x.natAbs = b := ⟨_, rfl⟩
  obtain ⟨my, hmy⟩ : ∃ b, y.natAbs = b := ⟨_, rfl⟩
  rw [hbx, hmx] at HX HSX
  rw [hby, hmy] at HY HSY
  rw [hmx] at HMX
  rw [hmy] at HMY
  clear hx hy hbx hby hmx hmy
  go_enter Try.func66, Try.ntmps66
  go_wp2_with fail
  refine (HX _).mono ?_
  clear HX
  rintro e9 w1 ⟨v1, rfl, hv1, hC1⟩
  obtain ⟨vs, rfl, hl1⟩ := hv1
  obtain ⟨xa, xc, rfl⟩ := hl1.form
  have HB1 := Lib.hid (BoxB.new (b := bx) hl1 124)
  have HC1 := Lib.hid (hC1.tr ((Chg.refl (fun _ => False) w1).alloc (.cells #[.bool bx, .slice xa (dg mx).length xc] 124)))
  clear hl1 hC1
  go_wp2_with fail
  refine (HY _).mono ?_
  clear HY
  rintro e9 w2 ⟨v2, rfl, hv2, hC2⟩
  obtain ⟨vs, rfl, hl2⟩ := hv2
  obtain ⟨ya, yc, rfl⟩ := hl2.form
  have HB2 := Lib.hid (BoxB.new (b := by') hl2 124)
  have HB1 := Lib.hid ((HB1.out.fr hC2).fr ((Chg.refl (fun _ => False) w2).alloc (.cells #[.bool by', .slice ya (dg my).length yc] 124)))
  have HC2 := Lib.hid ((HC1.out.tr hC2).tr ((Chg.refl (fun _ => False) w2).alloc (.cells #[.bool by', .slice ya (dg my).length yc] 124)))
  have x0 := HB1.out.c0
  have x1 := HB1.out.c1
  have y0 := HB2.out.c0
  have y1 := HB2.out.c1
  clear hl2 hC2 HC1
  go_wp2
  go_ret2
  exact ⟨rfl, HC2.out⟩
theorem rtwo_150o (x y : Int) (hx : In x) (hy : In y) (w : World) (qx0 : (x != 0) = false) (qy0 : (y != 0) = true) (qy1 : (y != 1) = true) : Calls Try.prog 66 #[.int .i64 15, .int .i64 x, .int .i64 y] w (GaveP w 0 5) := by
  have HX : ∀ w', Calls Try.prog 102 #[.int .i64 x] w' (GaveBg w' (decide (x < 0), x.natAbs)) := fun w' => r12of_any x hx w'
  have HY : ∀ w', Calls Try.prog 102 #[.int .i64 y] w' (GaveBg w' (decide (y < 0), y.natAbs)) := fun w' => r12of_any y hy w'
  have HSX := Lib.hid (show sgn (decide (x < 0)) x.natAbs = x from sgn_abs x)
  have HSY := Lib.hid (show sgn (decide (y < 0)) y.natAbs = y from sgn_abs y)
  have HMX := Lib.hid (show x.natAbs ≤ 9223372036854775808 by unfold In at hx; omega)
  have HMY := Lib.hid (show y.natAbs ≤ 9223372036854775808 by unfold In at hy; omega)
  unfold GaveBg at HX HY
  obtain ⟨bx, hbx⟩ : ∃ b, decide (x < 0) = b := ⟨_, rfl⟩
  obtain ⟨by', hby⟩ : ∃ b, decide (y < 0) = b := ⟨_, rfl⟩
  obtain ⟨mx, hmx⟩ : ∃ b, x.natAbs = b := ⟨_, rfl⟩
  obtain ⟨my, hmy⟩ : ∃ b, y.natAbs = b := ⟨_, rfl⟩
  rw [hbx, hmx] at HX HSX
  rw [hby, hmy] at HY HSY
  rw [hmx] at HMX
  rw [hmy] at HMY
  clear hx hy hbx hby hmx hmy
  go_enter Try.func66, Try.ntmps66
  go_wp2_with fail
  refine (HX _).mono ?_
  clear HX
  rintro e9 w1 ⟨v1, rfl, hv1, hC1⟩
  obtain ⟨vs, rfl, hl1⟩ := hv1
  obtain ⟨xa, xc, rfl⟩ := hl1.form
  have HB1 := Lib.hid (BoxB.new (b := bx) hl1 124)
  have HC1 := Lib.hid (hC1.tr ((Chg.refl (fun _ => False) w1).alloc (.cells #[.bool bx, .slice xa (dg mx).length xc] 124)))
  clear hl1 hC1
  go_wp2_with fail
  refine (HY _).mono ?_
  clear HY
  rintro e9 w2 ⟨v2, rfl, hv2, hC2⟩
  obtain ⟨vs, rfl, hl2⟩ := hv2
  obtain ⟨ya, yc, rfl⟩ := hl2.form
  have HB2 := Lib.hid (BoxB.new (b := by') hl2 124)
  have HB1 := Lib.hid ((HB1.out.fr hC2).fr ((Chg.refl (fun _ => False) w2).alloc (.cells #[.bool by', .slice ya (dg my).length yc] 124)))
  have HC2 := Lib.hid ((HC1.out.tr hC2).tr ((Chg.refl (fun _ => False) w2).alloc (.cells #[.bool by', .slice ya (dg my).length yc] 124)))
  have x0 := HB1.out.c0
  have x1 := HB1.out.c1
  have y0 := HB2.out.c0
  have y1 := HB2.out.c1
  clear hl2 hC2 HC1
  go_wp2
  go_ret2
  exact ⟨rfl, HC2.out⟩
theorem rtwo_151o (x y : Int) (hx : In x) (hy : In y) (w : World) (qx0 : (x != 0) = true) (qx1 : (x != 1) = false) (qy0 : (y != 0) = true) (qy1 : (y != 1) = true) : Calls Try.prog 66 #[.int .i64 15, .int .i64 x, .int .i64 y] w (GaveP w 0 5) := by
  have HX : ∀ w', Calls Try.prog 102 #[.int .i64 x] w' (GaveBg w' (decide (x < 0), x.natAbs)) := fun w' => r12of_any x hx w'
  have HY : ∀ w', Calls Try.prog 102 #[.int .i64 y] w' (GaveBg w' (decide (y < 0), y.natAbs)) := fun w' => r12of_any y hy w'
  have HSX := Lib.hid (show sgn (decide (x < 0)) x.natAbs = x from sgn_abs x)
  have HSY := Lib.hid (show sgn (decide (y < 0)) y.natAbs = y from sgn_abs y)
  have HMX := Lib.hid (show x.natAbs ≤ 9223372036854775808 by unfold In at hx; omega)
  have HMY := Lib.hid (show y.natAbs ≤ 9223372036854775808 by unfold In at hy; omega)
  unfold GaveBg at HX HY
  obtain ⟨bx, hbx⟩ : ∃ b, decide (x < 0) = b := ⟨_, rfl⟩
  obtain ⟨by', hby⟩ : ∃ b, decide (y < 0) = b := ⟨_, rfl⟩
  obtain ⟨mx, hmx⟩ : ∃ b, x.natAbs = b := ⟨_, rfl⟩
  obtain ⟨my, hmy⟩ : ∃ b, y.natAbs = b := ⟨_, rfl⟩
  rw [hbx, hmx] at HX HSX
  rw [hby, hmy] at HY HSY
  rw [hmx] at HMX
  rw [hmy] at HMY
  clear hx hy hbx hby hmx hmy
  go_enter Try.func66, Try.ntmps66
  go_wp2_with fail
  refine (HX _).mono ?_
  clear HX
  rintro e9 w1 ⟨v1, rfl, hv1, hC1⟩
  obtain ⟨vs, rfl, hl1⟩ := hv1
  obtain ⟨xa, xc, rfl⟩ := hl1.form
  have HB1 := Lib.hid (BoxB.new (b := bx) hl1 124)
  have HC1 := Lib.hid (hC1.tr ((Chg.refl (fun _ => False) w1).alloc (.cells #[.bool bx, .slice xa (dg mx).length xc] 124)))
  clear hl1 hC1
  go_wp2_with fail
  refine (HY _).mono ?_
  clear HY
  rintro e9 w2 ⟨v2, rfl, hv2, hC2⟩
  obtain ⟨vs, rfl, hl2⟩ := hv2
  obtain ⟨ya, yc, rfl⟩ := hl2.form
  have HB2 := Lib.hid (BoxB.new (b := by') hl2 124)
  have HB1 := Lib.hid ((HB1.out.fr hC2).fr ((Chg.refl (fun _ => False) w2).alloc (.cells #[.bool by', .slice ya (dg my).length yc] 124)))
  have HC2 := Lib.hid ((HC1.out.tr hC2).tr ((Chg.refl (fun _ => False) w2).alloc (.cells #[.bool by', .slice ya (dg my).length yc] 124)))
  have x0 := HB1.out.c0
  have x1 := HB1.out.c1
  have y0 := HB2.out.c0
  have y1 := HB2.out.c1
  clear hl2 hC2 HC1
  go_wp2
  go_ret2
  exact ⟨rfl, HC2.out⟩
theorem rtwo_1500 (x y : Int) (hx : In x) (hy : In y) (w : World) (qx0 : (x != 0) = false) (qy0 : (y != 0) = false) (hw : IntKind.i64.wrap (x * y) = x * y) : Calls Try.prog 66 #[.int .i64 15, .int .i64 x, .int .i64 y] w (GaveP w (x * y) 0) := by
  have HX : ∀ w', Calls Try.prog 102 #[.int .i64 x] w' (GaveBg w' (decide (x < 0), x.natAbs)) := fun w' => r12of_any x hx w'
  have HY : ∀ w', Calls Try.prog 102 #[.int .i64 y] w' (GaveBg w' (decide (y < 0), y.natAbs)) := fun w' => r12of_any y hy w'
  have HSX := Lib.hid (show sgn (decide (x < 0)) x.natAbs = x from sgn_abs x)
  have HSY := Lib.hid (show sgn (decide (y < 0)) y.natAbs = y from sgn_abs y)
  have HMX := Lib.hid (show x.natAbs ≤ 9223372036854775808 by unfold In at hx; omega)
  have HMY := Lib.hid (show y.natAbs ≤ 9223372036854775808 by unfold In at hy; omega)
  unfold GaveBg at HX HY
  obtain ⟨bx, hbx⟩ : ∃ b, decide (x < 0) = b := ⟨_, rfl⟩
  obtain ⟨by', hby⟩ : ∃ b, decide (y < 0) = b := ⟨_, rfl⟩
  obtain ⟨mx, hmx⟩ : ∃ b, x.natAbs = b := ⟨_, rfl⟩
  obtain ⟨my, hmy⟩ : ∃ b, y.natAbs = b := ⟨_, rfl⟩
  rw [hbx, hmx] at HX HSX
  rw [hby, hmy] at HY HSY
  rw [hmx] at HMX
  rw [hmy] at HMY
  clear hx hy hbx hby hmx hmy
  go_enter Try.func66, Try.ntmps66
  go_wp2_with fail
  refine (HX _).mono ?_
  clear HX
  rintro e9 w1 ⟨v1, rfl, hv1, hC1⟩
  obtain ⟨vs, rfl, hl1⟩ := hv1
  obtain ⟨xa, xc, rfl⟩ := hl1.form
  have HB1 := Lib.hid (BoxB.new (b := bx) hl1 124)
  have HC1 := Lib.hid (hC1.tr ((Chg.refl (fun _ => False) w1).alloc (.cells #[.bool bx, .slice xa (dg mx).length xc] 124)))
  clear hl1 hC1
  go_wp2_with fail
  refine (HY _).mono ?_
  clear HY
  rintro e9 w2 ⟨v2, rfl, hv2, hC2⟩
  obtain ⟨vs, rfl, hl2⟩ := hv2
  obtain ⟨ya, yc, rfl⟩ := hl2.form
  have HB2 := Lib.hid (BoxB.new (b := by') hl2 124)
  have HB1 := Lib.hid ((HB1.out.fr hC2).fr ((Chg.refl (fun _ => False) w2).alloc (.cells #[.bool by', .slice ya (dg my).length yc] 124)))
  have HC2 := Lib.hid ((HC1.out.tr hC2).tr ((Chg.refl (fun _ => False) w2).alloc (.cells #[.bool by', .slice ya (dg my).length yc] 124)))
  have x0 := HB1.out.c0
  have x1 := HB1.out.c1
  have y0 := HB2.out.c0
  have y1 := HB2.out.c1
  clear hl2 hC2 HC1
  go_wp2
  go_ret2
  exact ⟨rfl, HC2.out⟩
theorem rtwo_1501 (x y : Int) (hx : In x) (hy : In y) (w : World) (qx0 : (x != 0) = false) (qy0 : (y != 0) = true) (qy1 : (y != 1) = false) (hw : IntKind.i64.wrap (x * y) = x * y) : Calls Try.prog 66 #[.int .i64 15, .int .i64 x, .int .i64 y] w (GaveP w (x * y) 0) := by
  have HX : ∀ w', Calls Try.prog 102 #[.int .i64 x] w' (GaveBg w' (decide (x < 0), x.natAbs)) := fun w' => r12of_any x hx w'
  have HY : ∀ w', Calls Try.prog 102 #[.int .i64 y] w' (GaveBg w' (decide (y < 0), y.natAbs)) := fun w' => r12of_any y hy w'
  have HSX := Lib.hid (show sgn (decide (x < 0)) x.natAbs = x from sgn_abs x)
  have HSY := Lib.hid (show sgn (decide (y < 0)) y.natAbs = y from sgn_abs y)
  have HMX := Lib.hid (show x.natAbs ≤ 9223372036854775808 by unfold In at hx; omega)
  have HMY := Lib.hid (show y.natAbs ≤ 9223372036854775808 by unfold In at hy; omega)
  unfold GaveBg at HX HY
  obtain ⟨bx, hbx⟩ : ∃ b, decide (x < 0) = b := ⟨_, rfl⟩
  obtain ⟨by', hby⟩ : ∃ b, decide (y < 0) = b := ⟨_, rfl⟩
  obtain ⟨mx, hmx⟩ : ∃ b, x.natAbs = b := ⟨_, rfl⟩
  obtain ⟨my, hmy⟩ : ∃ b, y.natAbs = b := ⟨_, rfl⟩
  rw [hbx, hmx] at HX HSX
  rw [hby, hmy] at HY HSY
  rw [hmx] at HMX
  rw [hmy] at HMY
  clear hx hy hbx hby hmx hmy
  go_enter Try.func66, Try.ntmps66
  go_wp2_with fail
  refine (HX _).mono ?_
  clear HX
  rintro e9 w1 ⟨v1, rfl, hv1, hC1⟩
  obtain ⟨vs, rfl, hl1⟩ := hv1
  obtain ⟨xa, xc, rfl⟩ := hl1.form
  have HB1 := Lib.hid (BoxB.new (b := bx) hl1 124)
  have HC1 := Lib.hid (hC1.tr ((Chg.refl (fun _ => False) w1).alloc (.cells #[.bool bx, .slice xa (dg mx).length xc] 124)))
  clear hl1 hC1
  go_wp2_with fail
  refine (HY _).mono ?_
  clear HY
  rintro e9 w2 ⟨v2, rfl, hv2, hC2⟩
  obtain ⟨vs, rfl, hl2⟩ := hv2
  obtain ⟨ya, yc, rfl⟩ := hl2.form
  have HB2 := Lib.hid (BoxB.new (b := by') hl2 124)
  have HB1 := Lib.hid ((HB1.out.fr hC2).fr ((Chg.refl (fun _ => False) w2).alloc (.cells #[.bool by', .slice ya (dg my).length yc] 124)))
  have HC2 := Lib.hid ((HC1.out.tr hC2).tr ((Chg.refl (fun _ => False) w2).alloc (.cells #[.bool by', .slice ya (dg my).length yc] 124)))
  have x0 := HB1.out.c0
  have x1 := HB1.out.c1
  have y0 := HB2.out.c0
  have y1 := HB2.out.c1
  clear hl2 hC2 HC1
  go_wp2
  go_ret2
  exact ⟨rfl, HC2.out⟩
theorem rtwo_1510 (x y : Int) (hx : In x) (hy : In y) (w : World) (qx0 : (x != 0) = true) (qx1 : (x != 1) = false) (qy0 : (y != 0) = false) (hw : IntKind.i64.wrap (x * y) = x * y) : Calls Try.prog 66 #[.int .i64 15, .int .i64 x, .int .i64 y] w (GaveP w (x * y) 0) := by
  have HX : ∀ w', Calls Try.prog 102 #[.int .i64 x] w' (GaveBg w' (decide (x < 0), x.natAbs)) := fun w' => r12of_any x hx w'
  have HY : ∀ w', Calls Try.prog 102 #[.int .i64 y] w' (GaveBg w' (decide (y < 0), y.natAbs)) := fun w' => r12of_any y hy w'
  have HSX := Lib.hid (show sgn (decide (x < 0)) x.natAbs = x from sgn_abs x)
  have HSY := Lib.hid (show sgn (decide (y < 0)) y.natAbs = y from sgn_abs y)
  have HMX := Lib.hid (show x.natAbs ≤ 9223372036854775808 by unfold In at hx; omega)
  have HMY := Lib.hid (show y.natAbs ≤ 9223372036854775808 by unfold In at hy; omega)
  unfold GaveBg at HX HY
  obtain ⟨bx, hbx⟩ : ∃ b, decide (x < 0) = b := ⟨_, rfl⟩
  obtain ⟨by', hby⟩ : ∃ b, decide (y < 0) = b := ⟨_, rfl⟩
  obtain ⟨mx, hmx⟩ : ∃ b, x.natAbs = b := ⟨_, rfl⟩
  obtain ⟨my, hmy⟩ : ∃ b, y.natAbs = b := ⟨_, rfl⟩
  rw [hbx, hmx] at HX HSX
  rw [hby, hmy] at HY HSY
  rw [hmx] at HMX
  rw [hmy] at HMY
  clear hx hy hbx hby hmx hmy
  go_enter Try.func66, Try.ntmps66
  go_wp2_with fail
  refine (HX _).mono ?_
  clear HX
  rintro e9 w1 ⟨v1, rfl, hv1, hC1⟩
  obtain ⟨vs, rfl, hl1⟩ := hv1
  obtain ⟨xa, xc, rfl⟩ := hl1.form
  have HB1 := Lib.hid (BoxB.new (b := bx) hl1 124)
  have HC1 := Lib.hid (hC1.tr ((Chg.refl (fun _ => False) w1).alloc (.cells #[.bool bx, .slice xa (dg mx).length xc] 124)))
  clear hl1 hC1
  go_wp2_with fail
  refine (HY _).mono ?_
  clear HY
  rintro e9 w2 ⟨v2, rfl, hv2, hC2⟩
  obtain ⟨vs, rfl, hl2⟩ := hv2
  obtain ⟨ya, yc, rfl⟩ := hl2.form
  have HB2 := Lib.hid (BoxB.new (b := by') hl2 124)
  have HB1 := Lib.hid ((HB1.out.fr hC2).fr ((Chg.refl (fun _ => False) w2).alloc (.cells #[.bool by', .slice ya (dg my).length yc] 124)))
  have HC2 := Lib.hid ((HC1.out.tr hC2).tr ((Chg.refl (fun _ => False) w2).alloc (.cells #[.bool by', .slice ya (dg my).length yc] 124)))
  have x0 := HB1.out.c0
  have x1 := HB1.out.c1
  have y0 := HB2.out.c0
  have y1 := HB2.out.c1
  clear hl2 hC2 HC1
  go_wp2
  go_ret2
  exact ⟨rfl, HC2.out⟩
theorem rtwo_1511 (x y : Int) (hx : In x) (hy : In y) (w : World) (qx0 : (x != 0) = true) (qx1 : (x != 1) = false) (qy0 : (y != 0) = true) (qy1 : (y != 1) = false) (hw : IntKind.i64.wrap (x * y) = x * y) : Calls Try.prog 66 #[.int .i64 15, .int .i64 x, .int .i64 y] w (GaveP w (x * y) 0) := by
  have HX : ∀ w', Calls Try.prog 102 #[.int .i64 x] w' (GaveBg w' (decide (x < 0), x.natAbs)) := fun w' => r12of_any x hx w'
  have HY : ∀ w', Calls Try.prog 102 #[.int .i64 y] w' (GaveBg w' (decide (y < 0), y.natAbs)) := fun w' => r12of_any y hy w'
  have HSX := Lib.hid (show sgn (decide (x < 0)) x.natAbs = x from sgn_abs x)
  have HSY := Lib.hid (show sgn (decide (y < 0)) y.natAbs = y from sgn_abs y)
  have HMX := Lib.hid (show x.natAbs ≤ 9223372036854775808 by unfold In at hx; omega)
  have HMY := Lib.hid (show y.natAbs ≤ 9223372036854775808 by unfold In at hy; omega)
  unfold GaveBg at HX HY
  obtain ⟨bx, hbx⟩ : ∃ b, decide (x < 0) = b := ⟨_, rfl⟩
  obtain ⟨by', hby⟩ : ∃ b, decide (y < 0) = b := ⟨_, rfl⟩
  obtain ⟨mx, hmx⟩ : ∃ b, x.natAbs = b := ⟨_, rfl⟩
  obtain ⟨my, hmy⟩ : ∃ b, y.natAbs = b := ⟨_, rfl⟩
  rw [hbx, hmx] at HX HSX
  rw [hby, hmy] at HY HSY
  rw [hmx] at HMX
  rw [hmy] at HMY
  clear hx hy hbx hby hmx hmy
  go_enter Try.func66, Try.ntmps66
  go_wp2_with fail
  refine (HX _).mono ?_
  clear HX
  rintro e9 w1 ⟨v1, rfl, hv1, hC1⟩
  obtain ⟨vs, rfl, hl1⟩ := hv1
  obtain ⟨xa, xc, rfl⟩ := hl1.form
  have HB1 := Lib.hid (BoxB.new (b := bx) hl1 124)
  have HC1 := Lib.hid (hC1.tr ((Chg.refl (fun _ => False) w1).alloc (.cells #[.bool bx, .slice xa (dg mx).length xc] 124)))
  clear hl1 hC1
  go_wp2_with fail
  refine (HY _).mono ?_
  clear HY
  rintro e9 w2 ⟨v2, rfl, hv2, hC2⟩
  obtain ⟨vs, rfl, hl2⟩ := hv2
  obtain ⟨ya, yc, rfl⟩ := hl2.form
  have HB2 := Lib.hid (BoxB.new (b := by') hl2 124)
  have HB1 := Lib.hid ((HB1.out.fr hC2).fr ((Chg.refl (fun _ => False) w2).alloc (.cells #[.bool by', .slice ya (dg my).length yc] 124)))
  have HC2 := Lib.hid ((HC1.out.tr hC2).tr ((Chg.refl (fun _ => False) w2).alloc (.cells #[.bool by', .slice ya (dg my).length yc] 124)))
  have x0 := HB1.out.c0
  have x1 := HB1.out.c1
  have y0 := HB2.out.c0
  have y1 := HB2.out.c1
  clear hl2 hC2 HC1
  go_wp2
  go_ret2
  exact ⟨rfl, HC2.out⟩
theorem rtwo_16xo (x y : Int) (hx : In x) (hy : In y) (w : World) (qx0 : (x != 0) = true) (qx1 : (x != 1) = true) : Calls Try.prog 66 #[.int .i64 16, .int .i64 x, .int .i64 y] w (GaveP w 0 5) := by
  have HX : ∀ w', Calls Try.prog 102 #[.int .i64 x] w' (GaveBg w' (decide (x < 0), x.natAbs)) := fun w' => r12of_any x hx w'
  have HY : ∀ w', Calls Try.prog 102 #[.int .i64 y] w' (GaveBg w' (decide (y < 0), y.natAbs)) := fun w' => r12of_any y hy w'
  have HSX := Lib.hid (show sgn (decide (x < 0)) x.natAbs = x from sgn_abs x)
  have HSY := Lib.hid (show sgn (decide (y < 0)) y.natAbs = y from sgn_abs y)
  have HMX := Lib.hid (show x.natAbs ≤ 9223372036854775808 by unfold In at hx; omega)
  have HMY := Lib.hid (show y.natAbs ≤ 9223372036854775808 by unfold In at hy; omega)
  unfold GaveBg at HX HY
  obtain ⟨bx, hbx⟩ : ∃ b, decide (x < 0) = b := ⟨_, rfl⟩
  obtain ⟨by', hby⟩ : ∃ b, decide (y < 0) = b := ⟨_, rfl⟩
  obtain ⟨mx, hmx⟩ : ∃ b, x.natAbs = b := ⟨_, rfl⟩
  obtain ⟨my, hmy⟩ : ∃ b, y.natAbs = b := ⟨_, rfl⟩
  rw [hbx, hmx] at HX HSX
  rw [hby, hmy] at HY HSY
  rw [hmx] at HMX
  rw [hmy] at HMY
  clear hx hy hbx hby hmx hmy
  go_enter Try.func66, Try.ntmps66
  go_wp2_with fail
  refine (HX _).mono ?_
  clear HX
  rintro e9 w1 ⟨v1, rfl, hv1, hC1⟩
  obtain ⟨vs, rfl, hl1⟩ := hv1
  obtain ⟨xa, xc, rfl⟩ := hl1.form
  have HB1 := Lib.hid (BoxB.new (b := bx) hl1 124)
  have HC1 := Lib.hid (hC1.tr ((Chg.refl (fun _ => False) w1).alloc (.cells #[.bool bx, .slice xa (dg mx).length xc] 124)))
  clear hl1 hC1
  go_wp2_with fail
  refine (HY _).mono ?_
  clear HY
  rintro e9 w2 ⟨v2, rfl, hv2, hC2⟩
  obtain ⟨vs, rfl, hl2⟩ := hv2
  obtain ⟨ya, yc, rfl⟩ := hl2.form
  have HB2 := Lib.hid (BoxB.new (b := by') hl2 124)
  have HB1 := Lib.hid ((HB1.out.fr hC2).fr ((Chg.refl (fun _ => False) w2).alloc (.cells #[.bool by', .slice ya (dg my).length yc] 124)))
  have HC2 := Lib.hid ((HC1.out.tr hC2).tr ((Chg.refl (fun _ => False) w2).alloc (.cells #[.bool by', .slice ya (dg my).length yc] 124)))
  have x0 := HB1.out.c0
  have x1 := HB1.out.c1
  have y0 := HB2.out.c0
  have y1 := HB2.out.c1
  clear hl2 hC2 HC1
  go_wp2
  go_ret2
  exact ⟨rfl, HC2.out⟩
theorem rtwo_160o (x y : Int) (hx : In x) (hy : In y) (w : World) (qx0 : (x != 0) = false) (qy0 : (y != 0) = true) (qy1 : (y != 1) = true) : Calls Try.prog 66 #[.int .i64 16, .int .i64 x, .int .i64 y] w (GaveP w 0 5) := by
  have HX : ∀ w', Calls Try.prog 102 #[.int .i64 x] w' (GaveBg w' (decide (x < 0), x.natAbs)) := fun w' => r12of_any x hx w'
  have HY : ∀ w', Calls Try.prog 102 #[.int .i64 y] w' (GaveBg w' (decide (y < 0), y.natAbs)) := fun w' => r12of_any y hy w'
  have HSX := Lib.hid (show sgn (decide (x < 0)) x.natAbs = x from sgn_abs x)
  have HSY := Lib.hid (show sgn (decide (y < 0)) y.natAbs = y from sgn_abs y)
  have HMX := Lib.hid (show x.natAbs ≤ 9223372036854775808 by unfold In at hx; omega)
  have HMY := Lib.hid (show y.natAbs ≤ 9223372036854775808 by unfold In at hy; omega)
  unfold GaveBg at HX HY
  obtain ⟨bx, hbx⟩ : ∃ b, decide (x < 0) = b := ⟨_, rfl⟩
  obtain ⟨by', hby⟩ : ∃ b, decide (y < 0) = b := ⟨_, rfl⟩
  obtain ⟨mx, hmx⟩ : ∃ b, x.natAbs = b := ⟨_, rfl⟩
  obtain ⟨my, hmy⟩ : ∃ b, y.natAbs = b := ⟨_, rfl⟩
  rw [hbx, hmx] at HX HSX
  rw [hby, hmy] at HY HSY
  rw [hmx] at HMX
  rw [hmy] at HMY
  clear hx hy hbx hby hmx hmy
  go_enter Try.func66, Try.ntmps66
  go_wp2_with fail
  refine (HX _).mono ?_
  clear HX
  rintro e9 w1 ⟨v1, rfl, hv1, hC1⟩
  obtain ⟨vs, rfl, hl1⟩ := hv1
  obtain ⟨xa, xc, rfl⟩ := hl1.form
  have HB1 := Lib.hid (BoxB.new (b := bx) hl1 124)
  have HC1 := Lib.hid (hC1.tr ((Chg.refl (fun _ => False) w1).alloc (.cells #[.bool bx, .slice xa (dg mx).length xc] 124)))
  clear hl1 hC1
  go_wp2_with fail
  refine (HY _).mono ?_
  clear HY
  rintro e9 w2 ⟨v2, rfl, hv2, hC2⟩
  obtain ⟨vs, rfl, hl2⟩ := hv2
  obtain ⟨ya, yc, rfl⟩ := hl2.form
  have HB2 := Lib.hid (BoxB.new (b := by') hl2 124)
  have HB1 := Lib.hid ((HB1.out.fr hC2).fr ((Chg.refl (fun _ => False) w2).alloc (.cells #[.bool by', .slice ya (dg my).length yc] 124)))
  have HC2 := Lib.hid ((HC1.out.tr hC2).tr ((Chg.refl (fun _ => False) w2).alloc (.cells #[.bool by', .slice ya (dg my).length yc] 124)))
  have x0 := HB1.out.c0
  have x1 := HB1.out.c1
  have y0 := HB2.out.c0
  have y1 := HB2.out.c1
  clear hl2 hC2 HC1
  go_wp2
  go_ret2
  exact ⟨rfl, HC2.out⟩
theorem rtwo_161o (x y : Int) (hx : In x) (hy : In y) (w : World) (qx0 : (x != 0) = true) (qx1 : (x != 1) = false) (qy0 : (y != 0) = true) (qy1 : (y != 1) = true) : Calls Try.prog 66 #[.int .i64 16, .int .i64 x, .int .i64 y] w (GaveP w 0 5) := by
  have HX : ∀ w', Calls Try.prog 102 #[.int .i64 x] w' (GaveBg w' (decide (x < 0), x.natAbs)) := fun w' => r12of_any x hx w'
  have HY : ∀ w', Calls Try.prog 102 #[.int .i64 y] w' (GaveBg w' (decide (y < 0), y.natAbs)) := fun w' => r12of_any y hy w'
  have HSX := Lib.hid (show sgn (decide (x < 0)) x.natAbs = x from sgn_abs x)
  have HSY := Lib.hid (show sgn (decide (y < 0)) y.natAbs = y from sgn_abs y)
  have HMX := Lib.hid (show x.natAbs ≤ 9223372036854775808 by unfold In at hx; omega)
  have HMY := Lib.hid (show y.natAbs ≤ 9223372036854775808 by unfold In at hy; omega)
  unfold GaveBg at HX HY
  obtain ⟨bx, hbx⟩ : ∃ b, decide (x < 0) = b := ⟨_, rfl⟩
  obtain ⟨by', hby⟩ : ∃ b, decide (y < 0) = b := ⟨_, rfl⟩
  obtain ⟨mx, hmx⟩ : ∃ b, x.natAbs = b := ⟨_, rfl⟩
  obtain ⟨my, hmy⟩ : ∃ b, y.natAbs = b := ⟨_, rfl⟩
  rw [hbx, hmx] at HX HSX
  rw [hby, hmy] at HY HSY
  rw [hmx] at HMX
  rw [hmy] at HMY
  clear hx hy hbx hby hmx hmy
  go_enter Try.func66, Try.ntmps66
  go_wp2_with fail
  refine (HX _).mono ?_
  clear HX
  rintro e9 w1 ⟨v1, rfl, hv1, hC1⟩
  obtain ⟨vs, rfl, hl1⟩ := hv1
  obtain ⟨xa, xc, rfl⟩ := hl1.form
  have HB1 := Lib.hid (BoxB.new (b := bx) hl1 124)
  have HC1 := Lib.hid (hC1.tr ((Chg.refl (fun _ => False) w1).alloc (.cells #[.bool bx, .slice xa (dg mx).length xc] 124)))
  clear hl1 hC1
  go_wp2_with fail
  refine (HY _).mono ?_
  clear HY
  rintro e9 w2 ⟨v2, rfl, hv2, hC2⟩
  obtain ⟨vs, rfl, hl2⟩ := hv2
  obtain ⟨ya, yc, rfl⟩ := hl2.form
  have HB2 := Lib.hid (BoxB.new (b := by') hl2 124)
  have HB1 := Lib.hid ((HB1.out.fr hC2).fr ((Chg.refl (fun _ => False) w2).alloc (.cells #[.bool by', .slice ya (dg my).length yc] 124)))
  have HC2 := Lib.hid ((HC1.out.tr hC2).tr ((Chg.refl (fun _ => False) w2).alloc (.cells #[.bool by', .slice ya (dg my).length yc] 124)))
  have x0 := HB1.out.c0
  have x1 := HB1.out.c1
  have y0 := HB2.out.c0
  have y1 := HB2.out.c1
  clear hl2 hC2 HC1
  go_wp2
  go_ret2
  exact ⟨rfl, HC2.out⟩
theorem rtwo_1600 (x y : Int) (hx : In x) (hy : In y) (w : World) (qx0 : (x != 0) = false) (qy0 : (y != 0) = false) (hw : IntKind.i64.wrap (x + y) = x + y) (b : Bool) (hb : decide (0 < x + y) = b) : Calls Try.prog 66 #[.int .i64 16, .int .i64 x, .int .i64 y] w (GaveP w (flagI b) 0) := by
  have hf := r12flagI
  have HX : ∀ w', Calls Try.prog 102 #[.int .i64 x] w' (GaveBg w' (decide (x < 0), x.natAbs)) := fun w' => r12of_any x hx w'
  have HY : ∀ w', Calls Try.prog 102 #[.int .i64 y] w' (GaveBg w' (decide (y < 0), y.natAbs)) := fun w' => r12of_any y hy w'
  have HSX := Lib.hid (show sgn (decide (x < 0)) x.natAbs = x from sgn_abs x)
  have HSY := Lib.hid (show sgn (decide (y < 0)) y.natAbs = y from sgn_abs y)
  have HMX := Lib.hid (show x.natAbs ≤ 9223372036854775808 by unfold In at hx; omega)
  have HMY := Lib.hid (show y.natAbs ≤ 9223372036854775808 by unfold In at hy; omega)
  unfold GaveBg at HX HY
  obtain ⟨bx, hbx⟩ : ∃ b, decide (x < 0) = b := ⟨_, rfl⟩
  obtain ⟨by', hby⟩ : ∃ b, decide (y < 0) = b := ⟨_, rfl⟩
  obtain ⟨mx, hmx⟩ : ∃ b, x.natAbs = b := ⟨_, rfl⟩
  obtain ⟨my, hmy⟩ : ∃ b, y.natAbs = b := ⟨_, rfl⟩
  rw [hbx, hmx] at HX HSX
  rw [hby, hmy] at HY HSY
  rw [hmx] at HMX
  rw [hmy] at HMY
  clear hx hy hbx hby hmx hmy
  go_enter Try.func66, Try.ntmps66
  go_wp2_with fail
  refine (HX _).mono ?_
  clear HX
  rintro e9 w1 ⟨v1, rfl, hv1, hC1⟩
  obtain ⟨vs, rfl, hl1⟩ := hv1
  obtain ⟨xa, xc, rfl⟩ := hl1.form
  have HB1 := Lib.hid (BoxB.new (b := bx) hl1 124)
  have HC1 := Lib.hid (hC1.tr ((Chg.refl (fun _ => False) w1).alloc (.cells #[.bool bx, .slice xa (dg mx).length xc] 124)))
  clear hl1 hC1
  go_wp2_with fail
  refine (HY _).mono ?_
  clear HY
  rintro e9 w2 ⟨v2, rfl, hv2, hC2⟩
  obtain ⟨vs, rfl, hl2⟩ := hv2
  obtain ⟨ya, yc, rfl⟩ := hl2.form
  have HB2 := Lib.hid (BoxB.new (b := by') hl2 124)
  have HB1 := Lib.hid ((HB1.out.fr hC2).fr ((Chg.refl (fun _ => False) w2).alloc (.cells #[.bool by', .slice ya (dg my).length yc] 124)))
  have HC2 := Lib.hid ((HC1.out.tr hC2).tr ((Chg.refl (fun _ => False) w2).alloc (.cells #[.bool by', .slice ya (dg my).length yc] 124)))
  have x0 := HB1.out.c0
  have x1 := HB1.out.c1
  have y0 := HB2.out.c0
  have y1 := HB2.out.c1
  clear hl2 hC2 HC1
  go_wp2_with (go_at_call 109; (with_reducible refine (hf _ _).mono ?_); rintro e w' ⟨rfl, rfl⟩)
  go_ret2
  exact ⟨rfl, HC2.out⟩
theorem rtwo_1601 (x y : Int) (hx : In x) (hy : In y) (w : World) (qx0 : (x != 0) = false) (qy0 : (y != 0) = true) (qy1 : (y != 1) = false) (hw : IntKind.i64.wrap (x + y) = x + y) (b : Bool) (hb : decide (0 < x + y) = b) : Calls Try.prog 66 #[.int .i64 16, .int .i64 x, .int .i64 y] w (GaveP w (flagI b) 0) := by
  have hf := r12flagI
  have HX : ∀ w', Calls Try.prog 102 #[.int .i64 x] w' (GaveBg w' (decide (x < 0), x.natAbs)) := fun w' => r12of_any x hx w'
  have HY : ∀ w', Calls Try.prog 102 #[.int .i64 y] w' (GaveBg w' (decide (y < 0), y.natAbs)) := fun w' => r12of_any y hy w'
  have HSX := Lib.hid (show sgn (decide (x < 0)) x.natAbs = x from sgn_abs x)
  have HSY := Lib.hid (show sgn (decide (y < 0)) y.natAbs = y from sgn_abs y)
  have HMX := Lib.hid (show x.natAbs ≤ 9223372036854775808 by unfold In at hx; omega)
  have HMY := Lib.hid (show y.natAbs ≤ 9223372036854775808 by unfold In at hy; omega)
  unfold GaveBg at HX HY
  obtain ⟨bx, hbx⟩ : ∃ b, decide (x < 0) = b := ⟨_, rfl⟩
  obtain ⟨by', hby⟩ : ∃ b, decide (y < 0) = b := ⟨_, rfl⟩
  obtain ⟨mx, hmx⟩ : ∃ b, x.natAbs = b := ⟨_, rfl⟩
  obtain ⟨my, hmy⟩ : ∃ b, y.natAbs = b := ⟨_, rfl⟩
  rw [hbx, hmx] at HX HSX
  rw [hby, hmy] at HY HSY
  rw [hmx] at HMX
  rw [hmy] at HMY
  clear hx hy hbx hby hmx hmy
  go_enter Try.func66, Try.ntmps66
  go_wp2_with fail
  refine (HX _).mono ?_
  clear HX
  rintro e9 w1 ⟨v1, rfl, hv1, hC1⟩
  obtain ⟨vs, rfl, hl1⟩ := hv1
  obtain ⟨xa, xc, rfl⟩ := hl1.form
  have HB1 := Lib.hid (BoxB.new (b := bx) hl1 124)
  have HC1 := Lib.hid (hC1.tr ((Chg.refl (fun _ => False) w1).alloc (.cells #[.bool bx, .slice xa (dg mx).length xc] 124)))
  clear hl1 hC1
  go_wp2_with fail
  refine (HY _).mono ?_
  clear HY
  rintro e9 w2 ⟨v2, rfl, hv2, hC2⟩
  obtain ⟨vs, rfl, hl2⟩ := hv2
  obtain ⟨ya, yc, rfl⟩ := hl2.form
  have HB2 := Lib.hid (BoxB.new (b := by') hl2 124)
  have HB1 := Lib.hid ((HB1.out.fr hC2).fr ((Chg.refl (fun _ => False) w2).alloc (.cells #[.bool by', .slice ya (dg my).length yc] 124)))
  have HC2 := Lib.hid ((HC1.out.tr hC2).tr ((Chg.refl (fun _ => False) w2).alloc (.cells #[.bool by', .slice ya (dg my).length yc] 124)))
  have x0 := HB1.out.c0
  have x1 := HB1.out.c1
  have y0 := HB2.out.c0
  have y1 := HB2.out.c1
  clear hl2 hC2 HC1
  go_wp2_with (go_at_call 109; (with_reducible refine (hf _ _).mono ?_); rintro e w' ⟨rfl, rfl⟩)
  go_ret2
  exact ⟨rfl, HC2.out⟩
theorem rtwo_1610 (x y : Int) (hx : In x) (hy : In y) (w : World) (qx0 : (x != 0) = true) (qx1 : (x != 1) = false) (qy0 : (y != 0) = false) (hw : IntKind.i64.wrap (x + y) = x + y) (b : Bool) (hb : decide (0 < x + y) = b) : Calls Try.prog 66 #[.int .i64 16, .int .i64 x, .int .i64 y] w (GaveP w (flagI b) 0) := by
  have hf := r12flagI
  have HX : ∀ w', Calls Try.prog 102 #[.int .i64 x] w' (GaveBg w' (decide (x < 0), x.natAbs)) := fun w' => r12of_any x hx w'
  have HY : ∀ w', Calls Try.prog 102 #[.int .i64 y] w' (GaveBg w' (decide (y < 0), y.natAbs)) := fun w' => r12of_any y hy w'
  have HSX := Lib.hid (show sgn (decide (x < 0)) x.natAbs = x from sgn_abs x)
  have HSY := Lib.hid (show sgn (decide (y < 0)) y.natAbs = y from sgn_abs y)
  have HMX := Lib.hid (show x.natAbs ≤ 9223372036854775808 by unfold In at hx; omega)
  have HMY := Lib.hid (show y.natAbs ≤ 9223372036854775808 by unfold In at hy; omega)
  unfold GaveBg at HX HY
  obtain ⟨bx, hbx⟩ : ∃ b, decide (x < 0) = b := ⟨_, rfl⟩
  obtain ⟨by', hby⟩ : ∃ b, decide (y < 0) = b := ⟨_, rfl⟩
  obtain ⟨mx, hmx⟩ : ∃ b, x.natAbs = b := ⟨_, rfl⟩
  obtain ⟨my, hmy⟩ : ∃ b, y.natAbs = b := ⟨_, rfl⟩
  rw [hbx, hmx] at HX HSX
  rw [hby, hmy] at HY HSY
  rw [hmx] at HMX
  rw [hmy] at HMY
  clear hx hy hbx hby hmx hmy
  go_enter Try.func66, Try.ntmps66
  go_wp2_with fail
  refine (HX _).mono ?_
  clear HX
  rintro e9 w1 ⟨v1, rfl, hv1, hC1⟩
  obtain ⟨vs, rfl, hl1⟩ := hv1
  obtain ⟨xa, xc, rfl⟩ := hl1.form
  have HB1 := Lib.hid (BoxB.new (b := bx) hl1 124)
  have HC1 := Lib.hid (hC1.tr ((Chg.refl (fun _ => False) w1).alloc (.cells #[.bool bx, .slice xa (dg mx).length xc] 124)))
  clear hl1 hC1
  go_wp2_with fail
  refine (HY _).mono ?_
  clear HY
  rintro e9 w2 ⟨v2, rfl, hv2, hC2⟩
  obtain ⟨vs, rfl, hl2⟩ := hv2
  obtain ⟨ya, yc, rfl⟩ := hl2.form
  have HB2 := Lib.hid (BoxB.new (b := by') hl2 124)
  have HB1 := Lib.hid ((HB1.out.fr hC2).fr ((Chg.refl (fun _ => False) w2).alloc (.cells #[.bool by', .slice ya (dg my).length yc] 124)))
  have HC2 := Lib.hid ((HC1.out.tr hC2).tr ((Chg.refl (fun _ => False) w2).alloc (.cells #[.bool by', .slice ya (dg my).length yc] 124)))
  have x0 := HB1.out.c0
  have x1 := HB1.out.c1
  have y0 := HB2.out.c0
  have y1 := HB2.out.c1
  clear hl2 hC2 HC1
  go_wp2_with (go_at_call 109; (with_reducible refine (hf _ _).mono ?_); rintro e w' ⟨rfl, rfl⟩)
  go_ret2
  exact ⟨rfl, HC2.out⟩
theorem rtwo_1611 (x y : Int) (hx : In x) (hy : In y) (w : World) (qx0 : (x != 0) = true) (qx1 : (x != 1) = false) (qy0 : (y != 0) = true) (qy1 : (y != 1) = false) (hw : IntKind.i64.wrap (x + y) = x + y) (b : Bool) (hb : decide (0 < x + y) = b) : Calls Try.prog 66 #[.int .i64 16, .int .i64 x, .int .i64 y] w (GaveP w (flagI b) 0) := by
  have hf := r12flagI
  have HX : ∀ w', Calls Try.prog 102 #[.int .i64 x] w' (GaveBg w' (decide (x < 0), x.natAbs)) := fun w' => r12of_any x hx w'
  have HY : ∀ w', Calls Try.prog 102 #[.int .i64 y] w' (GaveBg w' (decide (y < 0), y.natAbs)) := fun w' => r12of_any y hy w'
  have HSX := Lib.hid (show sgn (decide (x < 0)) x.natAbs = x from sgn_abs x)
  have HSY := Lib.hid (show sgn (decide (y < 0)) y.natAbs = y from sgn_abs y)
  have HMX := Lib.hid (show x.natAbs ≤ 9223372036854775808 by unfold In at hx; omega)
  have HMY := Lib.hid (show y.natAbs ≤ 9223372036854775808 by unfold In at hy; omega)
  unfold GaveBg at HX HY
  obtain ⟨bx, hbx⟩ : ∃ b, decide (x < 0) = b := ⟨_, rfl⟩
  obtain ⟨by', hby⟩ : ∃ b, decide (y < 0) = b := ⟨_, rfl⟩
  obtain ⟨mx, hmx⟩ : ∃ b, x.natAbs = b := ⟨_, rfl⟩
  obtain ⟨my, hmy⟩ : ∃ b, y.natAbs = b := ⟨_, rfl⟩
  rw [hbx, hmx] at HX HSX
  rw [hby, hmy] at HY HSY
  rw [hmx] at HMX
  rw [hmy] at HMY
  clear hx hy hbx hby hmx hmy
  go_enter Try.func66, Try.ntmps66
  go_wp2_with fail
  refine (HX _).mono ?_
  clear HX
  rintro e9 w1 ⟨v1, rfl, hv1, hC1⟩
  obtain ⟨vs, rfl, hl1⟩ := hv1
  obtain ⟨xa, xc, rfl⟩ := hl1.form
  have HB1 := Lib.hid (BoxB.new (b := bx) hl1 124)
  have HC1 := Lib.hid (hC1.tr ((Chg.refl (fun _ => False) w1).alloc (.cells #[.bool bx, .slice xa (dg mx).length xc] 124)))
  clear hl1 hC1
  go_wp2_with fail
  refine (HY _).mono ?_
  clear HY
  rintro e9 w2 ⟨v2, rfl, hv2, hC2⟩
  obtain ⟨vs, rfl, hl2⟩ := hv2
  obtain ⟨ya, yc, rfl⟩ := hl2.form
  have HB2 := Lib.hid (BoxB.new (b := by') hl2 124)
  have HB1 := Lib.hid ((HB1.out.fr hC2).fr ((Chg.refl (fun _ => False) w2).alloc (.cells #[.bool by', .slice ya (dg my).length yc] 124)))
  have HC2 := Lib.hid ((HC1.out.tr hC2).tr ((Chg.refl (fun _ => False) w2).alloc (.cells #[.bool by', .slice ya (dg my).length yc] 124)))
  have x0 := HB1.out.c0
  have x1 := HB1.out.c1
  have y0 := HB2.out.c0
  have y1 := HB2.out.c1
  clear hl2 hC2 HC1
  go_wp2_with (go_at_call 109; (with_reducible refine (hf _ _).mono ?_); rintro e w' ⟨rfl, rfl⟩)
  go_ret2
  exact ⟨rfl, HC2.out⟩
theorem rtwo_no (f x y : Int) (hx : In x) (hy : In y) (w : World) (h : binB f = false) : Calls Try.prog 66 #[.int .i64 f, .int .i64 x, .int .i64 y] w (GaveP w 0 2) := by
  have h1 : f < 1 ∨ 16 < f := by
    have : ¬ (1 ≤ f ∧ f ≤ 16) := fun q => by rw [binB_iff.2 q] at h; cases h
    omega
  have n1 : (f == 1) = false := beq_eq_false_iff_ne.2 (by omega)
  have n2 : (f == 2) = false := beq_eq_false_iff_ne.2 (by omega)
  have n3 : (f == 3) = false := beq_eq_false_iff_ne.2 (by omega)
  have n4 : (f == 4) = false := beq_eq_false_iff_ne.2 (by omega)
  have n5 : (f == 5) = false := beq_eq_false_iff_ne.2 (by omega)
  have n6 : (f == 6) = false := beq_eq_false_iff_ne.2 (by omega)
  have n7 : (f == 7) = false := beq_eq_false_iff_ne.2 (by omega)
  have n8 : (f == 8) = false := beq_eq_false_iff_ne.2 (by omega)
  have n9 : (f == 9) = false := beq_eq_false_iff_ne.2 (by omega)
  have n10 : (f == 10) = false := beq_eq_false_iff_ne.2 (by omega)
  have n11 : (f == 11) = false := beq_eq_false_iff_ne.2 (by omega)
  have n12 : (f == 12) = false := beq_eq_false_iff_ne.2 (by omega)
  have n13 : (f == 13) = false := beq_eq_false_iff_ne.2 (by omega)
  have n14 : (f == 14) = false := beq_eq_false_iff_ne.2 (by omega)
  have n15 : (f == 15) = false := beq_eq_false_iff_ne.2 (by omega)
  have n16 : (f == 16) = false := beq_eq_false_iff_ne.2 (by omega)
  clear h h1
  have HX : ∀ w', Calls Try.prog 102 #[.int .i64 x] w' (GaveBg w' (decide (x < 0), x.natAbs)) := fun w' => r12of_any x hx w'
  have HY : ∀ w', Calls Try.prog 102 #[.int .i64 y] w' (GaveBg w' (decide (y < 0), y.natAbs)) := fun w' => r12of_any y hy w'
  have HSX := Lib.hid (show sgn (decide (x < 0)) x.natAbs = x from sgn_abs x)
  have HSY := Lib.hid (show sgn (decide (y < 0)) y.natAbs = y from sgn_abs y)
  have HMX := Lib.hid (show x.natAbs ≤ 9223372036854775808 by unfold In at hx; omega)
  have HMY := Lib.hid (show y.natAbs ≤ 9223372036854775808 by unfold In at hy; omega)
  unfold GaveBg at HX HY
  obtain ⟨bx, hbx⟩ : ∃ b, decide (x < 0) = b := ⟨_, rfl⟩
  obtain ⟨by', hby⟩ : ∃ b, decide (y < 0) = b := ⟨_, rfl⟩
  obtain ⟨mx, hmx⟩ : ∃ b, x.natAbs = b := ⟨_, rfl⟩
  obtain ⟨my, hmy⟩ : ∃ b, y.natAbs = b := ⟨_, rfl⟩
  rw [hbx, hmx] at HX HSX
  rw [hby, hmy] at HY HSY
  rw [hmx] at HMX
  rw [hmy] at HMY
  clear hx hy hbx hby hmx hmy
  go_enter Try.func66, Try.ntmps66
  go_wp2_with fail
  refine (HX _).mono ?_
  clear HX
  rintro e9 w1 ⟨v1, rfl, hv1, hC1⟩
  obtain ⟨vs, rfl, hl1⟩ := hv1
  obtain ⟨xa, xc, rfl⟩ := hl1.form
  have HB1 := Lib.hid (BoxB.new (b := bx) hl1 124)
  have HC1 := Lib.hid (hC1.tr ((Chg.refl (fun _ => False) w1).alloc (.cells #[.bool bx, .slice xa (dg mx).length xc] 124)))
  clear hl1 hC1
  go_wp2_with fail
  refine (HY _).mono ?_
  clear HY
  rintro e9 w2 ⟨v2, rfl, hv2, hC2⟩
  obtain ⟨vs, rfl, hl2⟩ := hv2
  obtain ⟨ya, yc, rfl⟩ := hl2.form
  have HB2 := Lib.hid (BoxB.new (b := by') hl2 124)
  have HB1 := Lib.hid ((HB1.out.fr hC2).fr ((Chg.refl (fun _ => False) w2).alloc (.cells #[.bool by', .slice ya (dg my).length yc] 124)))
  have HC2 := Lib.hid ((HC1.out.tr hC2).tr ((Chg.refl (fun _ => False) w2).alloc (.cells #[.bool by', .slice ya (dg my).length yc] 124)))
  have x0 := HB1.out.c0
  have x1 := HB1.out.c1
  have y0 := HB2.out.c0
  have y1 := HB2.out.c1
  clear hl2 hC2 HC1
  go_wp2
  go_ret2
  exact ⟨rfl, HC2.out⟩
theorem bne_t {x k : Int} (h : x ≠ k) : (x != k) = true := by simpa using h
theorem bne_f {x k : Int} (h : x = k) : (x != k) = false := by simpa using h
theorem flags_yes {x y : Int} (hx : x = 0 ∨ x = 1) (hy : y = 0 ∨ y = 1) : flagsB x y = true := by
  unfold flagsB
  rcases hx with rfl | rfl <;> rcases hy with rfl | rfl <;> rfl
theorem flags_no {x y : Int} (h : (x ≠ 0 ∧ x ≠ 1) ∨ (y ≠ 0 ∧ y ≠ 1)) : flagsB x y = false := by
  cases e : flagsB x y with
  | false => rfl
  | true => have := flags_cases e; omega
theorem rtwo_15 (x y : Int) (hx : In x) (hy : In y) (w : World) : Calls Try.prog 66 #[.int .i64 15, .int .i64 x, .int .i64 y] w (GaveP w (andN x y) (logE x y)) := by
  unfold andN logE
  by_cases h0 : x ≠ 0 ∧ x ≠ 1
  · rw [flags_no (.inl h0)]
    exact rtwo_15xo x y hx hy w (bne_t h0.1) (bne_t h0.2)
  · have hxx : x = 0 ∨ x = 1 := by omega
    by_cases h1 : y ≠ 0 ∧ y ≠ 1
    · rw [flags_no (.inr h1)]
      rcases hxx with h | h
      · exact rtwo_150o x y hx hy w (bne_f h) (bne_t h1.1) (bne_t h1.2)
      · exact rtwo_151o x y hx hy w (bne_t (by omega)) (bne_f h) (bne_t h1.1) (bne_t h1.2)
    · have hyy : y = 0 ∨ y = 1 := by omega
      rw [flags_yes hxx hyy]
      have hw : IntKind.i64.wrap (x * y) = x * y := by rcases hxx with rfl | rfl <;> rcases hyy with rfl | rfl <;> rfl
      rcases hxx with h | h <;> rcases hyy with k | k
      · exact rtwo_1500 x y hx hy w (bne_f h) (bne_f k) hw
      · exact rtwo_1501 x y hx hy w (bne_f h) (bne_t (by omega)) (bne_f k) hw
      · exact rtwo_1510 x y hx hy w (bne_t (by omega)) (bne_f h) (bne_f k) hw
      · exact rtwo_1511 x y hx hy w (bne_t (by omega)) (bne_f h) (bne_t (by omega)) (bne_f k) hw
theorem rtwo_16 (x y : Int) (hx : In x) (hy : In y) (w : World) : Calls Try.prog 66 #[.int .i64 16, .int .i64 x, .int .i64 y] w (GaveP w (orN x y) (logE x y)) := by
  unfold orN logE
  by_cases h0 : x ≠ 0 ∧ x ≠ 1
  · rw [flags_no (.inl h0)]
    exact rtwo_16xo x y hx hy w (bne_t h0.1) (bne_t h0.2)
  · have hxx : x = 0 ∨ x = 1 := by omega
    by_cases h1 : y ≠ 0 ∧ y ≠ 1
    · rw [flags_no (.inr h1)]
      rcases hxx with h | h
      · exact rtwo_160o x y hx hy w (bne_f h) (bne_t h1.1) (bne_t h1.2)
      · exact rtwo_161o x y hx hy w (bne_t (by omega)) (bne_f h) (bne_t h1.1) (bne_t h1.2)
    · have hyy : y = 0 ∨ y = 1 := by omega
      rw [flags_yes hxx hyy]
      have hw : IntKind.i64.wrap (x + y) = x + y := by rcases hxx with rfl | rfl <;> rcases hyy with rfl | rfl <;> rfl
      have hr : (if true = true then (if x + y > 0 then (1 : Int) else 0) else 0) = flagI (decide (0 < x + y)) := by
        unfold flagI
        by_cases q : 0 < x + y
        · simp [q]
        · simp [q]
      rw [hr]
      rcases hxx with h | h <;> rcases hyy with k | k
      · exact rtwo_1600 x y hx hy w (bne_f h) (bne_f k) hw _ rfl
      · exact rtwo_1601 x y hx hy w (bne_f h) (bne_t (by omega)) (bne_f k) hw _ rfl
      · exact rtwo_1610 x y hx hy w (bne_t (by omega)) (bne_f h) (bne_f k) hw _ rfl
      · exact rtwo_1611 x y hx hy w (bne_t (by omega)) (bne_f h) (bne_t (by omega)) (bne_f k) hw _ rfl
theorem r12two_any (f x y : Int) (hx : In x) (hy : In y) (w : World) : Calls Try.prog 66 #[.int .i64 f, .int .i64 x, .int .i64 y] w (GaveP w (twoP f x y).1 (twoP f x y).2) := by
  cases h : binB f with
  | false =>
    rw [twoP_no h]
    exact rtwo_no f x y hx hy w h
  | true =>
    rcases bin_cases h with rfl | rfl | rfl | rfl | rfl | rfl | rfl | rfl | rfl | rfl | rfl | rfl | rfl | rfl | rfl | rfl
    · exact rtwo_1 x y hx hy w
    · exact rtwo_2 x y hx hy w
    · exact rtwo_3 x y hx hy w
    · show Calls _ _ _ _ (GaveP w (divN x y) (divE x y))
      unfold divN divE
      by_cases h0 : y = 0
      · rw [if_pos h0, if_pos h0]; exact rtwo_40 x y hx hy w (beq_iff_eq.2 h0)
      · rw [if_neg h0, if_neg h0]; exact rtwo_4 x y hx hy h0 w
    · show Calls _ _ _ _ (GaveP w (remN x y) 0)
      unfold remN
      by_cases h0 : x = 0
      · rw [if_pos h0]; exact rtwo_50 x y hx hy w (beq_iff_eq.2 h0)
      · rw [if_neg h0]; exact rtwo_5 x y hx hy h0 w
    · show Calls _ _ _ _ (GaveP w (min x y) 0)
      by_cases h0 : x < y
      · rw [Int.min_eq_left (by omega)]; exact rtwo_6t x y hx hy w (decide_eq_true h0)
      · rw [Int.min_eq_right (by omega)]; exact rtwo_6f x y hx hy w (decide_eq_false h0)
    · show Calls _ _ _ _ (GaveP w (max x y) 0)
      by_cases h0 : x > y
      · rw [Int.max_eq_left (by omega)]; exact rtwo_7t x y hx hy w (decide_eq_true h0)
      · rw [Int.max_eq_right (by omega)]; exact rtwo_7f x y hx hy w (decide_eq_false h0)
    · exact rtwo_8 x y hx hy w
    · exact rtwo_9 x y hx hy w _ rfl
    · exact rtwo_10 x y hx hy w _ (by by_cases q : x = y <;> simp [q])
    · exact rtwo_11 x y hx hy w _ rfl
    · exact rtwo_12 x y hx hy w _ rfl
    · exact rtwo_13 x y hx hy w _ rfl
    · exact rtwo_14 x y hx hy w _ rfl
    · exact rtwo_15 x y hx hy w
    · exact rtwo_16 x y hx hy w
end Go.Proofs.Ytjmlekdgipinfaa
