/- The document's numbers: a flag; powers. -/
import Derived.Test.YtjmlekdgipinfaaMp29
import Derived.Test.YtjmlekdgipinfaaMp17
namespace Go.Proofs.Ytjmlekdgipinfaa
open Go.RowKit Go.Shelf

theorem r12flag_any (b : Bool) (w : World) : Calls Try.prog 109 #[.bool b] w (fun e w' => e = .returned (.int .i64 (if b then 1 else 0)) ∧ w' = w) := by
  cases b
  · go_enter Try.func109, Try.ntmps109
    go_wp2
    go_ret
    exact ⟨rfl, rfl⟩
  · go_enter Try.func109, Try.ntmps109
    go_wp2
    go_ret
    exact ⟨rfl, rfl⟩
theorem rpow_one (y : Int) (w : World) (b : Bool) (hb : (y == 0) = b) : Calls Try.prog 108 #[.int .i64 1, .int .i64 y] w (GaveP w 1 0) := by
  cases b
  · go_enter Try.func108, Try.ntmps108
    go_wp2
    go_ret2
    exact ⟨rfl, Chg.refl _ _⟩
  · go_enter Try.func108, Try.ntmps108
    go_wp2
    go_ret2
    exact ⟨rfl, Chg.refl _ _⟩
theorem rpow_y0 (x : Int) (w : World) : Calls Try.prog 108 #[.int .i64 x, .int .i64 0] w (GaveP w 1 0) := by
  go_enter Try.func108, Try.ntmps108
  go_wp2
  go_ret2
  exact ⟨rfl, Chg.refl _ _⟩
theorem rpow_m1 (y : Int) (w : World) (b : Bool) (h0 : (y == 0) = false) (hb : (y % 2 == 1) = b) : Calls Try.prog 108 #[.int .i64 (-1), .int .i64 y] w (GaveP w (if b then -1 else 1) 0) := by
  have hf := r12flag_any
  obtain ⟨t, ht⟩ : ∃ t, Int.tmod y 2 = t := ⟨_, rfl⟩
  have hcase : (b = true ∧ (t = 1 ∨ t = -1)) ∨ (b = false ∧ t = 0) := by
    have h1 := Int.mul_tdiv_add_tmod y 2
    have h2 := Int.tmod_lt_of_pos y (show (0 : Int) < 2 by decide)
    have h3 := Int.lt_tmod_of_pos y (show (0 : Int) < 2 by decide)
    rw [ht] at h1 h2 h3
    generalize y.tdiv 2 = q at h1
    cases b with
    | true => have := beq_iff_eq.1 hb; exact .inl ⟨rfl, by omega⟩
    | false => have := beq_eq_false_iff_ne.1 hb; exact .inr ⟨rfl, by omega⟩
  have hw : IntKind.i64.wrap t = t := IntWalk.i64_in _ (by rcases hcase with ⟨_, rfl | rfl⟩ | ⟨_, rfl⟩ <;> decide)
  have hne : (t != 0) = b := by rcases hcase with ⟨rfl, rfl | rfl⟩ | ⟨rfl, rfl⟩ <;> rfl
  clear hcase hb
  cases b
  · go_enter Try.func108, Try.ntmps108
    go_wp2_with (go_at_call 109; (with_reducible refine (hf _ _).mono ?_); rintro e w' ⟨rfl, rfl⟩)
    go_ret2
    exact ⟨rfl, Chg.refl _ _⟩
  · go_enter Try.func108, Try.ntmps108
    go_wp2_with (go_at_call 109; (with_reducible refine (hf _ _).mono ?_); rintro e w' ⟨rfl, rfl⟩)
    go_ret2
    exact ⟨rfl, Chg.refl _ _⟩
theorem rpow_neg (x y : Int) (w : World) (h1 : (x == 1) = false) (h2 : (x == -1) = false) (h0 : (y == 0) = false) (hy : decide (y < 0) = true) : Calls Try.prog 108 #[.int .i64 x, .int .i64 y] w (GaveP w 0 5) := by
  go_enter Try.func108, Try.ntmps108
  go_wp2
  go_ret2
  exact ⟨rfl, Chg.refl _ _⟩
theorem rpow_x0 (y : Int) (w : World) (h0 : (y == 0) = false) (hy : decide (y < 0) = false) : Calls Try.prog 108 #[.int .i64 0, .int .i64 y] w (GaveP w 0 0) := by
  go_enter Try.func108, Try.ntmps108
  go_wp2
  go_ret2
  exact ⟨rfl, Chg.refl _ _⟩
theorem sgn_abs2 (b : Bool) (m : Nat) : (sgn b m).natAbs = m := by cases b <;> simp [sgn]
theorem dg_small5 {m : Nat} (h : m < 340282366920938463463374607431768211456) : (dg m).length ≤ 10000 := dg_small (by rw [pw8]; exact h)
set_option maxHeartbeats 4000000 in
theorem rpow_main (x : Int) (y p : Nat) (w : World) (hx : In x) (h1 : (x == 1) = false) (h2 : (x == -1) = false) (hx0 : (x == 0) = false) (h0 : (((y : Nat) : Int) == 0) = false) (hy : In y) (hp : x.natAbs = p) (hp2 : 2 ≤ p) :
    Calls Try.prog 108 #[.int .i64 x, .int .i64 ((y : Nat) : Int)] w (GaveP w (fitN (x ^ y)) (fitE (x ^ y))) := by
  have hd : decide (((y : Nat) : Int) < 0) = false := decide_eq_false (by omega)
  have H1 : ∀ w', Calls Try.prog 102 #[.int .i64 1] w' (GaveBg w' (false, 1)) := fun w' => r12of_any 1 (by unfold In; decide) w'
  have HX := Lib.hid (show ∀ w', Calls Try.prog 102 #[.int .i64 x] w' (GaveBg w' (decide (x < 0), p)) from fun w' => by rw [← hp]; exact r12of_any x hx w')
  have HXS := Lib.hid (show sgn (decide (x < 0)) p = x by rw [← hp]; exact sgn_abs x)
  have HPB := Lib.hid (show p ≤ 9223372036854775808 by unfold In at hx; omega)
  have HP2 := Lib.hid hp2
  have HYB := Lib.hid hy
  obtain ⟨bx, hbx⟩ : ∃ b, decide (x < 0) = b := ⟨_, rfl⟩
  rw [hbx] at HX HXS
  unfold GaveBg at H1 HX
  clear hp hp2 hbx hx hy
  go_enter Try.func108, Try.ntmps108
  go_wp2_with fail
  refine (H1 _).mono ?_
  clear H1
  rintro e9 w1 ⟨v1, rfl, hv1, hC1⟩
  obtain ⟨vs, rfl, hl⟩ := hv1
  obtain ⟨oa, oc, rfl⟩ := hl.form
  have hB := BoxB.new (b := false) hl 124
  obtain ⟨g, hg⟩ : ∃ g, w1.heap.size = g := ⟨_, rfl⟩
  obtain ⟨w2, hw2⟩ : ∃ X, w1.alloc (.cells #[.bool false, .slice oa (dg 1).length oc] 124) = X := ⟨_, rfl⟩
  have hC2 : Chg (fun _ => False) w w2 := by rw [← hw2]; exact hC1.tr ((Chg.refl _ _).alloc _)
  have HG := Lib.hid (show w.heap.size ≤ g by rw [← hg]; exact hC1.size)
  rw [hw2, hg] at hB
  have HW := Lib.hid (And.intro hw2 hg)
  have HB := Lib.hid hB
  have HC2 := Lib.hid hC2
  clear hl hB hw2 hg hC1 hC2
  go_wp2
  rw [HW.out.1, HW.out.2]
  clear HW
  go_loopw [7] (fun v7 wr => ∃ (k m : Nat) (b : Bool) (ao : Option Addr) (ac : Nat), k ≤ y ∧ v7 = .int .i64 k ∧ m < 18446744073709551616 ∧ sgn b m = x ^ k ∧ BoxB wr g b m ao ac ∧ Chg (fun _ => False) w wr) (fun v7 _ => y - (intOf v7).toNat)
  case atStart => exact ⟨0, 1, false, oa, oc, Nat.zero_le _, rfl, by decide, by rw [Int.pow_zero]; rfl, HB.out, HC2.out⟩
  case round =>
    clear HB HC2
    obtain ⟨k, m, b, ao, ac, hk, rfl, hm, hs, hB, hC⟩ := hrel
    have HB := Lib.hid hB
    have HS := Lib.hid hs
    have HC := Lib.hid hC
    have q0 := hB.c0
    have q1 := hB.c1
    by_cases hky : k < y
    · have hky' : decide (k < y) = true := decide_eq_true hky
      have hkw : IntKind.i64.wrap ((k : Int) + 1) = (k : Int) + 1 := IntWalk.i64_in _ (by have := HYB.out; unfold In at this; omega)
      have HKY := Lib.hid hky
      have HM := Lib.hid hm
      have HMP := Lib.hid (show m * p < 340282366920938463463374607431768211456 from Nat.lt_of_le_of_lt (Nat.mul_le_mul (Nat.le_of_lt hm) HPB.out) (by decide))
      have f0 := hB.f0
      have f1 := hB.f1
      have HMUL := Lib.hid (show ∀ w' v, Chg (fun _ => False) wr w' → BigV w' v bx p → Calls Try.prog 106 #[.agg #[.bool b, .slice ao (dg m).length ac], v] w' (GaveBg w' (b != bx, m * p)) from fun w' v h hv => r12mul_any _ _ b bx m p w' ((HB.out.fr h).big) hv (dg_small5 (by have := HM.out; omega)) (dg_small5 (by have := HPB.out; omega)))
      unfold GaveBg at HMUL
      have HSN := Lib.hid (show sgn (b != bx) (m * p) = x ^ (k + 1) by rw [sgn_mul, HS.out, HXS.out, Int.pow_succ])
      clear hB hs hC hky hm
      go_wp2
      go_region_with (first
        | (go_at_call 102; (with_reducible refine (HX.out _).mono ?_); rintro e9 wh ⟨vh, rfl, hvh, hCh⟩; (have hCh2 := (Chg.refl (fun _ => False) wr).drew.tr hCh); (have hvh2 := hvh); (obtain ⟨vh1, rfl, hlh⟩ := hvh); (obtain ⟨ah, ch, rfl⟩ := hlh.form); (have q0' := hCh2.cell q0 id); (have q1' := hCh2.cell q1 id))
        | (go_at_call 106; (with_reducible refine (HMUL.out _ _ hCh2 hvh2).mono ?_); rintro e9 wi ⟨vi, rfl, hvi, hCi⟩; (have hCi2 := hCh2.tr hCi); (obtain ⟨vi1, rfl, hli⟩ := hvi); (obtain ⟨ai, ci, rfl⟩ := hli.form); (have z0' := hCi2.cell q0 id); (have z1' := hCi2.cell q1 id); (have g0' := hCi2.frozen q0 f0 id); (have g1' := hCi2.frozen q1 f1 id)))
      all_goals
        have hBN := (HB.out.fr hCi2).put (b2 := b != bx) hli
        have hCN := ((HC.out.tr hCi2).setCell (p := ⟨g, 0, none⟩) (.inr HG.out) (.bool (b != bx))).setCell (p := ⟨g, 1, none⟩) (.inr HG.out) (.slice ai (dg (m * p)).length ci)
        obtain ⟨wj, hwj⟩ : ∃ X, (wi.setCell ⟨g, 0, none⟩ (.bool (b != bx))).setCell ⟨g, 1, none⟩ (.slice ai (dg (m * p)).length ci) = X := ⟨_, rfl⟩
        rw [hwj] at hBN hCN
        try rw [hwj]
        clear hwj hCh hCh2 hvh2 hlh hCi hCi2 hli q0 q1 f0 f1 q0' q1' z0' z1' g0' g1' HMUL HX
        have HBN := Lib.hid hBN
        have HCN := Lib.hid hCN
        have r1 := hBN.c1
        obtain ⟨L, hL⟩ : ∃ L, (dg (m * p)).length = L := ⟨_, rfl⟩
        rw [hL] at r1
        clear hBN hCN
        by_cases h4 : 4 < L
        · have d1 : decide (4 < L) = true := decide_eq_true h4
          have d2 : decide ((4 : Int) < (L : Int)) = true := decide_eq_true (by omega)
          have hbig : 18446744073709551616 ≤ m * p := by
            have h := dg_ge (n := m * p) (k := 4) (by omega)
            have hp4 : pw 4 = 18446744073709551616 := by decide
            omega
          have hni : ¬ In (x ^ y) := by
            intro h
            unfold In at h
            have e1 : (x ^ (k + 1)).natAbs = m * p := by rw [← HSN.out, sgn_abs2]
            have e2 : (x ^ y).natAbs = x.natAbs ^ y := Int.natAbs_pow x y
            have e3 : (x ^ (k + 1)).natAbs = x.natAbs ^ (k + 1) := Int.natAbs_pow x (k + 1)
            have e4 : x.natAbs = p := by rw [← HXS.out, sgn_abs2]
            rw [e4] at e2 e3
            have e5 : p ^ (k + 1) ≤ p ^ y := Nat.pow_le_pow_right (by have := HP2.out; omega) HKY.out
            omega
          have HNI := Lib.hid hni
          clear hbig hni h4 hL
          go_wp2
          go_ret2
          exact ⟨by rw [fitN_out HNI.out, fitE_out HNI.out]; rfl, HCN.out⟩
        · have d1 : decide (4 < L) = false := decide_eq_false h4
          have d2 : decide ((4 : Int) < (L : Int)) = false := decide_eq_false (by omega)
          have HSM := Lib.hid (show m * p < 18446744073709551616 by
            have h := dg_lt (m * p)
            have h2 := pw_mono (show (dg (m * p)).length ≤ 4 by omega)
            have hp4 : pw 4 = 18446744073709551616 := by decide
            omega)
          clear h4 hL
          go_wp2
          go_roundw
          case rel => exact ⟨k + 1, m * p, _, _, _, HKY.out, congrArg (Value.int IntKind.i64) (Int.natCast_succ k).symm, HSM.out, HSN.out, HBN.out, HCN.out⟩
          case measure => exact fit_meas k y HKY.out
    · obtain rfl : k = y := by omega
      have hky' : decide (k < k) = false := decide_eq_false hky
      have hF := r12fit_any _ b m wr hB.big (Nat.le_trans (dg_small5 (by omega)) (by decide))
      rw [HS.out] at hF
      clear hB hs hC hky hm
      go_wp2_with (go_at_call 103; (with_reducible refine hF.mono ?_); rintro e9 w9 ⟨rfl, hC9⟩)
      go_ret2
      exact ⟨rfl, HC.out.tr hC9⟩
theorem r12pow_any (x y : Int) (hx : In x) (hy : In y) (w : World) : Calls Try.prog 108 #[.int .i64 x, .int .i64 y] w (GaveP w (powN x y) (powE x y)) := by
  by_cases x1 : x = 1
  · subst x1
    have e1 : powN 1 y = 1 := by unfold powN; rw [Int.one_pow, fitN_in one_in]; split <;> rfl
    have e2 : powE 1 y = 0 := by unfold powE; rw [Int.one_pow, fitE_in one_in]; split <;> rfl
    rw [e1, e2]
    exact rpow_one y w _ rfl
  have b1 : (x == 1) = false := beq_eq_false_iff_ne.2 x1
  by_cases y0 : y = 0
  · subst y0
    rw [show powN x 0 = 1 by unfold powN; rw [if_pos (by decide)]; show fitN (x ^ 0) = 1; rw [Int.pow_zero]; exact fitN_in one_in, show powE x 0 = 0 by unfold powE; rw [if_pos (by decide)]; show fitE (x ^ 0) = 0; rw [Int.pow_zero]; exact fitE_in one_in]
    exact rpow_y0 x w
  have b0 : (y == 0) = false := beq_eq_false_iff_ne.2 y0
  by_cases xm : x = -1
  · subst xm
    have e1 : powN (-1) y = if (y % 2 == 1) = true then -1 else 1 := by
      unfold powN
      rw [neg_pow, Int.one_pow]
      by_cases h : 0 ≤ y
      · rw [if_pos h]
        by_cases h2 : y % 2 = 1
        · rw [if_pos (by omega), if_pos (beq_iff_eq.2 h2)]; rfl
        · rw [if_neg (by omega), if_neg (fun e => h2 (beq_iff_eq.1 e))]; rfl
      · rw [if_neg h, if_neg (by decide), if_pos rfl]
        by_cases h2 : y % 2 = 1
        · rw [if_pos h2, if_pos (beq_iff_eq.2 h2)]
        · rw [if_neg h2, if_neg (fun e => h2 (beq_iff_eq.1 e))]
    have e2 : powE (-1) y = 0 := by
      unfold powE
      rw [neg_pow, Int.one_pow]
      split
      · split <;> rfl
      · rfl
    rw [e1, e2]
    exact rpow_m1 y w _ b0 rfl
  have bm : (x == -1) = false := beq_eq_false_iff_ne.2 xm
  by_cases yn : y < 0
  · rw [show powN x y = 0 by unfold powN; rw [if_neg (by omega), if_neg x1, if_neg xm], show powE x y = 5 by unfold powE; rw [if_neg (by omega), if_neg (by omega)]]
    exact rpow_neg x y w b1 bm b0 (decide_eq_true yn)
  obtain ⟨n, rfl⟩ := Int.eq_ofNat_of_zero_le (show 0 ≤ y by omega)
  rw [show powN x n = fitN (x ^ n) by unfold powN; rw [if_pos (by omega)]; rfl, show powE x n = fitE (x ^ n) by unfold powE; rw [if_pos (by omega)]; rfl]
  by_cases x0 : x = 0
  · subst x0
    rw [Int.zero_pow (by omega)]
    exact rpow_x0 _ w b0 (decide_eq_false (by omega))
  exact rpow_main x n x.natAbs w hx b1 bm (beq_eq_false_iff_ne.2 x0) b0 hy rfl (by omega)
end Go.Proofs.Ytjmlekdgipinfaa
/- The document's functions of two numbers. -/
namespace Go.Proofs.Ytjmlekdgipinfaa
open Go.RowKit Go.Shelf

set_option maxHeartbeats 4000000 in
theorem rtwo_1 (x y : Int) (hx : In x) (hy : In y) (w : World) : Calls Try.prog 66 #[.int .i64 1, .int .i64 x, .int .i64 y] w (GaveP w (fitN (x + y)) (fitE (x + y))) := by
  have HX : ∀ w', Calls Try.prog 102 #[.int .i64 x] w' (GaveBg w' (decide (x < 0), x.natAbs)) := fun w' => r12of_any x hx w'
  have HY : ∀ w', Calls Try.prog 102 #[.int .i64 y] w' (GaveBg w' (decide (y < 0), y.natAbs)) := fun w' => r12of_any y hy w'
  have HSX := Lib.hid (show sgn (decide (x < 0)) x.natAbs = x from sgn_abs x)
  have HSY := Lib.hid (show sgn (decide (y < 0)) y.natAbs = y from sgn_abs y)
  have HMX := Lib.hid (show x.natAbs ≤ 9223372036854775808 by unfold In at hx; omega)
  have HMY := Lib.hid (show y.natAbs ≤ 9223372036854775808 by unfold In at hy; omega)
  unfold GaveBg at HX HY
  obtain ⟨bx, hbx⟩ : ∃ b, decide (x < 0) = b := ⟨_, rfl⟩
  obtain ⟨by', hby⟩ : ∃ b, decide (y < 0) = b := ⟨_, rfl⟩
  obtain ⟨mx, hmx⟩ : ∃ b, x.natAbs = b := ⟨_, rfl⟩
  obtain ⟨my, hmy⟩ : ∃ b, y.natAbs = b := ⟨_, rfl⟩
  rw [hbx, hmx] at HX HSX
  rw [hby, hmy] at HY HSY
  rw [hmx] at HMX
  rw [hmy] at HMY
  clear hx hy hbx hby hmx hmy
  go_enter Try.func66, Try.ntmps66
  go_wp2_with fail
  refine (HX _).mono ?_
  clear HX
  rintro e9 w1 ⟨v1, rfl, hv1, hC1⟩
  obtain ⟨vs, rfl, hl1⟩ := hv1
  obtain ⟨xa, xc, rfl⟩ := hl1.form
  have HB1 := Lib.hid (BoxB.new (b := bx) hl1 124)
  have HC1 := Lib.hid (hC1.tr ((Chg.refl (fun _ => False) w1).alloc (.cells #[.bool bx, .slice xa (dg mx).length xc] 124)))
  clear hl1 hC1
  go_wp2_with fail
  refine (HY _).mono ?_
  clear HY
  rintro e9 w2 ⟨v2, rfl, hv2, hC2⟩
  obtain ⟨vs, rfl, hl2⟩ := hv2
  obtain ⟨ya, yc, rfl⟩ := hl2.form
  have HB2 := Lib.hid (BoxB.new (b := by') hl2 124)
  have HB1 := Lib.hid ((HB1.out.fr hC2).fr ((Chg.refl (fun _ => False) w2).alloc (.cells #[.bool by', .slice ya (dg my).length yc] 124)))
  have HC2 := Lib.hid ((HC1.out.tr hC2).tr ((Chg.refl (fun _ => False) w2).alloc (.cells #[.bool by', .slice ya (dg my).length yc] 124)))
  have x0 := HB1.out.c0
  have x1 := HB1.out.c1
  have y0 := HB2.out.c0
  have y1 := HB2.out.c1
  clear hl2 hC2 HC1
  have HP := Lib.hid (show sgn (addB (bx, mx) (by', my)).1 (addB (bx, mx) (by', my)).2 = x + y from by rw [addB_sgn, HSX.out, HSY.out])
  have HPB := Lib.hid (show (addB (bx, mx) (by', my)).2 < 340282366920938463463374607431768211456 from Nat.lt_of_le_of_lt (addB_le _ _) (by have := HMX.out; have := HMY.out; show mx + my < _; omega))
  have hop := r12add_any _ _ bx by' mx my _ HB1.out.big HB2.out.big (Nat.le_trans (dg_small5 (by have := HMX.out; omega)) (by decide)) (Nat.le_trans (dg_small5 (by have := HMY.out; omega)) (by decide))
  unfold GaveBg at hop
  generalize addB (bx, mx) (by', my) = p at *
  go_wp2_with fail
  refine hop.mono ?_
  clear hop x0 x1 y0 y1
  rintro e9 w3 ⟨v3, rfl, hv3, hC3⟩
  have hft := r12fit_any _ _ _ w3 hv3 (Nat.le_trans (dg_small5 HPB.out) (by decide))
  rw [HP.out] at hft
  obtain ⟨vs, rfl, hl3⟩ := hv3
  obtain ⟨za, zc, rfl⟩ := hl3.form
  clear hl3
  go_wp2_with fail
  refine hft.mono ?_
  clear hft
  rintro e9 w4 ⟨rfl, hC4⟩
  have HCZ := Lib.hid ((HC2.out.tr hC3).tr hC4)
  clear hC3 hC4
  go_wp2
  go_ret2
  exact ⟨rfl, HCZ.out⟩
set_option maxHeartbeats 4000000 in
theorem rtwo_2 (x y : Int) (hx : In x) (hy : In y) (w : World) : Calls Try.prog 66 #[.int .i64 2, .int .i64 x, .int .i64 y] w (GaveP w (fitN (x - y)) (fitE (x - y))) := by
  have HX : ∀ w', Calls Try.prog 102 #[.int .i64 x] w' (GaveBg w' (decide (x < 0), x.natAbs)) := fun w' => r12of_any x hx w'
  have HY : ∀ w', Calls Try.prog 102 #[.int .i64 y] w' (GaveBg w' (decide (y < 0), y.natAbs)) := fun w' => r12of_any y hy w'
  have HSX := Lib.hid (show sgn (decide (x < 0)) x.natAbs = x from sgn_abs x)
  have HSY := Lib.hid (show sgn (decide (y < 0)) y.natAbs = y from sgn_abs y)
  have HMX := Lib.hid (show x.natAbs ≤ 9223372036854775808 by unfold In at hx; omega)
  have HMY := Lib.hid (show y.natAbs ≤ 9223372036854775808 by unfold In at hy; omega)
  unfold GaveBg at HX HY
  obtain ⟨bx, hbx⟩ : ∃ b, decide (x < 0) = b := ⟨_, rfl⟩
  obtain ⟨by', hby⟩ : ∃ b, decide (y < 0) = b := ⟨_, rfl⟩
  obtain ⟨mx, hmx⟩ : ∃ b, x.natAbs = b := ⟨_, rfl⟩
  obtain ⟨my, hmy⟩ : ∃ b, y.natAbs = b := ⟨_, rfl⟩
  rw [hbx, hmx] at HX HSX
  rw [hby, hmy] at HY HSY
  rw [hmx] at HMX
  rw [hmy] at HMY
  clear hx hy hbx hby hmx hmy
  go_enter Try.func66, Try.ntmps66
  go_wp2_with fail
  refine (HX _).mono ?_
  clear HX
  rintro e9 w1 ⟨v1, rfl, hv1, hC1⟩
  obtain ⟨vs, rfl, hl1⟩ := hv1
  obtain ⟨xa, xc, rfl⟩ := hl1.form
  have HB1 := Lib.hid (BoxB.new (b := bx) hl1 124)
  have HC1 := Lib.hid (hC1.tr ((Chg.refl (fun _ => False) w1).alloc (.cells #[.bool bx, .slice xa (dg mx).length xc] 124)))
  clear hl1 hC1
  go_wp2_with fail
  refine (HY _).mono ?_
  clear HY
  rintro e9 w2 ⟨v2, rfl, hv2, hC2⟩
  obtain ⟨vs, rfl, hl2⟩ := hv2
  obtain ⟨ya, yc, rfl⟩ := hl2.form
  have HB2 := Lib.hid (BoxB.new (b := by') hl2 124)
  have HB1 := Lib.hid ((HB1.out.fr hC2).fr ((Chg.refl (fun _ => False) w2).alloc (.cells #[.bool by', .slice ya (dg my).length yc] 124)))
  have HC2 := Lib.hid ((HC1.out.tr hC2).tr ((Chg.refl (fun _ => False) w2).alloc (.cells #[.bool by', .slice ya (dg my).length yc] 124)))
  have x0 := HB1.out.c0
  have x1 := HB1.out.c1
  have y0 := HB2.out.c0
  have y1 := HB2.out.c1
  clear hl2 hC2 HC1
  have HP := Lib.hid (show sgn (addB (bx, mx) (!by', my)).1 (addB (bx, mx) (!by', my)).2 = x - y from by rw [addB_sgn, sgn_not, HSX.out, HSY.out]; omega)
  have HPB := Lib.hid (show (addB (bx, mx) (!by', my)).2 < 340282366920938463463374607431768211456 from Nat.lt_of_le_of_lt (addB_le _ _) (by have := HMX.out; have := HMY.out; show mx + my < _; omega))
  have hop := r12less_any _ _ bx by' mx my _ HB1.out.big HB2.out.big (Nat.le_trans (dg_small5 (by have := HMX.out; omega)) (by decide)) (Nat.le_trans (dg_small5 (by have := HMY.out; omega)) (by decide))
  unfold GaveBg at hop
  generalize addB (bx, mx) (!by', my) = p at *
  go_wp2_with fail
  refine hop.mono ?_
  clear hop x0 x1 y0 y1
  rintro e9 w3 ⟨v3, rfl, hv3, hC3⟩
  have hft := r12fit_any _ _ _ w3 hv3 (Nat.le_trans (dg_small5 HPB.out) (by decide))
  rw [HP.out] at hft
  obtain ⟨vs, rfl, hl3⟩ := hv3
  obtain ⟨za, zc, rfl⟩ := hl3.form
  clear hl3
  go_wp2_with fail
  refine hft.mono ?_
  clear hft
  rintro e9 w4 ⟨rfl, hC4⟩
  have HCZ := Lib.hid ((HC2.out.tr hC3).tr hC4)
  clear hC3 hC4
  go_wp2
  go_ret2
  exact ⟨rfl, HCZ.out⟩
set_option maxHeartbeats 4000000 in
theorem rtwo_3 (x y : Int) (hx : In x) (hy : In y) (w : World) : Calls Try.prog 66 #[.int .i64 3, .int .i64 x, .int .i64 y] w (GaveP w (fitN (x * y)) (fitE (x * y))) := by
  have HX : ∀ w', Calls Try.prog 102 #[.int .i64 x] w' (GaveBg w' (decide (x < 0), x.natAbs)) := fun w' => r12of_any x hx w'
  have HY : ∀ w', Calls Try.prog 102 #[.int .i64 y] w' (GaveBg w' (decide (y < 0), y.natAbs)) := fun w' => r12of_any y hy w'
  have HSX := Lib.hid (show sgn (decide (x < 0)) x.natAbs = x from sgn_abs x)
  have HSY := Lib.hid (show sgn (decide (y < 0)) y.natAbs = y from sgn_abs y)
  have HMX := Lib.hid (show x.natAbs ≤ 9223372036854775808 by unfold In at hx; omega)
  have HMY := Lib.hid (show y.natAbs ≤ 9223372036854775808 by unfold In at hy; omega)
  unfold GaveBg at HX HY
  obtain ⟨bx, hbx⟩ : ∃ b, decide (x < 0) = b := ⟨_, rfl⟩
  obtain ⟨by', hby⟩ : ∃ b, decide (y < 0) = b := ⟨_, rfl⟩
  obtain ⟨mx, hmx⟩ : ∃ b, x.natAbs = b := ⟨_, rfl⟩
  obtain ⟨my, hmy⟩ : ∃ b, y.natAbs = b := ⟨_, rfl⟩
  rw [hbx, hmx] at HX HSX
  rw [hby, hmy] at HY HSY
  rw [hmx] at HMX
  rw [hmy] at HMY
  clear hx hy hbx hby hmx hmy
  go_enter Try.func66, Try.ntmps66
  go_wp2_with fail
  refine (HX _).mono ?_
  clear HX
  rintro e9 w1 ⟨v1, rfl, hv1, hC1⟩
  obtain ⟨vs, rfl, hl1⟩ := hv1
  obtain ⟨xa, xc, rfl⟩ := hl1.form
  have HB1 := Lib.hid (BoxB.new (b := bx) hl1 124)
  have HC1 := Lib.hid (hC1.tr ((Chg.refl (fun _ => False) w1).alloc (.cells #[.bool bx, .slice xa (dg mx).length xc] 124)))
  clear hl1 hC1
  go_wp2_with fail
  refine (HY _).mono ?_
  clear HY
  rintro e9 w2 ⟨v2, rfl, hv2, hC2⟩
  obtain ⟨vs, rfl, hl2⟩ := hv2
  obtain ⟨ya, yc, rfl⟩ := hl2.form
  have HB2 := Lib.hid (BoxB.new (b := by') hl2 124)
  have HB1 := Lib.hid ((HB1.out.fr hC2).fr ((Chg.refl (fun _ => False) w2).alloc (.cells #[.bool by', .slice ya (dg my).length yc] 124)))
  have HC2 := Lib.hid ((HC1.out.tr hC2).tr ((Chg.refl (fun _ => False) w2).alloc (.cells #[.bool by', .slice ya (dg my).length yc] 124)))
  have x0 := HB1.out.c0
  have x1 := HB1.out.c1
  have y0 := HB2.out.c0
  have y1 := HB2.out.c1
  clear hl2 hC2 HC1
  have HP := Lib.hid (show sgn ((bx != by', mx * my)).1 ((bx != by', mx * my)).2 = x * y from by rw [sgn_mul, HSX.out, HSY.out])
  have HPB := Lib.hid (show ((bx != by', mx * my)).2 < 340282366920938463463374607431768211456 from Nat.lt_of_le_of_lt (Nat.mul_le_mul HMX.out HMY.out) (by decide))
  have hop := r12mul_any _ _ bx by' mx my _ HB1.out.big HB2.out.big (dg_small5 (by have := HMX.out; omega)) (dg_small5 (by have := HMY.out; omega))
  unfold GaveBg at hop
  generalize (bx != by', mx * my) = p at *
  go_wp2_with fail
  refine hop.mono ?_
  clear hop x0 x1 y0 y1
  rintro e9 w3 ⟨v3, rfl, hv3, hC3⟩
  have hft := r12fit_any _ _ _ w3 hv3 (Nat.le_trans (dg_small5 HPB.out) (by decide))
  rw [HP.out] at hft
  obtain ⟨vs, rfl, hl3⟩ := hv3
  obtain ⟨za, zc, rfl⟩ := hl3.form
  clear hl3
  go_wp2_with fail
  refine hft.mono ?_
  clear hft
  rintro e9 w4 ⟨rfl, hC4⟩
  have HCZ := Lib.hid ((HC2.out.tr hC3).tr hC4)
  clear hC3 hC4
  go_wp2
  go_ret2
  exact ⟨rfl, HCZ.out⟩
end Go.Proofs.Ytjmlekdgipinfaa
