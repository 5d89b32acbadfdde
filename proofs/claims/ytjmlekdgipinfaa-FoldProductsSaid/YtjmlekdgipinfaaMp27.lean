/- The document's numbers: signed sums. -/
import Derived.Test.YtjmlekdgipinfaaMp13
import Derived.Test.YtjmlekdgipinfaaMp26
namespace Go.Proofs.Ytjmlekdgipinfaa
open Go.RowKit Go.Shelf

set_option maxHeartbeats 4000000 in
theorem r12add_any (u v : Value) (a b : Bool) (m n : Nat) (w : World) (hU : BigV w u a m) (hV : BigV w v b n) (hl : (dg m).length ≤ 100000) (hl2 : (dg n).length ≤ 100000) : Calls Try.prog 104 #[u, v] w (GaveBg w (addB (a, m) (b, n))) := by
  obtain ⟨us, rfl, hU⟩ := hU
  obtain ⟨vs, rfl, hV⟩ := hV
  obtain ⟨ao, ac, rfl⟩ := hU.form
  obtain ⟨bo, bc, rfl⟩ := hV.form
  obtain ⟨x0, x1⟩ := b2_cells w (.bool a) (.slice ao (dg m).length ac) 124
  have g1 := (Chg.refl (fun _ => False) w).alloc (.cells #[.bool a, .slice ao (dg m).length ac] 124)
  obtain ⟨w1, hw1⟩ : ∃ X, w.alloc (.cells #[.bool a, .slice ao (dg m).length ac] 124) = X := ⟨_, rfl⟩
  have s1 : w1.heap.size = w.heap.size + 1 := by rw [← hw1]; simp
  rw [hw1] at x0 x1 g1
  obtain ⟨y0, y1⟩ := b2_cells w1 (.bool b) (.slice bo (dg n).length bc) 124
  have g2 := (Chg.refl (fun _ => False) w1).alloc (.cells #[.bool b, .slice bo (dg n).length bc] 124)
  obtain ⟨w2, hw2⟩ : ∃ X, w1.alloc (.cells #[.bool b, .slice bo (dg n).length bc] 124) = X := ⟨_, rfl⟩
  have s2 : w2.heap.size = w.heap.size + 2 := by rw [← hw2]; simp [s1]
  rw [hw2] at y0 y1 g2
  obtain ⟨z0, z1⟩ := b2_cells w2 (.bool false) (.slice none 0 0) 124
  have f0 := new_frozen w2 #[.bool false, .slice none 0 0] 124 0
  have f1 := new_frozen w2 #[.bool false, .slice none 0 0] 124 1
  have g3 := (Chg.refl (fun _ => False) w2).alloc (.cells #[.bool false, .slice none 0 0] 124)
  obtain ⟨w3, hw3⟩ : ∃ X, w2.alloc (.cells #[.bool false, .slice none 0 0] 124) = X := ⟨_, rfl⟩
  rw [hw3] at z0 z1 f0 f1 g3
  rw [s2] at z0 z1 f0 f1
  rw [s1] at y0 y1
  replace x0 := (g2.tr g3).cell x0 id
  replace x1 := (g2.tr g3).cell x1 id
  replace y0 := g3.cell y0 id
  replace y1 := g3.cell y1 id
  have HC3 := Lib.hid (g1.tr (g2.tr g3))
  have HU := Lib.hid (hU.fr HC3.out)
  have HV := Lib.hid (hV.fr HC3.out)
  have HL := Lib.hid (And.intro hl hl2)
  have HW := Lib.hid (And.intro hw1 (And.intro hw2 hw3))
  clear g1 g2 g3 s1 s2 hU hV hl hl2 hw1 hw2 hw3
  by_cases hab : a = b
  · subst hab
    have e1 : (a == a) = true := by simp
    have HR := Lib.hid (show addB (a, m) (a, n) = (a, m + n) from if_pos rfl)
    go_enter Try.func104, Try.ntmps104
    go_wp2
    rw [HW.out.1, HW.out.2.1, HW.out.2.2]
    clear HW
    have HKK := Lib.hid (show ∀ w', Chg (fun q => q = w.heap.size + 2) w3 w' → (Chg (fun q => q = w.heap.size + 2) w3 w' ∧ w'.cell? ⟨w.heap.size, 0, none⟩ = some (.bool a) ∧ w'.cell? ⟨w.heap.size, 1, none⟩ = some (.slice ao (dg m).length ac) ∧ w'.cell? ⟨w.heap.size + 1, 0, none⟩ = some (.bool a) ∧ w'.cell? ⟨w.heap.size + 1, 1, none⟩ = some (.slice bo (dg n).length bc)) from fun w' h => ⟨h, h.cell x0 (by simp), h.cell x1 (by simp), h.cell y0 (by simp), h.cell y1 (by simp)⟩)
    have HCQ := Lib.hid (show ∀ w', Chg (fun _ => False) w3 w' → Calls Try.prog 133 #[.slice ao (dg m).length ac, .slice bo (dg n).length bc] w' (GaveLu w' (dg (m + n))) from fun w' h => r12plus_any _ _ m n w' (HU.out.fr h) (HV.out.fr h) HL.out.1 HL.out.2)
    have HZZ := Lib.hid (And.intro z0 (And.intro z1 (And.intro f0 f1)))
    unfold GaveLu at HCQ
    go_region_held3 (fun w' => (Chg (fun q => q = w.heap.size + 2) w3 w' ∧ w'.cell? ⟨w.heap.size, 0, none⟩ = some (.bool a) ∧ w'.cell? ⟨w.heap.size, 1, none⟩ = some (.slice ao (dg m).length ac) ∧ w'.cell? ⟨w.heap.size + 1, 0, none⟩ = some (.bool a) ∧ w'.cell? ⟨w.heap.size + 1, 1, none⟩ = some (.slice bo (dg n).length bc))) ((refine HKK.out _ ?_; repeat (first | (with_reducible exact Chg.refl _ _) | (with_reducible refine chg_drewG ?_) | (with_reducible refine chg_setG ?_) | (with_reducible refine chg_trG ?_ hC5)))) (first
      | (go_at_call 133
         (with_reducible refine (HCQ.out _ (Chg.refl _ _).drew).mono ?_)
         rintro e9 w5 ⟨a5, c5, rfl, hS5, hC5⟩
         have hC5' := (Chg.refl (fun _ => False) w3).drew.tr hC5
         have z0' := hC5'.cell HZZ.out.1 id
         have z1' := hC5'.cell HZZ.out.2.1 id
         have f0' := hC5'.frozen HZZ.out.1 HZZ.out.2.2.1 id
         have f1' := hC5'.frozen HZZ.out.2.1 HZZ.out.2.2.2 id))
    all_goals
      have HS5 := Lib.hid hS5
      have HC5 := Lib.hid hC5'
      obtain ⟨g0, g1⟩ := b2_set (.bool a) (.slice a5 (dg (m + n)).length c5) z0' z1'
      clear hS5 hC5 hC5'
      go_wp2
      simp [bodyPost, results, Try.results104, go_sem, g0, g1]
      rw [HR.out]
      exact ⟨_, rfl, big_leave (b := a) (HC3.out.tr HC5.out) (by omega) z0' z1' HS5.out (by first | exact .inl rfl | exact .inr rfl)⟩
  · have e1 : (a == b) = false := beq_eq_false_iff_ne.2 hab
    have hsz := r12size_any _ _ m n w3 HU.out HV.out (by have := HL.out; omega) (by have := HL.out; omega)
    unfold GaveZ at hsz
    by_cases hnm : n ≤ m
    · have HR := Lib.hid (show addB (a, m) (b, n) = (a, m - n) by unfold addB; rw [if_neg hab, if_pos hnm])
      obtain ⟨z, hz⟩ : ∃ z, szN m n = z := ⟨_, rfl⟩
      have dz : decide (0 ≤ z) = true := decide_eq_true (by rw [← hz]; unfold szN; split <;> (try split) <;> omega)
      rw [hz] at hsz
      have HNM := Lib.hid hnm
      clear hz hab hnm
      go_enter Try.func104, Try.ntmps104
      go_wp2_with fail
      rw [HW.out.1, HW.out.2.1, HW.out.2.2]
      clear HW
      refine hsz.mono ?_
      clear hsz
      rintro e9 w4 ⟨rfl, hC4⟩
      replace f0 := hC4.frozen z0 f0 id
      replace f1 := hC4.frozen z1 f1 id
      replace z0 := hC4.cell z0 id
      replace z1 := hC4.cell z1 id
      replace x0 := hC4.cell x0 id
      replace x1 := hC4.cell x1 id
      replace y0 := hC4.cell y0 id
      replace y1 := hC4.cell y1 id
      replace HU := Lib.hid (HU.out.fr hC4)
      replace HV := Lib.hid (HV.out.fr hC4)
      replace HC3 := Lib.hid (HC3.out.tr hC4)
      clear hC4
      go_wp2
      have HKK := Lib.hid (show ∀ w', Chg (fun q => q = w.heap.size + 2) w4 w' → (Chg (fun q => q = w.heap.size + 2) w4 w' ∧ w'.cell? ⟨w.heap.size, 0, none⟩ = some (.bool a) ∧ w'.cell? ⟨w.heap.size, 1, none⟩ = some (.slice ao (dg m).length ac) ∧ w'.cell? ⟨w.heap.size + 1, 0, none⟩ = some (.bool b) ∧ w'.cell? ⟨w.heap.size + 1, 1, none⟩ = some (.slice bo (dg n).length bc)) from fun w' h => ⟨h, h.cell x0 (by simp), h.cell x1 (by simp), h.cell y0 (by simp), h.cell y1 (by simp)⟩)
      have HCQ := Lib.hid (show ∀ w', Chg (fun _ => False) w4 w' → Calls Try.prog 135 #[.slice ao (dg m).length ac, .slice bo (dg n).length bc] w' (GaveLu w' (dg (m - n))) from fun w' h => r12minus_any _ _ m n w' (HU.out.fr h) (HV.out.fr h) HL.out.1 HNM.out)
      have HZZ := Lib.hid (And.intro z0 (And.intro z1 (And.intro f0 f1)))
      unfold GaveLu at HCQ
      go_region_held3 (fun w' => (Chg (fun q => q = w.heap.size + 2) w4 w' ∧ w'.cell? ⟨w.heap.size, 0, none⟩ = some (.bool a) ∧ w'.cell? ⟨w.heap.size, 1, none⟩ = some (.slice ao (dg m).length ac) ∧ w'.cell? ⟨w.heap.size + 1, 0, none⟩ = some (.bool b) ∧ w'.cell? ⟨w.heap.size + 1, 1, none⟩ = some (.slice bo (dg n).length bc))) ((refine HKK.out _ ?_; repeat (first | (with_reducible exact Chg.refl _ _) | (with_reducible refine chg_drewG ?_) | (with_reducible refine chg_setG ?_) | (with_reducible refine chg_trG ?_ hC5)))) (first
        | (go_at_call 135
           (with_reducible refine (HCQ.out _ (Chg.refl _ _).drew).mono ?_)
           rintro e9 w5 ⟨a5, c5, rfl, hS5, hC5⟩
           have hC5' := (Chg.refl (fun _ => False) w4).drew.tr hC5
           have z0' := hC5'.cell HZZ.out.1 id
           have z1' := hC5'.cell HZZ.out.2.1 id
           have f0' := hC5'.frozen HZZ.out.1 HZZ.out.2.2.1 id
           have f1' := hC5'.frozen HZZ.out.2.1 HZZ.out.2.2.2 id))
      all_goals
        have HS5 := Lib.hid hS5
        have HC5 := Lib.hid hC5'
        obtain ⟨g0, g1⟩ := b2_set (.bool a) (.slice a5 (dg (m - n)).length c5) z0' z1'
        clear hS5 hC5 hC5'
        go_wp2
        simp [bodyPost, results, Try.results104, go_sem, g0, g1]
        rw [HR.out]
        exact ⟨_, rfl, big_leave (b := a) (HC3.out.tr HC5.out) (by omega) z0' z1' HS5.out (by first | exact .inl rfl | exact .inr rfl)⟩
    · have HR := Lib.hid (show addB (a, m) (b, n) = (b, n - m) by unfold addB; rw [if_neg hab, if_neg hnm])
      obtain ⟨z, hz⟩ : ∃ z, szN m n = z := ⟨_, rfl⟩
      have dz : decide (0 ≤ z) = false := decide_eq_false (by rw [← hz]; unfold szN; rw [if_pos (by omega)]; decide)
      rw [hz] at hsz
      have HNM := Lib.hid (show m ≤ n by omega)
      clear hz hab hnm
      go_enter Try.func104, Try.ntmps104
      go_wp2_with fail
      rw [HW.out.1, HW.out.2.1, HW.out.2.2]
      clear HW
      refine hsz.mono ?_
      clear hsz
      rintro e9 w4 ⟨rfl, hC4⟩
      replace f0 := hC4.frozen z0 f0 id
      replace f1 := hC4.frozen z1 f1 id
      replace z0 := hC4.cell z0 id
      replace z1 := hC4.cell z1 id
      replace x0 := hC4.cell x0 id
      replace x1 := hC4.cell x1 id
      replace y0 := hC4.cell y0 id
      replace y1 := hC4.cell y1 id
      replace HU := Lib.hid (HU.out.fr hC4)
      replace HV := Lib.hid (HV.out.fr hC4)
      replace HC3 := Lib.hid (HC3.out.tr hC4)
      clear hC4
      go_wp2
      have HKK := Lib.hid (show ∀ w', Chg (fun q => q = w.heap.size + 2) w4 w' → (Chg (fun q => q = w.heap.size + 2) w4 w' ∧ w'.cell? ⟨w.heap.size, 0, none⟩ = some (.bool a) ∧ w'.cell? ⟨w.heap.size, 1, none⟩ = some (.slice ao (dg m).length ac) ∧ w'.cell? ⟨w.heap.size + 1, 0, none⟩ = some (.bool b) ∧ w'.cell? ⟨w.heap.size + 1, 1, none⟩ = some (.slice bo (dg n).length bc)) from fun w' h => ⟨h, h.cell x0 (by simp), h.cell x1 (by simp), h.cell y0 (by simp), h.cell y1 (by simp)⟩)
      have HCQ := Lib.hid (show ∀ w', Chg (fun _ => False) w4 w' → Calls Try.prog 135 #[.slice bo (dg n).length bc, .slice ao (dg m).length ac] w' (GaveLu w' (dg (n - m))) from fun w' h => r12minus_any _ _ n m w' (HV.out.fr h) (HU.out.fr h) HL.out.2 HNM.out)
      have HZZ := Lib.hid (And.intro z0 (And.intro z1 (And.intro f0 f1)))
      unfold GaveLu at HCQ
      go_region_held3 (fun w' => (Chg (fun q => q = w.heap.size + 2) w4 w' ∧ w'.cell? ⟨w.heap.size, 0, none⟩ = some (.bool a) ∧ w'.cell? ⟨w.heap.size, 1, none⟩ = some (.slice ao (dg m).length ac) ∧ w'.cell? ⟨w.heap.size + 1, 0, none⟩ = some (.bool b) ∧ w'.cell? ⟨w.heap.size + 1, 1, none⟩ = some (.slice bo (dg n).length bc))) ((refine HKK.out _ ?_; repeat (first | (with_reducible exact Chg.refl _ _) | (with_reducible refine chg_drewG ?_) | (with_reducible refine chg_setG ?_) | (with_reducible refine chg_trG ?_ hC5)))) (first
        | (go_at_call 135
           (with_reducible refine (HCQ.out _ (Chg.refl _ _).drew).mono ?_)
           rintro e9 w5 ⟨a5, c5, rfl, hS5, hC5⟩
           have hC5' := (Chg.refl (fun _ => False) w4).drew.tr hC5
           have z0' := hC5'.cell HZZ.out.1 id
           have z1' := hC5'.cell HZZ.out.2.1 id
           have f0' := hC5'.frozen HZZ.out.1 HZZ.out.2.2.1 id
           have f1' := hC5'.frozen HZZ.out.2.1 HZZ.out.2.2.2 id))
      all_goals
        have HS5 := Lib.hid hS5
        have HC5 := Lib.hid hC5'
        obtain ⟨g0, g1⟩ := b2_set (.bool b) (.slice a5 (dg (n - m)).length c5) z0' z1'
        clear hS5 hC5 hC5'
        go_wp2
        simp [bodyPost, results, Try.results104, go_sem, g0, g1]
        rw [HR.out]
        exact ⟨_, rfl, big_leave (b := b) (HC3.out.tr HC5.out) (by omega) z0' z1' HS5.out (by first | exact .inl rfl | exact .inr rfl)⟩
end Go.Proofs.Ytjmlekdgipinfaa
/- The document's numbers: a number of 64 bits, if it is one; differences. -/
namespace Go.Proofs.Ytjmlekdgipinfaa
open Go.RowKit Go.Shelf

theorem vl_drop_le (l : List Nat) (j : Nat) : vl (l.drop j) ≤ vl l := by
  by_cases h : j ≤ l.length
  · rw [vl_split l j h]
    have := Nat.mul_le_mul_right (vl (l.drop j)) (pw_pos j)
    omega
  · rw [List.drop_eq_nil_of_le (by omega)]; exact Nat.zero_le _
set_option maxHeartbeats 4000000 in
theorem r12fit_any (v : Value) (b : Bool) (m : Nat) (w : World) (hV : BigV w v b m) (hl : (dg m).length ≤ 100000) : Calls Try.prog 103 #[v] w (GaveP w (fitN (sgn b m)) (fitE (sgn b m))) := by
  obtain ⟨vs, rfl, hV⟩ := hV
  obtain ⟨ao, ac, rfl⟩ := hV.form
  obtain ⟨x0, x1⟩ := b2_cells w (.bool b) (.slice ao (dg m).length ac) 124
  have g1 := (Chg.refl (fun _ => False) w).alloc (.cells #[.bool b, .slice ao (dg m).length ac] 124)
  obtain ⟨n, hn⟩ : ∃ n, (dg m).length = n := ⟨_, rfl⟩
  rw [hn] at x1 g1 hV hl ⊢
  rw [hn] at x0
  have HC := Lib.hid g1
  have HV := Lib.hid (hV.fr g1)
  have HN := Lib.hid hn
  have hp4 : pw 4 = 18446744073709551616 := by decide
  clear hV g1
  by_cases h4 : 4 < n
  · have d1 : decide ((4 : Int) < (n : Int)) = true := decide_eq_true (by omega)
    have hge : 18446744073709551616 ≤ m := by rw [← hp4]; exact dg_ge (by omega)
    have hni : ¬ In (sgn b m) := by unfold In sgn; cases b <;> simp <;> omega
    rw [fitN_out hni, fitE_out hni]
    clear hn hl h4 hge hni hp4
    go_enter Try.func103, Try.ntmps103
    go_wp2
    go_ret2
    exact ⟨rfl, HC.out⟩
  · have d1 : decide ((4 : Int) < (n : Int)) = false := decide_eq_false (by omega)
    have HLT := Lib.hid (show m < 18446744073709551616 by
      have := dg_lt m
      rw [hn] at this
      have := pw_mono (show n ≤ 4 by omega)
      omega)
    have HN4 := Lib.hid (show n ≤ 4 by omega)
    have kw : IntKind.i64.wrap ((n : Int) - 1) = (n : Int) - 1 := IntWalk.i64_in _ (by omega)
    clear hn hl h4 hp4
    go_enter Try.func103, Try.ntmps103
    go_wp2
    clear kw d1
    go_loopw [4, 5] (fun v4 v5 wr => ∃ (j : Nat) (i : Int), i = (j : Int) - 1 ∧ j ≤ n ∧ v5 = .int .i64 i ∧ v4 = .int .u64 (vl ((dg m).drop j) : Nat) ∧ Chg (fun _ => False) (w.alloc (.cells #[.bool b, .slice ao n ac] 124)) wr) (fun _ v5 _ => (intOf v5 + 1).toNat)
    case atStart => exact ⟨n, (n : Int) - 1, rfl, Nat.le_refl _, rfl, by rw [List.drop_eq_nil_of_le (by have := HN.out; omega)]; rfl, Chg.refl _ _⟩
    case round =>
      obtain ⟨j, i, hi, hj, rfl, rfl, hC⟩ := hrel
      replace x0 := hC.cell x0 id
      replace x1 := hC.cell x1 id
      by_cases h0 : j = 0
      · subst h0
        obtain rfl : i = -1 := by omega
        rw [List.drop_zero, vl_dg]
        have HCW := Lib.hid (HC.out.tr hC)
        clear hi hj hC
        cases b with
        | true =>
          by_cases hm : m ≤ 9223372036854775808
          · have d1 : decide ((m : Int) ≤ 9223372036854775808) = true := decide_eq_true (by omega)
            have d2 : decide (m ≤ 9223372036854775808) = true := decide_eq_true hm
            have hin := ((fit_sgn true m).1 rfl).1 hm
            have HIN := Lib.hid hin
            obtain ⟨u, hu⟩ : ∃ u, IntKind.u64.wrap (-(m : Int)) = u := ⟨_, rfl⟩
            have k2 : IntKind.i64.wrap u = -(m : Int) := by
              rw [← hu, IntKind.wrap_u64, IntKind.wrap_i64]
              omega
            clear hm hin
            go_wp2
            go_ret2
            exact ⟨by rw [fitN_in HIN.out, fitE_in HIN.out]; rfl, HCW.out⟩
          · have d1 : decide ((m : Int) ≤ 9223372036854775808) = false := decide_eq_false (by omega)
            have d2 : decide (m ≤ 9223372036854775808) = false := decide_eq_false hm
            have hni : ¬ In (sgn true m) := fun h => hm (((fit_sgn true m).1 rfl).2 h)
            have HIN := Lib.hid hni
            clear hm hni
            go_wp2
            go_ret2
            exact ⟨by rw [fitN_out HIN.out, fitE_out HIN.out]; rfl, HCW.out⟩
        | false =>
          by_cases hm : m ≤ 9223372036854775807
          · have d1 : decide ((m : Int) ≤ 9223372036854775807) = true := decide_eq_true (by omega)
            have d2 : decide (m ≤ 9223372036854775807) = true := decide_eq_true hm
            have hin := ((fit_sgn false m).2 rfl).1 hm
            have HIN := Lib.hid hin
            have k2 : IntKind.i64.wrap (m : Int) = (m : Int) := IntWalk.i64_in _ (by omega)
            clear hm hin
            go_wp2
            go_ret2
            exact ⟨by rw [fitN_in HIN.out, fitE_in HIN.out]; rfl, HCW.out⟩
          · have d1 : decide ((m : Int) ≤ 9223372036854775807) = false := decide_eq_false (by omega)
            have d2 : decide (m ≤ 9223372036854775807) = false := decide_eq_false hm
            have hni : ¬ In (sgn false m) := fun h => hm (((fit_sgn false m).2 rfl).2 h)
            have HIN := Lib.hid hni
            clear hm hni
            go_wp2
            go_ret2
            exact ⟨by rw [fitN_out HIN.out, fitE_out HIN.out]; rfl, HCW.out⟩
      · obtain ⟨k, rfl⟩ : ∃ k, j = k + 1 := ⟨j - 1, by omega⟩
        obtain rfl : i = (k : Int) := by omega
        have hkl : k < (dg m).length := by have := HN.out; omega
        obtain ⟨b2, o2, e2, hx⟩ := (HV.out.fr hC).at hkl
        subst e2
        have hdr : vl ((dg m).drop k) = (dg m)[k] + 65536 * vl ((dg m).drop (k + 1)) := by rw [List.drop_eq_getElem_cons hkl]; rfl
        have hle := vl_drop_le (dg m) k
        rw [vl_dg] at hle
        have hlt := HLT.out
        generalize (dg m)[k] = x at *
        obtain ⟨t, ht⟩ : ∃ t, vl ((dg m).drop k) = t := ⟨_, rfl⟩
        have HT := Lib.hid ht
        rw [ht] at hdr hle
        generalize vl ((dg m).drop (k + 1)) = u at *
        obtain ⟨s, hs⟩ : ∃ s, 65536 * u = s := ⟨_, rfl⟩
        have u1 : IntKind.u64.wrap (65536 * (u : Int)) = (s : Int) := (IntWalk.u64_in _ (by omega)).trans (by omega)
        have u2 := u64_add s x t (by omega) (by omega)
        have k1 : (0 : Int) ≤ (k : Int) := Int.natCast_nonneg k
        have k2 : (k : Int) < (n : Int) := by omega
        have kw : IntKind.i64.wrap ((k : Int) - 1) = (k : Int) - 1 := IntWalk.i64_in _ (by have := HN4.out; omega)
        have HK := Lib.hid hj
        clear hkl hdr hle hlt ht hs h0 hi hj
        go_wp2
        go_roundw
        case rel => exact ⟨k, (k : Int) - 1, rfl, by have := HK.out; omega, rfl, by rw [HT.out], hC⟩
        case measure => simp only [intOf]; omega
set_option maxHeartbeats 4000000 in
theorem r12less_any (u v : Value) (a b : Bool) (m n : Nat) (w : World) (hU : BigV w u a m) (hV : BigV w v b n) (hl : (dg m).length ≤ 100000) (hl2 : (dg n).length ≤ 100000) : Calls Try.prog 105 #[u, v] w (GaveBg w (addB (a, m) (!b, n))) := by
  obtain ⟨us, rfl, hU⟩ := hU
  obtain ⟨vs, rfl, hV⟩ := hV
  obtain ⟨ao, ac, rfl⟩ := hU.form
  obtain ⟨bo, bc, rfl⟩ := hV.form
  obtain ⟨w1, hw1⟩ : ∃ X, w.alloc (.cells #[.bool a, .slice ao (dg m).length ac] 124) = X := ⟨_, rfl⟩
  obtain ⟨w2, hw2⟩ : ∃ X, w1.alloc (.cells #[.bool b, .slice bo (dg n).length bc] 124) = X := ⟨_, rfl⟩
  obtain ⟨w3, hw3⟩ : ∃ X, w2.alloc (.cells #[.bool false, .slice none 0 0] 124) = X := ⟨_, rfl⟩
  have s1 : w1.heap.size = w.heap.size + 1 := by rw [← hw1]; simp
  have s2 : w2.heap.size = w.heap.size + 2 := by rw [← hw2]; simp [s1]
  have g1 : Chg (fun _ => False) w w1 := by rw [← hw1]; exact (Chg.refl _ _).alloc _
  have g2 : Chg (fun _ => False) w1 w2 := by rw [← hw2]; exact (Chg.refl _ _).alloc _
  have g3 : Chg (fun _ => False) w2 w3 := by rw [← hw3]; exact (Chg.refl _ _).alloc _
  obtain ⟨z0, z1⟩ := b2_cells w2 (.bool false) (.slice none 0 0) 124
  have f0 := new_frozen w2 #[.bool false, .slice none 0 0] 124 0
  have f1 := new_frozen w2 #[.bool false, .slice none 0 0] 124 1
  rw [hw3, s2] at z0 z1 f0 f1
  have HC3 := Lib.hid (g1.tr (g2.tr g3))
  have hadd := r12add_any _ _ a (!b) m n w3 ⟨_, rfl, hU.fr HC3.out⟩ ⟨_, rfl, hV.fr HC3.out⟩ hl hl2
  unfold GaveBg at hadd
  have HW := Lib.hid (And.intro hw1 (And.intro hw2 hw3))
  obtain ⟨p, hp⟩ : ∃ p, addB (a, m) (!b, n) = p := ⟨_, rfl⟩
  rw [hp] at hadd ⊢
  clear g1 g2 g3 s1 s2 hU hV hl hl2 hw1 hw2 hw3 hp
  go_enter Try.func105, Try.ntmps105
  go_wp2_with fail
  rw [HW.out.1, HW.out.2.1, HW.out.2.2]
  refine hadd.mono ?_
  clear hadd
  rintro e9 w4 ⟨vr, rfl, hvr, hC4⟩
  obtain ⟨vs, rfl, hvs⟩ := hvr
  obtain ⟨ra, rc, rfl⟩ := hvs.form
  replace f0 := hC4.frozen z0 f0 id
  replace f1 := hC4.frozen z1 f1 id
  replace z0 := hC4.cell z0 id
  replace z1 := hC4.cell z1 id
  have HS := Lib.hid hvs
  have HC4 := Lib.hid hC4
  obtain ⟨g0, g1⟩ := b2_set (.bool p.1) (.slice ra (dg p.2).length rc) z0 z1
  clear hvs hC4
  go_wp2
  simp [bodyPost, results, Try.results105, go_sem, g0, g1]
  exact ⟨_, rfl, big_leave (b := p.1) (HC3.out.tr HC4.out) (by omega) z0 z1 HS.out (.inl rfl)⟩
end Go.Proofs.Ytjmlekdgipinfaa
