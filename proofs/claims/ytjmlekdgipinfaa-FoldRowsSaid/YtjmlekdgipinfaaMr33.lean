/- The document's numbers: signed sums. -/
import Derived.Test.YtjmlekdgipinfaaMr14
import Derived.Test.YtjmlekdgipinfaaMr32
namespace Go.Proofs.Ytjmlekdgipinfaa
open Go.RowKit Go.Shelf

set_option maxHeartbeats 4000000 in
theorem r12add_any (u v : Value) (a b : Bool) (m n : Nat) (w : World) (hU : BigV w u a m) (hV : BigV w v b n) (hl : (dg m).length ≤ 100000) (hl2 : (dg n).length ≤ 100000) : Calls Try.prog 104 #[u, v] w (GaveBg w (addB (a, m) (b, n))) := by
  obtain ⟨us, rfl, hU⟩ := hU
  obtain ⟨vs, rfl, hV⟩ := hV
  obtain ⟨ao, ac, rfl⟩ := hU.form
  obtain ⟨bo, bc, rfl⟩ := hV.form
  obtain ⟨x0, x1⟩ := b2_cells w (.bool a) (.slice ao (dg m).length ac) 124
  have g1 := (Chg.refl (fun _ => False) w).alloc (.cells #[.bool a, .slice ao (dg m).length ac] 124)
  obtain ⟨w1, hw1⟩ : ∃ X, w.alloc (.cells #[.bool a, .slice ao (dg m).length ac] 124) = X := ⟨_, rfl⟩
  have s1 : w1.heap.size = w.heap.size + 1 := by rw [← hw1]; simp
  rw [hw1] at x0 x1 g1
  obtain ⟨y0, y1⟩ := b2_cells w1 (.bool b) (.slice bo (dg n).length bc) 124
  have g2 := (Chg.refl (fun _ => False) w1).alloc (.cells #[.bool b, .slice bo (dg n).length bc] 124)
  obtain ⟨w2, hw2⟩ : ∃ X, w1.alloc (.cells #[.bool b, .slice bo (dg n).length bc] 124) = X := ⟨_, rfl⟩
  have s2 : w2.heap.size = w.heap.size + 2 := by rw [← hw2]; simp [s1]
  rw [hw2] at y0 y1 g2
  obtain ⟨z0, z1⟩ := b2_cells w2 (.bool false) (.slice none 0 0) 124
  have f0 := new_frozen w2 #[.bool false, .slice none 0 0] 124 0
  have f1 := new_frozen w2 #[.bool false, .slice none 0 0] 124 1
  have g3 := (Chg.refl (fun _ => False) w2).alloc (.cells #[.bool false, .slice none 0 0] 124)
  obtain ⟨w3, hw3⟩ : ∃ X, w2.alloc (.cells #[.bool false, .slice none 0 0] 124) = X := ⟨_, rfl⟩
  rw [hw3] at z0 z1 f0 f1 g3
  rw [s2] at z0 z1 f0 f1
  rw [s1] at y0 y1
  replace x0 := (g2.tr g3).cell x0 id
  replace x1 := (g2.tr g3).cell x1 id
  replace y0 := g3.cell y0 id
  replace y1 := g3.cell y1 id
  have HC3 := Lib.hid (g1.tr (g2.tr g3))
  have HU := Lib.hid (hU.fr HC3.out)
  have HV := Lib.hid (hV.fr HC3.out)
  have HL := Lib.hid (And.intro hl hl2)
  have HW := Lib.hid (And.intro hw1 (And.intro hw2 hw3))
  clear g1 g2 g3 s1 s2 hU hV hl hl2 hw1 hw2 hw3
  by_cases hab : a = b
  · subst hab
    have e1 : (a == a) = true := by simp
    have HR := Lib.hid (show addB (a, m) (a, n) = (a, m + n) from if_pos rfl)
    go_enter Try.func104, Try.ntmps104
    go_wp2
    rw [HW.out.1, HW.out.2.1, HW.out.2.2]
    clear HW
    have HKK := Lib.hid (show ∀ w', Chg (fun q => q = w.heap.size + 2) w3 w' → (Chg (fun q => q = w.heap.size + 2) w3 w' ∧ w'.cell? ⟨w.heap.size, 0, none⟩ = some (.bool a) ∧ w'.cell? ⟨w.heap.size, 1, none⟩ = some (.slice ao (dg m).length ac) ∧ w'.cell? ⟨w.heap.size + 1, 0, none⟩ = some (.bool a) ∧ w'.cell? ⟨w.heap.size + 1, 1, none⟩ = some (.slice bo (dg n).length bc)) from fun w' h => ⟨h, h.cell x0 (by simp), h.cell x1 (by simp), h.cell y0 (by simp), h.cell y1 (by simp)⟩)
    have HCQ := Lib.hid (show ∀ w', Chg (fun _ => False) w3 w' → Calls Try.prog 133 #[.slice ao (dg m).length ac, .slice bo (dg n).length bc] w' (GaveLu w' (dg (m + n))) from fun w' h => r12plus_any _ _ m n w' (HU.out.fr h) (HV.out.fr h) HL.out.1 HL.out.2)
    have HZZ := Lib.hid (And.intro z0 (And.intro z1 (And.intro f0 f1)))
    unfold GaveLu at HCQ
    go_region_held3 (fun w' => (Chg (fun q => q = w.heap.size + 2) w3 w' ∧ w'.cell? ⟨w.heap.size, 0, none⟩ = some (.bool a) ∧ w'.cell? ⟨w.heap.size, 1, none⟩ = some (.slice ao (dg m).length ac) ∧ w'.cell? ⟨w.heap.size + 1, 0, none⟩ = some (.bool a) ∧ w'.cell? ⟨w.heap.size + 1, 1, none⟩ = some (.slice bo (dg n).length bc))) ((refine HKK.out _ ?_; repeat (first | (with_reducible exact Chg.refl _ _) | (with_reducible refine chg_drewG ?_) | (with_reducible refine chg_setG ?_) | (with_reducible refine chg_trG ?_ hC5)))) (first
      | (go_at_call 133
         (with_reducible refine (HCQ.out _ (Chg.refl _ _).drew).mono ?_)
         rintro e9 w5 ⟨a5, c5, rfl, hS5, hC5⟩
         have hC5' := (Chg.refl (fun _ => False) w3).drew.tr hC5
         have z0' := hC5'.cell HZZ.out.1 id
         have z1' := hC5'.cell HZZ.out.2.1 id
         have f0' := hC5'.frozen HZZ.out.1 HZZ.out.2.2.1 id
         have f1' := hC5'.frozen HZZ.out.2.1 HZZ.out.2.2.2 id))
    all_goals
      have HS5 := Lib.hid hS5
      have HC5 := Lib.hid hC5'
      obtain ⟨g0, g1⟩ := b2_set (.bool a) (.slice a5 (dg (m + n)).length c5) z0' z1'
      clear hS5 hC5 hC5'
      go_wp2
      simp [bodyPost, results, Try.results104, go_sem, g0, g1]
      rw [HR.out]
      exact ⟨_, rfl, big_leave (b := a) (HC3.out.tr HC5.out) (by omega) z0' z1' HS5.out (by first | exact .inl rfl | exact .inr rfl)⟩
  · have e1 : (a == b) = false := beq_eq_false_iff_ne.2 hab
    have hsz := r12size_any _ _ m n w3 HU.out HV.out (by have := HL.out; omega) (by have := HL.out; omega)
    unfold GaveZ at hsz
    by_cases hnm : n ≤ m
    · have HR := Lib.hid (show addB (a, m) (b, n) = (a, m - n) by unfold addB; rw [if_neg hab, if_pos hnm])
      obtain ⟨z, hz⟩ : ∃ z, szN m n = z := ⟨_, rfl⟩
      have dz : decide (0 ≤ z) = true := decide_eq_true (by rw [← hz]; unfold szN; split <;> (try split) <;> omega)
      rw [hz] at hsz
      have HNM := Lib.hid hnm
      clear hz hab hnm
      go_enter Try.func104, Try.ntmps104
      go_wp2_with fail
      rw [HW.out.1, HW.out.2.1, HW.out.2.2]
      clear HW
      refine hsz.mono ?_
      clear hsz
      rintro e9 w4 ⟨rfl, hC4⟩
      replace f0 := hC4.frozen z0 f0 id
      replace f1 := hC4.frozen z1 f1 id
      replace z0 := hC4.cell z0 id
      replace z1 := hC4.cell z1 id
      replace x0 := hC4.cell x0 id
      replace x1 := hC4.cell x1 id
      replace y0 := hC4.cell y0 id
      replace y1 := hC4.cell y1 id
      replace HU := Lib.hid (HU.out.fr hC4)
      replace HV := Lib.hid (HV.out.fr hC4)
      replace HC3 := Lib.hid (HC3.out.tr hC4)
      clear hC4
      go_wp2
      have HKK := Lib.hid (show ∀ w', Chg (fun q => q = w.heap.size + 2) w4 w' → (Chg (fun q => q = w.heap.size + 2) w4 w' ∧ w'.cell? ⟨w.heap.size, 0, none⟩ = some (.bool a) ∧ w'.cell? ⟨w.heap.size, 1, none⟩ = some (.slice ao (dg m).length ac) ∧ w'.cell? ⟨w.heap.size + 1, 0, none⟩ = some (.bool b) ∧ w'.cell? ⟨w.heap.size + 1, 1, none⟩ = some (.slice bo (dg n).length bc)) from fun w' h => ⟨h, h.cell x0 (by simp), h.cell x1 (by simp), h.cell y0 (by simp), h.cell y1 (by simp)⟩)
      have HCQ := Lib.hid (show ∀ w', Chg (fun _ => False) w4 w' → Calls Try.prog 135 #[.slice ao (dg m).length ac, .slice bo (dg n).length bc] w' (GaveLu w' (dg (m - n))) from fun w' h => r12minus_any _ _ m n w' (HU.out.fr h) (HV.out.fr h) HL.out.1 HNM.out)
      have HZZ := Lib.hid (And.intro z0 (And.intro z1 (And.intro f0 f1)))
      unfold GaveLu at HCQ
      go_region_held3 (fun w' => (Chg (fun q => q = w.heap.size + 2) w4 w' ∧ w'.cell? ⟨w.heap.size, 0, none⟩ = some (.bool a) ∧ w'.cell? ⟨w.heap.size, 1, none⟩ = some (.slice ao (dg m).length ac) ∧ w'.cell? ⟨w.heap.size + 1, 0, none⟩ = some (.bool b) ∧ w'.cell? ⟨w.heap.size + 1, 1, none⟩ = some (.slice bo (dg n).length bc))) ((refine HKK.out _ ?_; repeat (first | (with_reducible exact Chg.refl _ _) | (with_reducible refine chg_drewG ?_) | (with_reducible refine chg_setG ?_) | (with_reducible refine chg_trG ?_ hC5)))) (first
        | (go_at_call 135
           (with_reducible refine (HCQ.out _ (Chg.refl _ _).drew).mono ?_)
           rintro e9 w5 ⟨a5, c5, rfl, hS5, hC5⟩
           have hC5' := (Chg.refl (fun _ => False) w4).drew.tr hC5
           have z0' := hC5'.cell HZZ.out.1 id
           have z1' := hC5'.cell HZZ.out.2.1 id
           have f0' := hC5'.frozen HZZ.out.1 HZZ.out.2.2.1 id
           have f1' := hC5'.frozen HZZ.out.2.1 HZZ.out.2.2.2 id))
      all_goals
        have HS5 := Lib.hid hS5
        have HC5 := Lib.hid hC5'
        obtain ⟨g0, g1⟩ := b2_set (.bool a) (.slice a5 (dg (m - n)).length c5) z0' z1'
        clear hS5 hC5 hC5'
        go_wp2
        simp [bodyPost, results, Try.results104, go_sem, g0, g1]
        rw [HR.out]
        exact ⟨_, rfl, big_leave (b := a) (HC3.out.tr HC5.out) (by omega) z0' z1' HS5.out (by first | exact .inl rfl | exact .inr rfl)⟩
    · have HR := Lib.hid (show addB (a, m) (b, n) = (b, n - m) by unfold addB; rw [if_neg hab, if_neg hnm])
      obtain ⟨z, hz⟩ : ∃ z, szN m n = z := ⟨_, rfl⟩
      have dz : decide (0 ≤ z) = false := decide_eq_false (by rw [← hz]; unfold szN; rw [if_pos (by omega)]; decide)
      rw [hz] at hsz
      have HNM := Lib.hid (show m ≤ n by omega)
      clear hz hab hnm
      go_enter Try.func104, Try.ntmps104
      go_wp2_with fail
      rw [HW.out.1, HW.out.2.1, HW.out.2.2]
      clear HW
      refine hsz.mono ?_
      clear hsz
      rintro e9 w4 ⟨rfl, hC4⟩
      replace f0 := hC4.frozen z0 f0 id
      replace f1 := hC4.frozen z1 f1 id
      replace z0 := hC4.cell z0 id
      replace z1 := hC4.cell z1 id
      replace x0 := hC4.cell x0 id
      replace x1 := hC4.cell x1 id
      replace y0 := hC4.cell y0 id
      replace y1 := hC4.cell y1 id
      replace HU := Lib.hid (HU.out.fr hC4)
      replace HV := Lib.hid (HV.out.fr hC4)
      replace HC3 := Lib.hid (HC3.out.tr hC4)
      clear hC4
      go_wp2
      have HKK := Lib.hid (show ∀ w', Chg (fun q => q = w.heap.size + 2) w4 w' → (Chg (fun q => q = w.heap.size + 2) w4 w' ∧ w'.cell? ⟨w.heap.size, 0, none⟩ = some (.bool a) ∧ w'.cell? ⟨w.heap.size, 1, none⟩ = some (.slice ao (dg m).length ac) ∧ w'.cell? ⟨w.heap.size + 1, 0, none⟩ = some (.bool b) ∧ w'.cell? ⟨w.heap.size + 1, 1, none⟩ = some (.slice bo (dg n).length bc)) from fun w' h => ⟨h, h.cell x0 (by simp), h.cell x1 (by simp), h.cell y0 (by simp), h.cell y1 (by simp)⟩)
      have HCQ := Lib.hid (show ∀ w', Chg (fun _ => False) w4 w' → Calls Try.prog 135 #[.slice bo (dg n).length bc, .slice ao (dg m).length ac] w' (GaveLu w' (dg (n - m))) from fun w' h => r12minus_any _ _ n m w' (HV.out.fr h) (HU.out.fr h) HL.out.2 HNM.out)
      have HZZ := Lib.hid (And.intro z0 (And.intro z1 (And.intro f0 f1)))
      unfold GaveLu at HCQ
      go_region_held3 (fun w' => (Chg (fun q => q = w.heap.size + 2) w4 w' ∧ w'.cell? ⟨w.heap.size, 0, none⟩ = some (.bool a) ∧ w'.cell? ⟨w.heap.size, 1, none⟩ = some (.slice ao (dg m).length ac) ∧ w'.cell? ⟨w.heap.size + 1, 0, none⟩ = some (.bool b) ∧ w'.cell? ⟨w.heap.size + 1, 1, none⟩ = some (.slice bo (dg n).length bc))) ((refine HKK.out _ ?_; repeat (first | (with_reducible exact Chg.refl _ _) | (with_reducible refine chg_drewG ?_) | (with_reducible refine chg_setG ?_) | (with_reducible refine chg_trG ?_ hC5)))) (first
        | (go_at_call 135
           (with_reducible refine (HCQ.out _ (Chg.refl _ _).drew).mono ?_)
           rintro e9 w5 ⟨a5, c5, rfl, hS5, hC5⟩
           have hC5' := (Chg.refl (fun _ => False) w4).drew.tr hC5
           have z0' := hC5'.cell HZZ.out.1 id
           have z1' := hC5'.cell HZZ.out.2.1 id
           have f0' := hC5'.frozen HZZ.out.1 HZZ.out.2.2.1 id
           have f1' := hC5'.frozen HZZ.out.2.1 HZZ.out.2.2.2 id))
      all_goals
        have HS5 := Lib.hid hS5
        have HC5 := Lib.hid hC5'
        obtain ⟨g0, g1⟩ := b2_set (.bool b) (.slice a5 (dg (n - m)).length c5) z0' z1'
        clear hS5 hC5 hC5'
        go_wp2
        simp [bodyPost, results, Try.results104, go_sem, g0, g1]
        rw [HR.out]
        exact ⟨_, rfl, big_leave (b := b) (HC3.out.tr HC5.out) (by omega) z0' z1' HS5.out (by first | exact .inl rfl | exact .inr rfl)⟩
end Go.Proofs.Ytjmlekdgipinfaa
