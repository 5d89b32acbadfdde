/- FoldParts. -/
import Derived.Test.YtjmlekdgipinfaaFdM
import Derived.Test.YtjmlekdgipinfaaFdL
import Derived.Deep.Cut
namespace Go.Proofs.Ytjmlekdgipinfaa
open Go.RowKit Go.Shelf

set_option maxRecDepth 100000 in
set_option maxHeartbeats 8000000 in
theorem foldParts_walk (f : Int) (v : Value) (l : List Int) (a : Int) (W : World) (_hf : (Lit.int .i64 f).wf = true) (h1 : Oklongs W v l) (ha : (Lit.int .u16 a).wf = true) : Calls Try.prog 4 #[.int .i64 f, v, .int .u16 a] W (True_ W) := by
  clear _hf
  have ha' := wf_u16' ha
  obtain ⟨p, rfl⟩ := Int.eq_ofNat_of_zero_le ha'.1
  have HP := Lib.hid (show p ≤ 65535 by omega)
  clear ha ha'
  have hl := h1.1
  have HIN := Lib.hid (show ∀ x ∈ l, In x from h1.2)
  clear h1
  have hal := alive_any W
  obtain ⟨a1, c1, rfl, _⟩ := hl.form
  have HL := Lib.hid hl
  clear hl
  go_enter Try.func4, Try.ntmps4
  go_wp2_with fail
  refine hal.mono ?_
  clear hal
  rintro e9 w1 ⟨rfl, hC1⟩
  have HC := Lib.hid hC1
  clear hC1
  by_cases g1 : 300 < l.length
  · have b1 : decide ((300 : Int) < (l.length : Int)) = true := decide_eq_true (by omega)
    clear g1
    go_wp2
    go_ret
    exact ⟨rfl, HC.out⟩
  · have b1 : decide ((300 : Int) < (l.length : Int)) = false := decide_eq_false (by omega)
    have HG0 := Lib.hid (show l.length ≤ 300 by omega)
    clear g1
    have hr := fun w' (h : Chg (fun _ => False) W w') => row_any f _ l w' (HL.out.fr h) (by have := HG0.out; omega) HIN.out
    have hid := ident_any f
    cases hb : binB f with
    | false =>
      rw [show rwP f l = (0, 2) by unfold rwP; rw [hb]; rfl] at hr
      rw [show idP f = (0, 2) by unfold idP; rw [hb]; rfl] at hid
      have h2 := hr w1 HC.out
      clear hb hr
      go_wp2_with fail
      refine h2.mono ?_
      clear h2
      rintro e9 w2 ⟨rfl, hC2⟩
      replace HC := Lib.hid (HC.out.tr hC2)
      clear hC2
      go_wp2_with fail
      refine (hid _).mono ?_
      clear hid
      rintro e9 w3 ⟨rfl, hC3⟩
      replace HC := Lib.hid (HC.out.tr hC3)
      clear hC3
      go_wp2
      go_ret
      exact ⟨rfl, HC.out⟩
    | true =>
      have HBIN := Lib.hid hb
      rw [show idP f = (idV f, 0) by unfold idP; rw [hb]; rfl] at hid
      rw [show rwP f l = rowP f l by unfold rwP; rw [hb]; rfl] at hr
      have h2 := hr w1 HC.out
      obtain ⟨⟨X, E⟩, hXE⟩ : ∃ r, rowP f l = r := ⟨_, rfl⟩
      rw [hXE] at h2
      have HXE := Lib.hid hXE
      clear hb hr hXE
      go_wp2_with fail
      refine h2.mono ?_
      clear h2
      rintro e9 w2 ⟨rfl, hC2⟩
      replace HC := Lib.hid (HC.out.tr hC2)
      clear hC2
      go_wp2_with fail
      refine (hid _).mono ?_
      clear hid
      rintro e9 w3 ⟨rfl, hC3⟩
      replace HC := Lib.hid (HC.out.tr hC3)
      clear hC3
      by_cases g0 : l = []
      · have h9 := HXE.out
        rw [g0] at h9
        unfold rowP at h9
        injection h9 with h9 h10
        subst h9 h10
        have b0 : ((l.length : Int) == 0) = true := by rw [g0]; rfl
        have b2 : (idV f == idV f) = true := by simp
        clear g0
        go_wp2
        go_ret
        exact ⟨rfl, HC.out⟩
      · have g0' : 0 < l.length := List.length_pos_iff.2 g0
        have b0 : ((l.length : Int) == 0) = false := beq_eq_false_iff_ne.2 (by omega)
        have HG := Lib.hid (show 0 < l.length ∧ l.length ≤ 300 from ⟨g0', HG0.out⟩)
        obtain ⟨T, hT⟩ : ∃ T, tabV l.length (begP f l) = T := ⟨_, rfl⟩
        obtain ⟨r, hrr⟩ : ∃ r, p % l.length = r := ⟨_, rfl⟩
        obtain ⟨k, hk⟩ : ∃ k, r + 1 = k := ⟨_, rfl⟩
        have hrl : r < l.length := by rw [← hrr]; exact Nat.mod_lt _ g0'
        obtain ⟨lk, hlk⟩ : ∃ x, l.take k = x := ⟨_, rfl⟩
        have hkl : k ≤ l.length := by omega
        have hlkl : lk.length = k := by rw [← hlk, List.length_take]; omega
        have HK := Lib.hid (show k ≤ l.length ∧ l.take k = lk ∧ lk.length = k from ⟨hkl, hlk, hlkl⟩)
        have HIK := Lib.hid (show ∀ x ∈ lk, In x from fun x hx => by rw [← hlk] at hx; exact HIN.out x (List.mem_of_mem_take hx))
        have HKW := Lib.hid (show IntKind.i64.wrap (p : Int) = (p : Int) ∧ Int.tmod (p : Int) (l.length : Int) = (r : Int) ∧ IntKind.i64.wrap (r : Int) = (r : Int) ∧ IntKind.i64.wrap (1 + (r : Int)) = (k : Int) ∧ ¬ (l.length : Int) = 0 ∧ ¬ l.length = 0 ∧ ¬ l = [] from
          ⟨IntWalk.i64_in _ (by have := HP.out; omega), by rw [Int.tmod_eq_emod_of_nonneg (by omega), ← hrr]; exact (Int.natCast_emod _ _).symm, IntWalk.i64_in _ (by have := HG.out; omega), by rw [← hk, IntWalk.i64_in _ (by have := HG.out; omega)]; omega, by omega, by omega, g0⟩)
        obtain ⟨A, hA⟩ : ∃ A, scnA f (vcA l) = A := ⟨_, rfl⟩
        obtain ⟨B, hB⟩ : ∃ B, scnA f (vcA lk) = B := ⟨_, rfl⟩
        obtain ⟨sc, hs1⟩ : ∃ s, scE f l = s := ⟨_, rfl⟩
        obtain ⟨sc2, hs2⟩ : ∃ s, scE f lk = s := ⟨_, rfl⟩
        have HSC := Lib.hid (show scnA f (vcA l) = A ∧ scnE f (vcA l) = sc ∧ scnA f (vcA lk) = B ∧ scnE f (vcA lk) = sc2 from ⟨hA, (vscnE HBIN.out (by have := HG.out; omega)).trans hs1, hB, (vscnE HBIN.out (by have := HG.out; omega)).trans hs2⟩)
        have HOK := Lib.hid (show sc = 0 → E = 0 ∧ sc2 = 0 ∧ A = ⟨1, [(l.length : Int)], T⟩ ∧ B = vcA (T.take k) from fun h0 => by
          rw [← hs1] at h0
          have q1 := sc_ok (f := f) hkl h0
          rw [hlk] at q1
          have q2 := sc_last g0' h0
          rw [HXE.out] at q2
          refine ⟨q2, by rw [← hs2]; exact q1, ?_, ?_⟩
          · rw [← hA, vscnA HBIN.out (by have := HG.out; omega) h0, hT]
          · rw [← hB, vscnA HBIN.out (by have := HG.out; omega) q1, ← hlk, tabV_beg hkl, hT]
            unfold vcA
            rw [List.length_take, List.length_take, ← hT, tabV_length])
        have HBAD := Lib.hid (show sc2 = 0 ∨ sc2 = sc from by
          have := sc_bad (f := f) hkl
          rw [hlk, hs1, hs2] at this
          exact this)
        obtain ⟨m, hm⟩ : ∃ m, l.length = m + 1 := ⟨l.length - 1, by omega⟩
        have hTl : T.length = l.length := by rw [← hT, tabV_length]
        have HTL := Lib.hid (show m < T.length ∧ k ≤ T.length by rw [hTl]; omega)
        have HTLL := Lib.hid hTl
        have HTX := Lib.hid (show T[m]'HTL.out.1 = X by
          subst hT
          rw [tabV_at, show m = l.length - 1 by omega, beg_last g0', HXE.out])
        have HM := Lib.hid (show IntKind.i64.wrap ((l.length : Int) - 1) = (m : Int) ∧ (0 : Int) ≤ (m : Int) ∧ (m : Int) < (l.length : Int) from ⟨by rw [hm]; exact (congrArg _ (by omega)).trans (IntWalk.i64_in (m : Int) (by have := HG.out; omega)), by omega, by omega⟩)
        clear hT hrr hk hrl hlk hkl hlkl hA hB hs1 hs2 hTl hm HG0
        by_cases hone : 1 < l.length
        · have d1 : decide ((1 : Int) < (l.length : Int)) = true := decide_eq_true (by omega)
          obtain ⟨x0, rr, hcons⟩ : ∃ x0 rr, l = x0 :: rr := by
            cases l with
            | nil => exact absurd rfl g0
            | cons x0 rr => exact ⟨_, _, rfl⟩
          have hrn : rr ≠ [] := by intro e; rw [hcons, e] at hone; simp at hone
          have hI0 : In x0 := HIN.out x0 (by rw [hcons]; simp)
          have hIr : ∀ x ∈ rr, In x := fun x hx => HIN.out x (by rw [hcons]; exact List.mem_cons_of_mem _ hx)
          obtain ⟨ar, cr, hlr, hrun⟩ := cut_from (HL.out.fr HC.out) g0'
          have hdr : l.drop 1 = rr := by rw [hcons]; rfl
          have hrl : rr.length ≤ 1000000 := by have := HG.out.2; rw [hcons] at this; simp at this; omega
          rw [hdr] at hlr
          obtain ⟨n1, hn1⟩ : ∃ n, l.length - 1 = n := ⟨_, rfl⟩
          rw [hn1] at hlr hrun
          have h2 := row_any f _ rr w3 hlr hrl hIr
          rw [show rwP f rr = rowP f rr by unfold rwP; rw [HBIN.out]; rfl] at h2
          have hIy := row_In (f := f) hIr
          have hst := fun h => row_step (f := f) (x := x0) hrn h
          have hbd := fun h => row_bad (f := f) (x := x0) hrn h
          rw [← hcons, HXE.out] at hst hbd
          obtain ⟨⟨Y, H⟩, hYH⟩ : ∃ q, rowP f rr = q := ⟨_, rfl⟩
          rw [hYH] at h2 hst hbd hIy
          simp only at hst hbd hIy
          obtain ⟨bl, ol, cl, e1, hx⟩ := (HL.out).at (j := 0) g0'
          injection e1 with e1 e2 e3
          subst e1
          clear e2 e3
          rw [Nat.add_zero, show l[0] = x0 by simp only [hcons]; rfl] at hx
          have HX0 := Lib.hid hx
          have HI2 := Lib.hid (And.intro hI0 hIy)
          clear hcons hrn hI0 hIr hlr hdr hrl hn1 hYH hone hx hIy
          go_wp2_with fail
          refine h2.mono ?_
          clear h2 hrun
          rintro e9 w4 ⟨rfl, hC4⟩
          replace HC := Lib.hid (HC.out.tr hC4)
          clear hC4
          by_cases hH : H = 0
          · subst hH
            have hz := hst rfl
            have h2 := two_any f x0 Y HI2.out.1 HI2.out.2 w4
            rw [← hz] at h2
            have hx := HC.out.cell HX0.out id
            have e1 : (E != E) = false := by simp
            have e2 : (X != X) = false := by simp
            clear hst hbd hz g0
            go_wp2_with fail
            refine h2.mono ?_
            clear h2
            rintro e9 w5 ⟨rfl, hC5⟩
            replace HC := Lib.hid (HC.out.tr hC5)
            clear hC5 hx
            have hv := avector_any _ l w5 (HL.out.fr HC.out) (by have := HG.out; omega)
            go_wp2_with fail
            refine hv.mono ?_
            clear hv
            rintro e9 wb ⟨v4, rfl, ho4, hC4⟩
            replace HC := Lib.hid (HC.out.tr hC4)
            have h2 := scan_any f _ (vcA l) wb ho4.ara (show l.length ≤ 1000000 by have := HG.out; omega) HIN.out
            rw [HSC.out.1, HSC.out.2.1] at h2
            obtain ⟨a5, c5, a6, c6, rfl, _, _⟩ := ara_new ho4
            simp only [List.length_cons, List.length_nil, Nat.reduceAdd] at h2 ⊢
            clear ho4 hC4
            go_wp2_with fail
            refine h2.mono ?_
            clear h2
            rintro e9 wc ⟨v5, rfl, ho5, hC5⟩
            obtain ⟨a7, c7, a8, c8, rfl, _, hE⟩ := ara_new ho5
            have hC6 := (Chg.refl (fun _ => False) wc).alloc (.cells #[.int .i64 A.k, .slice a7 A.s.length c7, .slice a8 A.e.length c8] 25)
            replace HC := Lib.hid ((HC.out.tr hC5).tr hC6)
            obtain ⟨y0, y1, y2⟩ := cell_two wc (.int .i64 A.k) (.slice a7 A.s.length c7) (.slice a8 A.e.length c8) 25
            have HE := Lib.hid (hE.ls.fr hC6)
            obtain ⟨ak, ck, hlk, hrun⟩ := cut_upto (HL.out.fr HC.out) k HK.out.1
            rw [HK.out.2.1] at hlk
            have hv := avector_any _ lk _ hlk (by rw [HK.out.2.2]; have := HK.out.1; have := HG.out; omega)
            obtain ⟨hk1, hk2, hk3, hk4, hk5, hk6, hk7⟩ := HKW.out
            clear hC5 ho5 hE hC6 hlk
            obtain ⟨x1, hx1⟩ : ∃ x1, wc.heap.size = x1 := ⟨_, rfl⟩
            rw [hx1] at y0 y1 y2
            go_wp2_with fail
            refine hv.mono ?_
            clear hv hrun hx1 hk1 hk2 hk3 hk4 hk5
            rintro e9 wd ⟨v6, rfl, ho6, hC6⟩
            replace HC := Lib.hid (HC.out.tr hC6)
            replace y0 := hC6.cell y0 id
            replace y1 := hC6.cell y1 id
            replace y2 := hC6.cell y2 id
            replace HE := Lib.hid (HE.out.fr hC6)
            have h2 := scan_any f _ (vcA lk) wd ho6.ara (show lk.length ≤ 1000000 by rw [HK.out.2.2]; have := HK.out.1; have := HG.out; omega) HIK.out
            rw [HSC.out.2.2.1, HSC.out.2.2.2] at h2
            obtain ⟨a9, c9, a10, c10, rfl, _, _⟩ := ara_new ho6
            simp only [List.length_cons, List.length_nil, Nat.reduceAdd] at h2 ⊢
            clear ho6 hC6
            go_wp2_with fail
            refine h2.mono ?_
            clear h2
            rintro e9 we ⟨v7, rfl, ho7, hC7⟩
            obtain ⟨a11, c11, a12, c12, rfl, _, _⟩ := ara_new ho7
            have hC8 := (Chg.refl (fun _ => False) we).alloc (.cells #[.int .i64 B.k, .slice a11 B.s.length c11, .slice a12 B.e.length c12] 25)
            obtain ⟨z0, z1, z2⟩ := cell_two we (.int .i64 B.k) (.slice a11 B.s.length c11) (.slice a12 B.e.length c12) 25
            have HB := Lib.hid (ho7.ara.fr hC8)
            replace HC := Lib.hid ((HC.out.tr hC7).tr hC8)
            replace y0 := hC8.cell (hC7.cell y0 id) id
            replace y1 := hC8.cell (hC7.cell y1 id) id
            replace y2 := hC8.cell (hC7.cell y2 id) id
            replace HE := Lib.hid ((HE.out.fr hC7).fr hC8)
            obtain ⟨x2, hx2⟩ : ∃ x2, we.heap.size = x2 := ⟨_, rfl⟩
            rw [hx2] at z0 z1 z2
            clear ho7 hC7 hC8
            by_cases hsc : sc = 0
            · obtain ⟨rfl, rfl, hAT, hBT⟩ := HOK.out hsc
              subst hsc
              have HAT := Lib.hid hAT
              have HBT := Lib.hid hBT
              clear hAT hBT
              go_upto_region 23 with (fail)
              clear hx2
              generalize we.alloc (.cells #[.int .i64 B.k, .slice a11 B.s.length c11, .slice a12 B.e.length c12] 25) = w9 at *
              have hAT := HAT.out
              have hBT := HBT.out
              obtain ⟨ab, cb, hls, hrun⟩ := cut_upto HE.out k (by rw [hAT]; exact HTL.out.2)
              obtain ⟨bs, os, cs, e1, hcm⟩ := HE.out.at (j := m) (by rw [hAT]; exact HTL.out.1)
              injection e1 with e1 e2 e3
              subst e1
              clear e2 e3
              have hcm' := hcm
              rw [show A.e[m]'(by rw [hAT]; exact HTL.out.1) = X by have := HTX.out; simp only [hAT]; exact this] at hcm
              have hAL : A.e.length = l.length := by rw [hAT]; exact HTLL.out
              rw [hAL] at y2 hrun
              have hXX : (X == X) = true := by simp
              have H1 := Lib.hid (show ∀ w', Chg (fun _ => False) w9 w' → Calls Try.prog 26 #[.slice ab k cb] w' (GaveA w' B) from fun w' h => by
                have h2 := avector_any _ _ w' (hls.fr h) (by rw [List.length_take]; have := HK.out.1; have := HG.out; omega)
                rw [hAT] at h2
                rw [hBT]
                exact h2)
              have H2 := Lib.hid (show ∀ w' v, Chg (fun _ => False) w9 w' → Ara w' v B → Calls Try.prog 21 #[.agg #[.int .i64 B.k, .slice a11 B.s.length c11, .slice a12 B.e.length c12], v] w' (GaveBo w' true) from fun w' v h hv => by
                have h2 := r11same_any _ _ B B w' (HB.out.fr h) hv (by rw [hBT]; show (T.take k).length ≤ 1000000; rw [List.length_take]; have := HK.out.1; have := HG.out; omega) (by rw [hBT]; simp [vcA])
                rw [sameA_iff.2 rfl] at h2
                exact h2)
              have KP := Lib.hid (show ∀ w', Chg (fun _ => False) w9 w' → (Chg (fun _ => False) w9 w' ∧ w'.cell? ⟨x1, 2, none⟩ = some (.slice (some ⟨bs, os, none⟩) l.length c8) ∧ w'.cell? ⟨bs, os + m, none⟩ = some (.int .i64 X) ∧ w'.cell? ⟨x2, 0, none⟩ = some (.int .i64 B.k) ∧ w'.cell? ⟨x2, 1, none⟩ = some (.slice a11 B.s.length c11) ∧ w'.cell? ⟨x2, 2, none⟩ = some (.slice a12 B.e.length c12)) from fun w' h => ⟨h, h.cell y2 id, h.cell hcm id, h.cell z0 id, h.cell z1 id, h.cell z2 id⟩)
              obtain ⟨hm1, hm2, hm3⟩ := HM.out
              clear y0 y1 y2 z0 z1 z2 hcm hcm' hls hAT hBT hAL
              go_region_held3 (fun w' => (Chg (fun _ => False) w9 w' ∧ w'.cell? ⟨x1, 2, none⟩ = some (.slice (some ⟨bs, os, none⟩) l.length c8) ∧ w'.cell? ⟨bs, os + m, none⟩ = some (.int .i64 X) ∧ w'.cell? ⟨x2, 0, none⟩ = some (.int .i64 B.k) ∧ w'.cell? ⟨x2, 1, none⟩ = some (.slice a11 B.s.length c11) ∧ w'.cell? ⟨x2, 2, none⟩ = some (.slice a12 B.e.length c12))) ((refine KP.out _ ?_; repeat (first | (with_reducible exact Chg.refl _ _) | (with_reducible assumption) | (with_reducible refine chg_drew' ?_) | (with_reducible refine chg_alloc' ?_) | (with_reducible refine Chg.tr ?_ hq2) | (with_reducible refine Chg.tr ?_ hq1)))) (first
                | (go_at_call 26
                   (with_reducible refine (H1.out _ ?_).mono ?_)
                   · exact (Chg.refl _ _).drew
                   rintro e9 q1 ⟨u1, rfl, hu1, hq1⟩
                   have hu1a := Lib.hid hu1.ara)
                | (go_at_call 21
                   with_reducible refine (H2.out _ _ ?_ ?_).mono ?_
                   · repeat (first | (with_reducible exact Chg.refl _ _) | (with_reducible assumption) | (with_reducible refine chg_drew' ?_) | (with_reducible refine chg_alloc' ?_) | (with_reducible refine Chg.tr ?_ hq1))
                   · first | exact hu1a.out | exact hu1a.out.fr ((Chg.refl _ _).drew)
                   rintro e9 q2 ⟨rfl, hq2⟩))
              all_goals
                rename_i hHd
                go_wp2
                go_ret
                exact ⟨rfl, HC.out.tr hHd.1⟩
            · have es1 : (sc != 0) = true := bne_iff_ne.2 hsc
              rcases HBAD.out with h9 | h9
              · have es2 : (sc2 == 0) = true := beq_iff_eq.2 h9
                clear h9 hsc
                go_wp2
                go_ret
                exact ⟨rfl, HC.out⟩
              · subst h9
                have es2 : (sc2 == 0) = false := beq_eq_false_iff_ne.2 hsc
                have es3 : (sc2 == sc2) = true := by simp
                clear hsc
                go_wp2
                go_ret
                exact ⟨rfl, HC.out⟩
          · obtain rfl := hbd hH
            have e1 : (E != 0) = true := bne_iff_ne.2 hH
            have e2 : (E != E) = false := by simp
            clear hst hbd hH g0 g0'
            have hv := avector_any _ l w4 (HL.out.fr HC.out) (by have := HG.out; omega)
            go_wp2_with fail
            refine hv.mono ?_
            clear hv
            rintro e9 wb ⟨v4, rfl, ho4, hC4⟩
            replace HC := Lib.hid (HC.out.tr hC4)
            have h2 := scan_any f _ (vcA l) wb ho4.ara (show l.length ≤ 1000000 by have := HG.out; omega) HIN.out
            rw [HSC.out.1, HSC.out.2.1] at h2
            obtain ⟨a5, c5, a6, c6, rfl, _, _⟩ := ara_new ho4
            simp only [List.length_cons, List.length_nil, Nat.reduceAdd] at h2 ⊢
            clear ho4 hC4
            go_wp2_with fail
            refine h2.mono ?_
            clear h2
            rintro e9 wc ⟨v5, rfl, ho5, hC5⟩
            obtain ⟨a7, c7, a8, c8, rfl, _, hE⟩ := ara_new ho5
            have hC6 := (Chg.refl (fun _ => False) wc).alloc (.cells #[.int .i64 A.k, .slice a7 A.s.length c7, .slice a8 A.e.length c8] 25)
            replace HC := Lib.hid ((HC.out.tr hC5).tr hC6)
            obtain ⟨y0, y1, y2⟩ := cell_two wc (.int .i64 A.k) (.slice a7 A.s.length c7) (.slice a8 A.e.length c8) 25
            have HE := Lib.hid (hE.ls.fr hC6)
            obtain ⟨ak, ck, hlk, hrun⟩ := cut_upto (HL.out.fr HC.out) k HK.out.1
            rw [HK.out.2.1] at hlk
            have hv := avector_any _ lk _ hlk (by rw [HK.out.2.2]; have := HK.out.1; have := HG.out; omega)
            obtain ⟨hk1, hk2, hk3, hk4, hk5, hk6, hk7⟩ := HKW.out
            clear hC5 ho5 hE hC6 hlk
            obtain ⟨x1, hx1⟩ : ∃ x1, wc.heap.size = x1 := ⟨_, rfl⟩
            rw [hx1] at y0 y1 y2
            go_wp2_with fail
            refine hv.mono ?_
            clear hv hrun hx1 hk1 hk2 hk3 hk4 hk5
            rintro e9 wd ⟨v6, rfl, ho6, hC6⟩
            replace HC := Lib.hid (HC.out.tr hC6)
            replace y0 := hC6.cell y0 id
            replace y1 := hC6.cell y1 id
            replace y2 := hC6.cell y2 id
            replace HE := Lib.hid (HE.out.fr hC6)
            have h2 := scan_any f _ (vcA lk) wd ho6.ara (show lk.length ≤ 1000000 by rw [HK.out.2.2]; have := HK.out.1; have := HG.out; omega) HIK.out
            rw [HSC.out.2.2.1, HSC.out.2.2.2] at h2
            obtain ⟨a9, c9, a10, c10, rfl, _, _⟩ := ara_new ho6
            simp only [List.length_cons, List.length_nil, Nat.reduceAdd] at h2 ⊢
            clear ho6 hC6
            go_wp2_with fail
            refine h2.mono ?_
            clear h2
            rintro e9 we ⟨v7, rfl, ho7, hC7⟩
            obtain ⟨a11, c11, a12, c12, rfl, _, _⟩ := ara_new ho7
            have hC8 := (Chg.refl (fun _ => False) we).alloc (.cells #[.int .i64 B.k, .slice a11 B.s.length c11, .slice a12 B.e.length c12] 25)
            obtain ⟨z0, z1, z2⟩ := cell_two we (.int .i64 B.k) (.slice a11 B.s.length c11) (.slice a12 B.e.length c12) 25
            have HB := Lib.hid (ho7.ara.fr hC8)
            replace HC := Lib.hid ((HC.out.tr hC7).tr hC8)
            replace y0 := hC8.cell (hC7.cell y0 id) id
            replace y1 := hC8.cell (hC7.cell y1 id) id
            replace y2 := hC8.cell (hC7.cell y2 id) id
            replace HE := Lib.hid ((HE.out.fr hC7).fr hC8)
            obtain ⟨x2, hx2⟩ : ∃ x2, we.heap.size = x2 := ⟨_, rfl⟩
            rw [hx2] at z0 z1 z2
            clear ho7 hC7 hC8
            by_cases hsc : sc = 0
            · obtain ⟨rfl, rfl, hAT, hBT⟩ := HOK.out hsc
              subst hsc
              have HAT := Lib.hid hAT
              have HBT := Lib.hid hBT
              clear hAT hBT
              go_upto_region 23 with (fail)
              clear hx2
              generalize we.alloc (.cells #[.int .i64 B.k, .slice a11 B.s.length c11, .slice a12 B.e.length c12] 25) = w9 at *
              have hAT := HAT.out
              have hBT := HBT.out
              obtain ⟨ab, cb, hls, hrun⟩ := cut_upto HE.out k (by rw [hAT]; exact HTL.out.2)
              obtain ⟨bs, os, cs, e1, hcm⟩ := HE.out.at (j := m) (by rw [hAT]; exact HTL.out.1)
              injection e1 with e1 e2 e3
              subst e1
              clear e2 e3
              have hcm' := hcm
              rw [show A.e[m]'(by rw [hAT]; exact HTL.out.1) = X by have := HTX.out; simp only [hAT]; exact this] at hcm
              have hAL : A.e.length = l.length := by rw [hAT]; exact HTLL.out
              rw [hAL] at y2 hrun
              have hXX : (X == X) = true := by simp
              have H1 := Lib.hid (show ∀ w', Chg (fun _ => False) w9 w' → Calls Try.prog 26 #[.slice ab k cb] w' (GaveA w' B) from fun w' h => by
                have h2 := avector_any _ _ w' (hls.fr h) (by rw [List.length_take]; have := HK.out.1; have := HG.out; omega)
                rw [hAT] at h2
                rw [hBT]
                exact h2)
              have H2 := Lib.hid (show ∀ w' v, Chg (fun _ => False) w9 w' → Ara w' v B → Calls Try.prog 21 #[.agg #[.int .i64 B.k, .slice a11 B.s.length c11, .slice a12 B.e.length c12], v] w' (GaveBo w' true) from fun w' v h hv => by
                have h2 := r11same_any _ _ B B w' (HB.out.fr h) hv (by rw [hBT]; show (T.take k).length ≤ 1000000; rw [List.length_take]; have := HK.out.1; have := HG.out; omega) (by rw [hBT]; simp [vcA])
                rw [sameA_iff.2 rfl] at h2
                exact h2)
              have KP := Lib.hid (show ∀ w', Chg (fun _ => False) w9 w' → (Chg (fun _ => False) w9 w' ∧ w'.cell? ⟨x1, 2, none⟩ = some (.slice (some ⟨bs, os, none⟩) l.length c8) ∧ w'.cell? ⟨bs, os + m, none⟩ = some (.int .i64 X) ∧ w'.cell? ⟨x2, 0, none⟩ = some (.int .i64 B.k) ∧ w'.cell? ⟨x2, 1, none⟩ = some (.slice a11 B.s.length c11) ∧ w'.cell? ⟨x2, 2, none⟩ = some (.slice a12 B.e.length c12)) from fun w' h => ⟨h, h.cell y2 id, h.cell hcm id, h.cell z0 id, h.cell z1 id, h.cell z2 id⟩)
              obtain ⟨hm1, hm2, hm3⟩ := HM.out
              clear y0 y1 y2 z0 z1 z2 hcm hcm' hls hAT hBT hAL
              go_region_held3 (fun w' => (Chg (fun _ => False) w9 w' ∧ w'.cell? ⟨x1, 2, none⟩ = some (.slice (some ⟨bs, os, none⟩) l.length c8) ∧ w'.cell? ⟨bs, os + m, none⟩ = some (.int .i64 X) ∧ w'.cell? ⟨x2, 0, none⟩ = some (.int .i64 B.k) ∧ w'.cell? ⟨x2, 1, none⟩ = some (.slice a11 B.s.length c11) ∧ w'.cell? ⟨x2, 2, none⟩ = some (.slice a12 B.e.length c12))) ((refine KP.out _ ?_; repeat (first | (with_reducible exact Chg.refl _ _) | (with_reducible assumption) | (with_reducible refine chg_drew' ?_) | (with_reducible refine chg_alloc' ?_) | (with_reducible refine Chg.tr ?_ hq2) | (with_reducible refine Chg.tr ?_ hq1)))) (first
                | (go_at_call 26
                   (with_reducible refine (H1.out _ ?_).mono ?_)
                   · exact (Chg.refl _ _).drew
                   rintro e9 q1 ⟨u1, rfl, hu1, hq1⟩
                   have hu1a := Lib.hid hu1.ara)
                | (go_at_call 21
                   with_reducible refine (H2.out _ _ ?_ ?_).mono ?_
                   · repeat (first | (with_reducible exact Chg.refl _ _) | (with_reducible assumption) | (with_reducible refine chg_drew' ?_) | (with_reducible refine chg_alloc' ?_) | (with_reducible refine Chg.tr ?_ hq1))
                   · first | exact hu1a.out | exact hu1a.out.fr ((Chg.refl _ _).drew)
                   rintro e9 q2 ⟨rfl, hq2⟩))
              all_goals
                rename_i hHd
                go_wp2
                go_ret
                exact ⟨rfl, HC.out.tr hHd.1⟩
            · have es1 : (sc != 0) = true := bne_iff_ne.2 hsc
              rcases HBAD.out with h9 | h9
              · have es2 : (sc2 == 0) = true := beq_iff_eq.2 h9
                clear h9 hsc
                go_wp2
                go_ret
                exact ⟨rfl, HC.out⟩
              · subst h9
                have es2 : (sc2 == 0) = false := beq_eq_false_iff_ne.2 hsc
                have es3 : (sc2 == sc2) = true := by simp
                clear hsc
                go_wp2
                go_ret
                exact ⟨rfl, HC.out⟩
        · have d1 : decide ((1 : Int) < (l.length : Int)) = false := decide_eq_false (by omega)
          clear hone g0 g0'
          have hv := avector_any _ l w3 (HL.out.fr HC.out) (by have := HG.out; omega)
          go_wp2_with fail
          refine hv.mono ?_
          clear hv
          rintro e9 wb ⟨v4, rfl, ho4, hC4⟩
          replace HC := Lib.hid (HC.out.tr hC4)
          have h2 := scan_any f _ (vcA l) wb ho4.ara (show l.length ≤ 1000000 by have := HG.out; omega) HIN.out
          rw [HSC.out.1, HSC.out.2.1] at h2
          obtain ⟨a5, c5, a6, c6, rfl, _, _⟩ := ara_new ho4
          simp only [List.length_cons, List.length_nil, Nat.reduceAdd] at h2 ⊢
          clear ho4 hC4
          go_wp2_with fail
          refine h2.mono ?_
          clear h2
          rintro e9 wc ⟨v5, rfl, ho5, hC5⟩
          obtain ⟨a7, c7, a8, c8, rfl, _, hE⟩ := ara_new ho5
          have hC6 := (Chg.refl (fun _ => False) wc).alloc (.cells #[.int .i64 A.k, .slice a7 A.s.length c7, .slice a8 A.e.length c8] 25)
          replace HC := Lib.hid ((HC.out.tr hC5).tr hC6)
          obtain ⟨y0, y1, y2⟩ := cell_two wc (.int .i64 A.k) (.slice a7 A.s.length c7) (.slice a8 A.e.length c8) 25
          have HE := Lib.hid (hE.ls.fr hC6)
          obtain ⟨ak, ck, hlk, hrun⟩ := cut_upto (HL.out.fr HC.out) k HK.out.1
          rw [HK.out.2.1] at hlk
          have hv := avector_any _ lk _ hlk (by rw [HK.out.2.2]; have := HK.out.1; have := HG.out; omega)
          obtain ⟨hk1, hk2, hk3, hk4, hk5, hk6, hk7⟩ := HKW.out
          clear hC5 ho5 hE hC6 hlk
          obtain ⟨x1, hx1⟩ : ∃ x1, wc.heap.size = x1 := ⟨_, rfl⟩
          rw [hx1] at y0 y1 y2
          go_wp2_with fail
          refine hv.mono ?_
          clear hv hrun hx1 hk1 hk2 hk3 hk4 hk5
          rintro e9 wd ⟨v6, rfl, ho6, hC6⟩
          replace HC := Lib.hid (HC.out.tr hC6)
          replace y0 := hC6.cell y0 id
          replace y1 := hC6.cell y1 id
          replace y2 := hC6.cell y2 id
          replace HE := Lib.hid (HE.out.fr hC6)
          have h2 := scan_any f _ (vcA lk) wd ho6.ara (show lk.length ≤ 1000000 by rw [HK.out.2.2]; have := HK.out.1; have := HG.out; omega) HIK.out
          rw [HSC.out.2.2.1, HSC.out.2.2.2] at h2
          obtain ⟨a9, c9, a10, c10, rfl, _, _⟩ := ara_new ho6
          simp only [List.length_cons, List.length_nil, Nat.reduceAdd] at h2 ⊢
          clear ho6 hC6
          go_wp2_with fail
          refine h2.mono ?_
          clear h2
          rintro e9 we ⟨v7, rfl, ho7, hC7⟩
          obtain ⟨a11, c11, a12, c12, rfl, _, _⟩ := ara_new ho7
          have hC8 := (Chg.refl (fun _ => False) we).alloc (.cells #[.int .i64 B.k, .slice a11 B.s.length c11, .slice a12 B.e.length c12] 25)
          obtain ⟨z0, z1, z2⟩ := cell_two we (.int .i64 B.k) (.slice a11 B.s.length c11) (.slice a12 B.e.length c12) 25
          have HB := Lib.hid (ho7.ara.fr hC8)
          replace HC := Lib.hid ((HC.out.tr hC7).tr hC8)
          replace y0 := hC8.cell (hC7.cell y0 id) id
          replace y1 := hC8.cell (hC7.cell y1 id) id
          replace y2 := hC8.cell (hC7.cell y2 id) id
          replace HE := Lib.hid ((HE.out.fr hC7).fr hC8)
          obtain ⟨x2, hx2⟩ : ∃ x2, we.heap.size = x2 := ⟨_, rfl⟩
          rw [hx2] at z0 z1 z2
          clear ho7 hC7 hC8
          by_cases hsc : sc = 0
          · obtain ⟨rfl, rfl, hAT, hBT⟩ := HOK.out hsc
            subst hsc
            have HAT := Lib.hid hAT
            have HBT := Lib.hid hBT
            clear hAT hBT
            go_upto_region 23 with (fail)
            clear hx2
            generalize we.alloc (.cells #[.int .i64 B.k, .slice a11 B.s.length c11, .slice a12 B.e.length c12] 25) = w9 at *
            have hAT := HAT.out
            have hBT := HBT.out
            obtain ⟨ab, cb, hls, hrun⟩ := cut_upto HE.out k (by rw [hAT]; exact HTL.out.2)
            obtain ⟨bs, os, cs, e1, hcm⟩ := HE.out.at (j := m) (by rw [hAT]; exact HTL.out.1)
            injection e1 with e1 e2 e3
            subst e1
            clear e2 e3
            have hcm' := hcm
            rw [show A.e[m]'(by rw [hAT]; exact HTL.out.1) = X by have := HTX.out; simp only [hAT]; exact this] at hcm
            have hAL : A.e.length = l.length := by rw [hAT]; exact HTLL.out
            rw [hAL] at y2 hrun
            have hXX : (X == X) = true := by simp
            have H1 := Lib.hid (show ∀ w', Chg (fun _ => False) w9 w' → Calls Try.prog 26 #[.slice ab k cb] w' (GaveA w' B) from fun w' h => by
              have h2 := avector_any _ _ w' (hls.fr h) (by rw [List.length_take]; have := HK.out.1; have := HG.out; omega)
              rw [hAT] at h2
              rw [hBT]
              exact h2)
            have H2 := Lib.hid (show ∀ w' v, Chg (fun _ => False) w9 w' → Ara w' v B → Calls Try.prog 21 #[.agg #[.int .i64 B.k, .slice a11 B.s.length c11, .slice a12 B.e.length c12], v] w' (GaveBo w' true) from fun w' v h hv => by
              have h2 := r11same_any _ _ B B w' (HB.out.fr h) hv (by rw [hBT]; show (T.take k).length ≤ 1000000; rw [List.length_take]; have := HK.out.1; have := HG.out; omega) (by rw [hBT]; simp [vcA])
              rw [sameA_iff.2 rfl] at h2
              exact h2)
            have KP := Lib.hid (show ∀ w', Chg (fun _ => False) w9 w' → (Chg (fun _ => False) w9 w' ∧ w'.cell? ⟨x1, 2, none⟩ = some (.slice (some ⟨bs, os, none⟩) l.length c8) ∧ w'.cell? ⟨bs, os + m, none⟩ = some (.int .i64 X) ∧ w'.cell? ⟨x2, 0, none⟩ = some (.int .i64 B.k) ∧ w'.cell? ⟨x2, 1, none⟩ = some (.slice a11 B.s.length c11) ∧ w'.cell? ⟨x2, 2, none⟩ = some (.slice a12 B.e.length c12)) from fun w' h => ⟨h, h.cell y2 id, h.cell hcm id, h.cell z0 id, h.cell z1 id, h.cell z2 id⟩)
            obtain ⟨hm1, hm2, hm3⟩ := HM.out
            clear y0 y1 y2 z0 z1 z2 hcm hcm' hls hAT hBT hAL
            go_region_held3 (fun w' => (Chg (fun _ => False) w9 w' ∧ w'.cell? ⟨x1, 2, none⟩ = some (.slice (some ⟨bs, os, none⟩) l.length c8) ∧ w'.cell? ⟨bs, os + m, none⟩ = some (.int .i64 X) ∧ w'.cell? ⟨x2, 0, none⟩ = some (.int .i64 B.k) ∧ w'.cell? ⟨x2, 1, none⟩ = some (.slice a11 B.s.length c11) ∧ w'.cell? ⟨x2, 2, none⟩ = some (.slice a12 B.e.length c12))) ((refine KP.out _ ?_; repeat (first | (with_reducible exact Chg.refl _ _) | (with_reducible assumption) | (with_reducible refine chg_drew' ?_) | (with_reducible refine chg_alloc' ?_) | (with_reducible refine Chg.tr ?_ hq2) | (with_reducible refine Chg.tr ?_ hq1)))) (first
              | (go_at_call 26
                 (with_reducible refine (H1.out _ ?_).mono ?_)
                 · exact (Chg.refl _ _).drew
                 rintro e9 q1 ⟨u1, rfl, hu1, hq1⟩
                 have hu1a := Lib.hid hu1.ara)
              | (go_at_call 21
                 with_reducible refine (H2.out _ _ ?_ ?_).mono ?_
                 · repeat (first | (with_reducible exact Chg.refl _ _) | (with_reducible assumption) | (with_reducible refine chg_drew' ?_) | (with_reducible refine chg_alloc' ?_) | (with_reducible refine Chg.tr ?_ hq1))
                 · first | exact hu1a.out | exact hu1a.out.fr ((Chg.refl _ _).drew)
                 rintro e9 q2 ⟨rfl, hq2⟩))
            all_goals
              rename_i hHd
              go_wp2
              go_ret
              exact ⟨rfl, HC.out.tr hHd.1⟩
          · have es1 : (sc != 0) = true := bne_iff_ne.2 hsc
            rcases HBAD.out with h9 | h9
            · have es2 : (sc2 == 0) = true := beq_iff_eq.2 h9
              clear h9 hsc
              go_wp2
              go_ret
              exact ⟨rfl, HC.out⟩
            · subst h9
              have es2 : (sc2 == 0) = false := beq_eq_false_iff_ne.2 hsc
              have es3 : (sc2 == sc2) = true := by simp
              clear hsc
              go_wp2
              go_ret
              exact ⟨rfl, HC.out⟩
end Go.Proofs.Ytjmlekdgipinfaa
