/- TurnAxes. -/
import Derived.Test.YtmmbdhfljabefaaTuT
import Derived.Test.YtmmbdhfljabefaaTuX
namespace Go.Proofs.Ytmmbdhfljabefaa
open Go.RowKit Go.Shelf

theorem tperC (l : List Int) (u v : Value) (A : Ar) (w : World) (hL : Ara w u (vecA l)) (hl : l.length ≤ 1000000) (hA : Ara w v A) (hc : chkB A = true) : Calls Try.prog 37 #[u, v] w (GaveAE w (perA (vecA l) A) (perE (vecA l) A.s)) := by
  obtain ⟨_, _, _, h4, h5⟩ := chk_len hc
  have h := tper_any u v (vecA l) A w hL hA (by simp [vecA]) hl (by omega) (by omega)
  rw [per_n hc] at h
  exact h


set_option maxRecDepth 100000 in
set_option maxHeartbeats 4000000 in
theorem turnAxes_walk (v : Value) (A : Ar) (vl : Value) (l : List Int) (vm : Value) (m : List Int) (W : World) (h : OkArr W v A) (hlO : Oklongs W vl l) (hmO : Oklongs W vm m) : Calls Try.prog 7 #[v, vl, vm] W (True_ W) := by
  obtain ⟨i0, hi, hz0, hz1, hz2⟩ := info_parts info_long
  have hA := h.1
  have hLl := hlO.1
  have hLm := hmO.1
  clear h hlO hmO
  have hal := alive_any
  obtain ⟨vt, ve, hv, ht, he⟩ := id hA
  subst hv
  obtain ⟨ta, ct, rfl, _⟩ := ht.form
  obtain ⟨ae, ce, rfl, _⟩ := he.form
  obtain ⟨la, cl, rfl, _⟩ := hLl.form
  obtain ⟨ma, cm, rfl, _⟩ := hLm.form
  have hb := BoxA.new (A := A) 25 hA
  have HC := Lib.hid ((Chg.refl (fun _ => False) W).alloc (.cells #[.int .i64 A.k, .slice ta A.s.length ct, .slice ae A.e.length ce] 25))
  have HL := Lib.hid (show ∀ w', Chg (fun _ => False) W w' → Ls w' (.slice la l.length cl) l from fun w' h => hLl.fr h)
  have HM := Lib.hid (show ∀ w', Chg (fun _ => False) W w' → Ls w' (.slice ma m.length cm) m from fun w' h => hLm.fr h)
  clear ht he hLl hLm
  go_enter Try.func7, Try.ntmps7
  go_wp2_with fail
  refine (hal _).mono ?_
  clear hal
  rintro e9 w1 ⟨rfl, hC1⟩
  replace hb := hb.fr hC1
  replace HC := Lib.hid (HC.out.tr hC1)
  clear hC1 hA
  obtain ⟨x3, hx3⟩ : ∃ x3, W.heap.size = x3 := ⟨_, rfl⟩
  rw [hx3] at hb
  have hgr := fun w' v' (h : Ara w' v' A) => r11great_any v' A w' h
  obtain ⟨sa, cs, sb, cb, ⟨y0, y1, y2⟩, hb1⟩ := id hb
  have hg1 := hgr _ _ hb1
  by_cases hg : 0 < grtN A
  · clear hgr
    generalize grtN A = g at *
    have hg' : decide (0 < g) = true := decide_eq_true hg
    clear hg hb
    go_wp2_with fail
    refine hg1.mono ?_
    clear hg1
    rintro e9 w2 ⟨rfl, hC2⟩
    go_wp2
    go_ret
    exact ⟨rfl, HC.out.tr hC2⟩
  · obtain ⟨hle, hls⟩ := grtN_not hg
    clear hgr
    generalize grtN A = g at *
    have hg' : decide (0 < g) = false := decide_eq_false hg
    clear hg
    by_cases h10 : 10 < l.length
    · have d1 : decide ((10 : Int) < (l.length : Int)) = true := decide_eq_true (by omega)
      clear h10 hb
      go_wp2_with fail
      refine hg1.mono ?_
      clear hg1
      rintro e9 w2 ⟨rfl, hC2⟩
      go_wp2
      go_ret
      exact ⟨rfl, HC.out.tr hC2⟩
    by_cases m10 : 10 < m.length
    · have d1 : decide ((10 : Int) < (l.length : Int)) = false := decide_eq_false (by omega)
      have d2 : decide ((10 : Int) < (m.length : Int)) = true := decide_eq_true (by omega)
      clear h10 m10 hb
      go_wp2_with fail
      refine hg1.mono ?_
      clear hg1
      rintro e9 w2 ⟨rfl, hC2⟩
      go_wp2
      go_ret
      exact ⟨rfl, HC.out.tr hC2⟩
    have d1 : decide ((10 : Int) < (l.length : Int)) = false := decide_eq_false (by omega)
    have d2 : decide ((10 : Int) < (m.length : Int)) = false := decide_eq_false (by omega)
    have hl10 : l.length ≤ 10 := by omega
    have hm10 : m.length ≤ 10 := by omega
    clear h10 m10
    go_wp2_with fail
    refine hg1.mono ?_
    clear hg1 y0 y1 y2 hb1
    rintro e9 w2 ⟨rfl, hC2⟩
    replace hb := hb.fr hC2
    replace HC := Lib.hid (HC.out.tr hC2)
    clear hC2
    obtain ⟨sa, cs, sb, cb, ⟨y0, y1, y2⟩, hb1⟩ := id hb
    have hck := check_any _ A _ hb1 (by omega)
    cases hc : chkB A with
    | false =>
      rw [show chkE A = 110 by unfold chkE; rw [hc]; rfl] at hck
      clear hc hb
      go_wp2_with fail
      refine hck.mono ?_
      clear hck
      rintro e9 w3 ⟨rfl, hC3⟩
      go_wp2
      go_ret
      exact ⟨rfl, HC.out.tr hC3⟩
    | true =>
      rw [show chkE A = 0 by unfold chkE; rw [hc]; rfl] at hck
      have HK := Lib.hid hc
      have hs4 := (chk_len hc).2.2.2.1
      clear hc
      go_wp2_with fail
      refine hck.mono ?_
      clear hck y0 y1 y2 hb1
      rintro e9 w3 ⟨rfl, hC3⟩
      replace hb := hb.fr hC3
      replace HC := Lib.hid (HC.out.tr hC3)
      clear hC3 d1 d2
      obtain ⟨sa, cs, sb, cb, ⟨y0, y1, y2⟩, hb1⟩ := id hb
      go_wp2
      go_loopw [8, 9] (fun tv i wr => ∃ q : Nat, q ≤ A.s.length ∧ i = .int .i64 q ∧ Own wr w3.heap.size 2 tv (abJ A.s.length (A.s.length - q)) ∧ Chg (fun _ => False) w3 wr) (fun _ i _ => (intOf i).toNat)
      case atStart => exact ⟨A.s.length, Nat.le_refl _, rfl, by rw [Nat.sub_self]; exact Own.nil _ _ _, Chg.refl _ _⟩
      case round =>
        obtain ⟨q, hq, rfl, hown, hC⟩ := hrel
        by_cases h0 : q = 0
        · subst h0
          rw [Nat.sub_zero] at hown
          replace hb := hb.fr hC
          have HV := Lib.hid (show ∀ w', Chg (fun _ => False) wr w' → Ls w' _ (abJ A.s.length A.s.length) from fun w' h => hown.ls.fr h)
          obtain ⟨al, L, cL, rfl, hL⟩ := owns_name hown
          have HLL := Lib.hid (show L = (abJ A.s.length A.s.length).length from hL.out)
          replace HC := Lib.hid (HC.out.tr hC)
          clear y0 y1 y2 hb1 hC hown hL
          obtain ⟨sa, cs, sb, cb, ⟨y0, y1, y2⟩, hb1⟩ := id hb
          have hE0 := abJ_E (s := A.s) (chk_len HK.out).1
          have h1 := ttraC _ A _ hb1 HK.out
          obtain ⟨D, hD⟩ : ∃ D, traA A = D := ⟨_, rfl⟩
          rw [hD] at h1
          have HKD := Lib.hid (hD ▸ (tra_ok HK.out).2.1)
          have HR := Lib.hid (show ∀ w' u v, Ara w' u (vecA (abJ A.s.length A.s.length)) → Ara w' v A → Calls Try.prog 37 #[u, v] w' (GaveAE w' D 0) from fun w' u v h1 h2 => by
            have h := tperC (abJ A.s.length A.s.length) u v A w' h1 (by rw [abJ_length]; omega) h2 HK.out
            rw [hE0, (per_ok HK.out hE0).1, abJ_axes, ← (traA_eq HK.out).1, hD] at h
            exact h)
          have HLN := Lib.hid (show (abJ A.s.length A.s.length).length ≤ 1000000 by rw [abJ_length]; omega)
          generalize abJ A.s.length A.s.length = ab at *
          clear hE0 hD
          go_wp2_with fail
          refine h1.mono ?_
          clear h1 y0 y1 y2 hb1
          rintro e9 z4 ⟨v9, rfl, ho9, hC9⟩
          obtain ⟨a9, c9, b9, d9, rfl, _, _⟩ := ara_new ho9
          have hbD := BoxA.new (A := D) 25 ho9.ara
          have hC8 := hC9.alloc (.cells #[.int .i64 D.k, .slice a9 D.s.length c9, .slice b9 D.e.length d9] 25)
          replace HC := Lib.hid (HC.out.tr hC8)
          obtain ⟨x10, hx⟩ : ∃ x, z4.heap.size = x := ⟨_, rfl⟩
          rw [hx] at hbD
          clear hC9 ho9
          replace hb := hb.fr hC8
          replace HV := Lib.hid (show ∀ w', Chg (fun _ => False) _ w' → Ls w' _ ab from fun w' h => HV.out w' (hC8.tr h))
          clear hC8
          go_upto_region 10 with (fail)
          clear hx
          generalize z4.alloc (.cells #[.int .i64 D.k, .slice a9 D.s.length c9, .slice b9 D.e.length d9] 25) = z5 at *
          obtain ⟨sa, cs, sb, cb, ⟨y0, y1, y2⟩, hb1⟩ := id hb
          go_cut [12, 13] (fun s4 s5 wx => ∃ x, s4 = .pointer (some ⟨x, 0, none⟩) ∧ s5 = .int .i64 0 ∧ BoxA wx x D ∧ Chg (fun _ => False) z5 wx)
          case first =>
            have KP := Lib.hid (show ∀ w', Chg (fun _ => False) z5 w' → (Chg (fun _ => False) z5 w' ∧ w'.cell? ⟨x3, 0, none⟩ = some (.int .i64 A.k) ∧ w'.cell? ⟨x3, 1, none⟩ = some (.slice sa A.s.length cs) ∧ w'.cell? ⟨x3, 2, none⟩ = some (.slice sb A.e.length cb)) from fun w' h => ⟨h, h.cell y0 id, h.cell y1 id, h.cell y2 id⟩)
            have HA := Lib.hid (show ∀ w', Chg (fun _ => False) z5 w' → Ara w' (.agg #[.int .i64 A.k, .slice sa A.s.length cs, .slice sb A.e.length cb]) A from fun w' h => hb1.fr h)
            go_region_held3 (fun w' => Chg (fun _ => False) z5 w' ∧ w'.cell? ⟨x3, 0, none⟩ = some (.int .i64 A.k) ∧ w'.cell? ⟨x3, 1, none⟩ = some (.slice sa A.s.length cs) ∧ w'.cell? ⟨x3, 2, none⟩ = some (.slice sb A.e.length cb)) ((refine KP.out _ ?_; repeat (first | (with_reducible exact Chg.refl _ _) | assumption | (with_reducible refine chg_drew' ?_) | (with_reducible refine chg_alloc' ?_) | (with_reducible refine Chg.tr ?_ hC6) | (with_reducible refine Chg.tr ?_ hC5) | (with_reducible refine Chg.setCell ?_ (.inr hs5) _) | (refine Chg.setCell ?_ (.inr (by simp only []; omega)) _)))) (first
              | (go_at_call 39
                 with_reducible refine (avector_any _ ab _ ?_ HLN.out).mono ?_
                 · refine HV.out _ ?_
                   repeat (first | (with_reducible exact Chg.refl _ _) | assumption | (with_reducible refine chg_drew' ?_) | (with_reducible refine chg_alloc' ?_))
                 rintro e9 w5 ⟨v5, rfl, ho5, hC5⟩
                 obtain ⟨a5, c5, a6, c6, rfl, _, _⟩ := ara_new ho5
                 simp only [List.length_cons, List.length_nil, Nat.reduceAdd] at ho5 ⊢
                 have hs5 : z5.heap.size ≤ w5.heap.size := (by have := hC5.size; simp at this; omega)
                 (first
                  | have hB5 := (Bx.new z5 (.int .i64 0) (.slice none 0 0) (.slice none 0 0) 25).fr (((Chg.refl (fun _ => False) _).drew).tr hC5)
                  | skip))
              | (go_at_call 37
                 with_reducible refine (HR.out _ _ _ ?_ ?_).mono ?_
                 · first
                   | exact ho5.ara.fr (Chg.refl _ _)
                   | exact ho5.ara.fr ((Chg.refl _ _).drew)
                   | exact ho5.ara.fr ((Chg.refl _ _).alloc _)
                   | exact ho5.ara.fr (((Chg.refl _ _).alloc _).drew)
                 · refine HA.out _ ?_
                   repeat (first | (with_reducible exact Chg.refl _ _) | assumption | (with_reducible refine chg_drew' ?_) | (with_reducible refine chg_alloc' ?_) | (with_reducible refine Chg.tr ?_ hC5))
                 rintro e9 w6 ⟨v6, rfl, ho6, hC6⟩
                 obtain ⟨a7, c7, a8, c8, rfl, _, _⟩ := ara_new ho6
                 (first
                  | (have hB6 := hB5.fr hC6
                     have hl6 := Lib.hid ((hB5.lt : z5.heap.size < _))
                     obtain ⟨z0, z1, z2, f0, f1, f2⟩ := id hB6)
                  | (have hB6 := (Bx.new w5 (.int .i64 0) (.slice none 0 0) (.slice none 0 0) 25).fr hC6
                     have hl6 := Lib.hid (((Bx.new w5 (.int .i64 0) (.slice none 0 0) (.slice none 0 0) 25).lt : w5.heap.size < _))
                     obtain ⟨z0, z1, z2, f0, f1, f2⟩ := id hB6)
                  | skip)))
            all_goals
              rename_i hHd
              go_wp2_with fail
              go_meet
              refine ⟨_, rfl, rfl, ?_, hHd.1⟩
              first
              | exact BoxA.new (A := D) 25 ho6.ara
              | exact BoxA.set (A := D) hB6 ho6 hl6.out
          case rest =>
            obtain ⟨x12, rfl, rfl, hbF, hCc⟩ := hcut
            replace hb := hb.fr hCc
            replace hbD := hbD.fr hCc
            replace HC := Lib.hid (HC.out.tr hCc)
            clear hCc y0 y1 y2 hb1 HR HV HLN HLL
            obtain ⟨sa, cs, sb, cb, ⟨y0, y1, y2⟩, hb1⟩ := id hbF
            obtain ⟨sa2, cs2, sb2, cb2, ⟨p0, p1, p2⟩, hb2⟩ := id hbD
            have h1 := isC _ _ D _ hb2 hb1 HKD.out
            go_wp2_with fail
            refine h1.mono ?_
            clear h1 y0 y1 y2 hb1 p0 p1 p2 hb2 hbF hbD HKD
            rintro e9 z6 ⟨rfl, hC9⟩
            replace hb := hb.fr hC9
            replace HC := Lib.hid (HC.out.tr hC9)
            clear hC9
            obtain ⟨X, hX⟩ : ∃ X, perA (vecA l) A = X := ⟨_, rfl⟩
            obtain ⟨e1, he1⟩ : ∃ e1, perE (vecA l) A.s = e1 := ⟨_, rfl⟩
            have HR := Lib.hid (show ∀ w' u v, Ara w' u (vecA l) → Ara w' v A → Calls Try.prog 37 #[u, v] w' (GaveAE w' X e1) from fun w' u v h1 h2 => by
              have h := tperC l u v A w' h1 (by omega) h2 HK.out
              rw [hX, he1] at h
              exact h)
            have HX := Lib.hid hX
            have HE1 := Lib.hid he1
            have HLN := Lib.hid (show l.length ≤ 1000000 by omega)
            have HV := Lib.hid (show ∀ w', Chg (fun _ => False) z6 w' → Ls w' (.slice la l.length cl) l from fun w' h => HL.out w' (HC.out.tr h))
            clear hX he1
            go_upto_region 13 with (fail)
            obtain ⟨sa, cs, sb, cb, ⟨y0, y1, y2⟩, hb1⟩ := id hb
            go_cut [14, 15] (fun s4 s5 wx => ∃ x, s4 = .pointer (some ⟨x, 0, none⟩) ∧ s5 = .int .i64 e1 ∧ BoxA wx x X ∧ Chg (fun _ => False) z6 wx)
            case first =>
              have KP := Lib.hid (show ∀ w', Chg (fun _ => False) z6 w' → (Chg (fun _ => False) z6 w' ∧ w'.cell? ⟨x3, 0, none⟩ = some (.int .i64 A.k) ∧ w'.cell? ⟨x3, 1, none⟩ = some (.slice sa A.s.length cs) ∧ w'.cell? ⟨x3, 2, none⟩ = some (.slice sb A.e.length cb)) from fun w' h => ⟨h, h.cell y0 id, h.cell y1 id, h.cell y2 id⟩)
              have HA := Lib.hid (show ∀ w', Chg (fun _ => False) z6 w' → Ara w' (.agg #[.int .i64 A.k, .slice sa A.s.length cs, .slice sb A.e.length cb]) A from fun w' h => hb1.fr h)
              go_region_held3 (fun w' => Chg (fun _ => False) z6 w' ∧ w'.cell? ⟨x3, 0, none⟩ = some (.int .i64 A.k) ∧ w'.cell? ⟨x3, 1, none⟩ = some (.slice sa A.s.length cs) ∧ w'.cell? ⟨x3, 2, none⟩ = some (.slice sb A.e.length cb)) ((refine KP.out _ ?_; repeat (first | (with_reducible exact Chg.refl _ _) | assumption | (with_reducible refine chg_drew' ?_) | (with_reducible refine chg_alloc' ?_) | (with_reducible refine Chg.tr ?_ hC6) | (with_reducible refine Chg.tr ?_ hC5) | (with_reducible refine Chg.setCell ?_ (.inr hs5) _) | (refine Chg.setCell ?_ (.inr (by simp only []; omega)) _)))) (first
                | (go_at_call 39
                   with_reducible refine (avector_any _ l _ ?_ HLN.out).mono ?_
                   · refine HV.out _ ?_
                     repeat (first | (with_reducible exact Chg.refl _ _) | assumption | (with_reducible refine chg_drew' ?_) | (with_reducible refine chg_alloc' ?_))
                   rintro e9 w5 ⟨v5, rfl, ho5, hC5⟩
                   obtain ⟨a5, c5, a6, c6, rfl, _, _⟩ := ara_new ho5
                   simp only [List.length_cons, List.length_nil, Nat.reduceAdd] at ho5 ⊢
                   have hs5 : z6.heap.size ≤ w5.heap.size := (by have := hC5.size; simp at this; omega)
                   (first
                    | have hB5 := (Bx.new z6 (.int .i64 0) (.slice none 0 0) (.slice none 0 0) 25).fr (((Chg.refl (fun _ => False) _).drew).tr hC5)
                    | skip))
                | (go_at_call 37
                   with_reducible refine (HR.out _ _ _ ?_ ?_).mono ?_
                   · first
                     | exact ho5.ara.fr (Chg.refl _ _)
                     | exact ho5.ara.fr ((Chg.refl _ _).drew)
                     | exact ho5.ara.fr ((Chg.refl _ _).alloc _)
                     | exact ho5.ara.fr (((Chg.refl _ _).alloc _).drew)
                   · refine HA.out _ ?_
                     repeat (first | (with_reducible exact Chg.refl _ _) | assumption | (with_reducible refine chg_drew' ?_) | (with_reducible refine chg_alloc' ?_) | (with_reducible refine Chg.tr ?_ hC5))
                   rintro e9 w6 ⟨v6, rfl, ho6, hC6⟩
                   obtain ⟨a7, c7, a8, c8, rfl, _, _⟩ := ara_new ho6
                   (first
                    | (have hB6 := hB5.fr hC6
                       have hl6 := Lib.hid ((hB5.lt : z6.heap.size < _))
                       obtain ⟨z0, z1, z2, f0, f1, f2⟩ := id hB6)
                    | (have hB6 := (Bx.new w5 (.int .i64 0) (.slice none 0 0) (.slice none 0 0) 25).fr hC6
                       have hl6 := Lib.hid (((Bx.new w5 (.int .i64 0) (.slice none 0 0) (.slice none 0 0) 25).lt : w5.heap.size < _))
                       obtain ⟨z0, z1, z2, f0, f1, f2⟩ := id hB6)
                    | skip)))
              all_goals
                rename_i hHd
                go_wp2_with fail
                go_meet
                refine ⟨_, rfl, rfl, ?_, hHd.1⟩
                first
                | exact BoxA.new (A := X) 25 ho6.ara
                | exact BoxA.set (A := X) hB6 ho6 hl6.out
            case rest =>
              obtain ⟨x14, rfl, rfl, hbX, hCc⟩ := hcut
              replace hb := hb.fr hCc
              replace HC := Lib.hid (HC.out.tr hCc)
              clear hCc y0 y1 y2 hb1 HR HV HLN
              by_cases h0 : e1 = 0
              · subst h0
                have HKX := Lib.hid (show chkB X = true ∧ X.e.length = A.e.length from by
                  obtain ⟨a1, _, a3, _, _⟩ := per_ok HK.out HE1.out
                  have hq := ax_ok HK.out a3
                  rw [← HX.out, a1]
                  exact ⟨hq.2.2, by rw [hq.2.1]; show (mvE _ _ _).length = _; rw [mvE_length]; exact (chk_len HK.out).2.1.symm⟩)
                obtain ⟨Y, hY⟩ : ∃ Y, perA (vecA m) X = Y := ⟨_, rfl⟩
                obtain ⟨e2, he2⟩ : ∃ e2, perE (vecA m) X.s = e2 := ⟨_, rfl⟩
                have HR := Lib.hid (show ∀ w' u v, Ara w' u (vecA m) → Ara w' v X → Calls Try.prog 37 #[u, v] w' (GaveAE w' Y e2) from fun w' u v h1 h2 => by
                  have h := tperC m u v X w' h1 (by omega) h2 HKX.out.1
                  rw [hY, he2] at h
                  exact h)
                have HY := Lib.hid hY
                have HE2 := Lib.hid he2
                have HLN := Lib.hid (show m.length ≤ 1000000 by omega)
                have HV := Lib.hid (show ∀ w', Chg (fun _ => False) wc w' → Ls w' (.slice ma m.length cm) m from fun w' h => HM.out w' (HC.out.tr h))
                clear hY he2
                go_upto_region 16 with (fail)
                obtain ⟨sa, cs, sb, cb, ⟨y0, y1, y2⟩, hb1⟩ := id hbX
                go_cut [16, 17] (fun s4 s5 wx => ∃ x, s4 = .pointer (some ⟨x, 0, none⟩) ∧ s5 = .int .i64 e2 ∧ BoxA wx x Y ∧ Chg (fun _ => False) wc wx)
                case first =>
                  have KP := Lib.hid (show ∀ w', Chg (fun _ => False) wc w' → (Chg (fun _ => False) wc w' ∧ w'.cell? ⟨x14, 0, none⟩ = some (.int .i64 X.k) ∧ w'.cell? ⟨x14, 1, none⟩ = some (.slice sa X.s.length cs) ∧ w'.cell? ⟨x14, 2, none⟩ = some (.slice sb X.e.length cb)) from fun w' h => ⟨h, h.cell y0 id, h.cell y1 id, h.cell y2 id⟩)
                  have HA := Lib.hid (show ∀ w', Chg (fun _ => False) wc w' → Ara w' (.agg #[.int .i64 X.k, .slice sa X.s.length cs, .slice sb X.e.length cb]) X from fun w' h => hb1.fr h)
                  go_region_held3 (fun w' => Chg (fun _ => False) wc w' ∧ w'.cell? ⟨x14, 0, none⟩ = some (.int .i64 X.k) ∧ w'.cell? ⟨x14, 1, none⟩ = some (.slice sa X.s.length cs) ∧ w'.cell? ⟨x14, 2, none⟩ = some (.slice sb X.e.length cb)) ((refine KP.out _ ?_; repeat (first | (with_reducible exact Chg.refl _ _) | assumption | (with_reducible refine chg_drew' ?_) | (with_reducible refine chg_alloc' ?_) | (with_reducible refine Chg.tr ?_ hC6) | (with_reducible refine Chg.tr ?_ hC5) | (with_reducible refine Chg.setCell ?_ (.inr hs5) _) | (refine Chg.setCell ?_ (.inr (by simp only []; omega)) _)))) (first
                    | (go_at_call 39
                       with_reducible refine (avector_any _ m _ ?_ HLN.out).mono ?_
                       · refine HV.out _ ?_
                         repeat (first | (with_reducible exact Chg.refl _ _) | assumption | (with_reducible refine chg_drew' ?_) | (with_reducible refine chg_alloc' ?_))
                       rintro e9 w5 ⟨v5, rfl, ho5, hC5⟩
                       obtain ⟨a5, c5, a6, c6, rfl, _, _⟩ := ara_new ho5
                       simp only [List.length_cons, List.length_nil, Nat.reduceAdd] at ho5 ⊢
                       have hs5 : wc.heap.size ≤ w5.heap.size := (by have := hC5.size; simp at this; omega)
                       (first
                        | have hB5 := (Bx.new wc (.int .i64 0) (.slice none 0 0) (.slice none 0 0) 25).fr (((Chg.refl (fun _ => False) _).drew).tr hC5)
                        | skip))
                    | (go_at_call 37
                       with_reducible refine (HR.out _ _ _ ?_ ?_).mono ?_
                       · first
                         | exact ho5.ara.fr (Chg.refl _ _)
                         | exact ho5.ara.fr ((Chg.refl _ _).drew)
                         | exact ho5.ara.fr ((Chg.refl _ _).alloc _)
                         | exact ho5.ara.fr (((Chg.refl _ _).alloc _).drew)
                       · refine HA.out _ ?_
                         repeat (first | (with_reducible exact Chg.refl _ _) | assumption | (with_reducible refine chg_drew' ?_) | (with_reducible refine chg_alloc' ?_) | (with_reducible refine Chg.tr ?_ hC5))
                       rintro e9 w6 ⟨v6, rfl, ho6, hC6⟩
                       obtain ⟨a7, c7, a8, c8, rfl, _, _⟩ := ara_new ho6
                       (first
                        | (have hB6 := hB5.fr hC6
                           have hl6 := Lib.hid ((hB5.lt : wc.heap.size < _))
                           obtain ⟨z0, z1, z2, f0, f1, f2⟩ := id hB6)
                        | (have hB6 := (Bx.new w5 (.int .i64 0) (.slice none 0 0) (.slice none 0 0) 25).fr hC6
                           have hl6 := Lib.hid (((Bx.new w5 (.int .i64 0) (.slice none 0 0) (.slice none 0 0) 25).lt : w5.heap.size < _))
                           obtain ⟨z0, z1, z2, f0, f1, f2⟩ := id hB6)
                        | skip)))
                  all_goals
                    rename_i hHd
                    go_wp2_with fail
                    go_meet
                    refine ⟨_, rfl, rfl, ?_, hHd.1⟩
                    first
                    | exact BoxA.new (A := Y) 25 ho6.ara
                    | exact BoxA.set (A := Y) hB6 ho6 hl6.out
                case rest =>
                  obtain ⟨x16, rfl, rfl, hbY, hCc⟩ := hcut
                  replace hb := hb.fr hCc
                  replace hbX := hbX.fr hCc
                  replace HC := Lib.hid (HC.out.tr hCc)
                  clear hCc y0 y1 y2 hb1 HR HV HLN
                  by_cases h0 : e2 = 0
                  · subst h0
                    have hEE : perE (vecA m) (perA (vecA l) A).s = 0 := by rw [HX.out]; exact HE2.out
                    have hbp := both_per HK.out HE1.out hEE
                    rw [HX.out, HY.out] at hbp
                    obtain ⟨_, _, _, hll, hal⟩ := per_ok HK.out HE1.out
                    obtain ⟨c1, _, c3, hml, ham⟩ := per_ok HKX.out.1 HE2.out
                    have HKY := Lib.hid (show chkB Y = true by rw [← HY.out, c1]; exact (ax_ok HKX.out.1 c3).2.2)
                    have hXs : X.s.length = A.s.length := by
                      obtain ⟨a1, _, a3, _, _⟩ := per_ok HK.out HE1.out
                      rw [← HX.out, a1, (ax_ok HK.out a3).2.1]
                      exact outL_length _ _
                    have hlm : m.length = l.length := by omega
                    have HPX := Lib.hid (axes_perm hal).2
                    have HBP := Lib.hid hbp
                    have HLM := Lib.hid hlm
                    have hXe : ((X.e.length : Int) == (A.e.length : Int)) = true := beq_iff_eq.2 (by rw [HKX.out.2])
                    clear hEE hbp hll hal c1 c3 hml ham hXs hlm
                    go_wp2
                    go_loopw [18, 116] (fun tv i wr => ∃ j : Nat, j ≤ l.length ∧ i = .int .i64 j ∧ Own wr wc.heap.size 2 tv ((bothL l m).take j) ∧ Chg (fun _ => False) wc wr) (fun _ i _ => l.length - (intOf i).toNat)
                    case atStart => exact ⟨0, Nat.zero_le _, rfl, Own.nil _ _ _, Chg.refl _ _⟩
                    case round =>
                      obtain ⟨j, hj, rfl, hown, hC⟩ := hrel
                      by_cases hlt : j < l.length
                      · have hm1 : wc.heap.size ≤ wr.heap.size := hC.size
                        have hLl := HL.out wr (HC.out.tr hC)
                        have hLm := HM.out wr (HC.out.tr hC)
                        have hx := HPX.out _ (List.getElem_mem hlt)
                        obtain ⟨bl, ol, cc, e1, hcl⟩ := hLl.at hlt
                        injection e1 with e1 e2 e3
                        clear e2 e3
                        subst e1
                        have HTK0 : (bothL l m).take (j + 1) = (bothL l m).take j ++ [m.getD (l[j] - 1).toNat 0] := by
                          rw [List.take_succ_eq_append_getElem (by rw [bothL_length]; exact hlt)]
                          unfold bothL
                          rw [List.getElem_map]
                        generalize l[j] = x at *
                        obtain ⟨k, hk⟩ : ∃ k, (x - 1).toNat = k := ⟨_, rfl⟩
                        have hkl : k < m.length := by have := HLM.out; omega
                        obtain ⟨bm, om, cc2, e1, hcm⟩ := hLm.at hkl
                        injection e1 with e1 e2 e3
                        clear e2 e3
                        subst e1
                        rw [hk, List.getD, List.getElem?_eq_getElem hkl, Option.getD_some] at HTK0
                        generalize m[k] = y at *
                        have HTK := Lib.hid HTK0
                        have hw : IntKind.i64.wrap (x - 1) = (k : Int) := by rw [show x - 1 = (k : Int) by omega]; exact IntWalk.i64_in _ (by omega)
                        have hlt' : (j : Int) < (l.length : Int) := by omega
                        have hj0 : (0 : Int) ≤ (j : Int) := by omega
                        have hkl' : (k : Int) < (m.length : Int) := by omega
                        have hk0 : (0 : Int) ≤ (k : Int) := by omega
                        have hw3 : IntKind.i64.wrap ((j : Int) + 1) = (j : Int) + 1 := IntWalk.i64_in _ (by omega)
                        have hpl : ((bothL l m).take j).length ≤ 10 := by rw [List.length_take, bothL_length]; omega
                        generalize (bothL l m).take j = pre at *
                        obtain ⟨al, L, cL, rfl, hL⟩ := owns_name hown
                        have HLL := Lib.hid (show L = pre.length from hL.out)
                        have HPL := Lib.hid hpl
                        have hLb : L ≤ 10 := by rw [HLL.out]; exact hpl
                        have HO := Lib.hid hown
                        have HCr := Lib.hid hC
                        have HJ := Lib.hid hlt
                        clear hown hC hL hpl hk hx HTK0 hLl hLm hlt hkl hj
                        go_wp2_with (refine wpList_append_own_any (by rfl) (.tmp 119) (.tmp 128) 23 (by rfl) wc.heap.size 2 i0 (.int .i64 0) 1 8 Try.underlying23 hi hz0 hz1 hz2 rfl (by decide) (.slice al L cL) pre.length (pre.map I) (by rfl) (World.ownsRow.alloc HO.out _) (some ⟨wr.heap.size, 0, none⟩) 1 1 [.int .i64 y] (by rfl) rfl (fun j u hu => ⟨_, rfl, cell_one_new wr _ _ j u hu⟩) (by simp [Value.oneCell']) (by have := HPL.out; unfold maxLen; omega) (by have := HPL.out; omega) (by simp; omega) ?_; intro v2 w2 hown2 hg2 _ hO2; have hC2 : Chg (fun _ => False) wc w2 := ((HCr.out.alloc _).grown hg2 (fun k e => .inr (HO.out.lt k e).1)); have O2 := Lib.hid (own_snoc hown2 rfl); obtain ⟨al2, L2, cl2, rfl, hL2⟩ := owns_name O2.out)
                        go_roundw
                        case rel => exact ⟨j + 1, HJ.out, rfl, by rw [HTK.out]; exact O2.out, hC2⟩
                        case measure => exact fit_meas j l.length HJ.out
                      · obtain rfl : j = l.length := by omega
                        rw [List.take_of_length_le (by rw [bothL_length]; exact Nat.le_refl _)] at hown
                        replace hb := hb.fr hC
                        replace hbX := hbX.fr hC
                        replace hbY := hbY.fr hC
                        replace HC := Lib.hid (HC.out.tr hC)
                        have HR := Lib.hid (show ∀ w' u v, Ara w' u (vecA (bothL l m)) → Ara w' v A → Calls Try.prog 37 #[u, v] w' (GaveAE w' Y 0) from fun w' u v h1 h2 => by
                          have h := tperC (bothL l m) u v A w' h1 (by rw [bothL_length]; omega) h2 HK.out
                          rw [HBP.out.1, HBP.out.2] at h
                          exact h)
                        have HLN := Lib.hid (show (bothL l m).length ≤ 1000000 by rw [bothL_length]; omega)
                        generalize bothL l m = bo at *
                        have HV := Lib.hid (show ∀ w', Chg (fun _ => False) wr w' → Ls w' _ bo from fun w' h => hown.ls.fr h)
                        obtain ⟨al, L, cL, rfl, hL⟩ := owns_name hown
                        have HLL := Lib.hid (show L = bo.length from hL.out)
                        clear hC hown hL hlt hj
                        go_upto_region 25 with (fail)
                        obtain ⟨sa, cs, sb, cb, ⟨y0, y1, y2⟩, hb1⟩ := id hb
                        go_cut [20, 21] (fun s4 s5 wx => ∃ x, s4 = .pointer (some ⟨x, 0, none⟩) ∧ s5 = .int .i64 0 ∧ BoxA wx x Y ∧ Chg (fun _ => False) wr wx)
                        case first =>
                          have KP := Lib.hid (show ∀ w', Chg (fun _ => False) wr w' → (Chg (fun _ => False) wr w' ∧ w'.cell? ⟨x3, 0, none⟩ = some (.int .i64 A.k) ∧ w'.cell? ⟨x3, 1, none⟩ = some (.slice sa A.s.length cs) ∧ w'.cell? ⟨x3, 2, none⟩ = some (.slice sb A.e.length cb)) from fun w' h => ⟨h, h.cell y0 id, h.cell y1 id, h.cell y2 id⟩)
                          have HA := Lib.hid (show ∀ w', Chg (fun _ => False) wr w' → Ara w' (.agg #[.int .i64 A.k, .slice sa A.s.length cs, .slice sb A.e.length cb]) A from fun w' h => hb1.fr h)
                          go_region_held3 (fun w' => Chg (fun _ => False) wr w' ∧ w'.cell? ⟨x3, 0, none⟩ = some (.int .i64 A.k) ∧ w'.cell? ⟨x3, 1, none⟩ = some (.slice sa A.s.length cs) ∧ w'.cell? ⟨x3, 2, none⟩ = some (.slice sb A.e.length cb)) ((refine KP.out _ ?_; repeat (first | (with_reducible exact Chg.refl _ _) | assumption | (with_reducible refine chg_drew' ?_) | (with_reducible refine chg_alloc' ?_) | (with_reducible refine Chg.tr ?_ hC6) | (with_reducible refine Chg.tr ?_ hC5) | (with_reducible refine Chg.setCell ?_ (.inr hs5) _) | (refine Chg.setCell ?_ (.inr (by simp only []; omega)) _)))) (first
                            | (go_at_call 39
                               with_reducible refine (avector_any _ bo _ ?_ HLN.out).mono ?_
                               · refine HV.out _ ?_
                                 repeat (first | (with_reducible exact Chg.refl _ _) | assumption | (with_reducible refine chg_drew' ?_) | (with_reducible refine chg_alloc' ?_))
                               rintro e9 w5 ⟨v5, rfl, ho5, hC5⟩
                               obtain ⟨a5, c5, a6, c6, rfl, _, _⟩ := ara_new ho5
                               simp only [List.length_cons, List.length_nil, Nat.reduceAdd] at ho5 ⊢
                               have hs5 : wr.heap.size ≤ w5.heap.size := (by have := hC5.size; simp at this; omega)
                               (first
                                | have hB5 := (Bx.new wr (.int .i64 0) (.slice none 0 0) (.slice none 0 0) 25).fr (((Chg.refl (fun _ => False) _).drew).tr hC5)
                                | skip))
                            | (go_at_call 37
                               with_reducible refine (HR.out _ _ _ ?_ ?_).mono ?_
                               · first
                                 | exact ho5.ara.fr (Chg.refl _ _)
                                 | exact ho5.ara.fr ((Chg.refl _ _).drew)
                                 | exact ho5.ara.fr ((Chg.refl _ _).alloc _)
                                 | exact ho5.ara.fr (((Chg.refl _ _).alloc _).drew)
                               · refine HA.out _ ?_
                                 repeat (first | (with_reducible exact Chg.refl _ _) | assumption | (with_reducible refine chg_drew' ?_) | (with_reducible refine chg_alloc' ?_) | (with_reducible refine Chg.tr ?_ hC5))
                               rintro e9 w6 ⟨v6, rfl, ho6, hC6⟩
                               obtain ⟨a7, c7, a8, c8, rfl, _, _⟩ := ara_new ho6
                               (first
                                | (have hB6 := hB5.fr hC6
                                   have hl6 := Lib.hid ((hB5.lt : wr.heap.size < _))
                                   obtain ⟨z0, z1, z2, f0, f1, f2⟩ := id hB6)
                                | (have hB6 := (Bx.new w5 (.int .i64 0) (.slice none 0 0) (.slice none 0 0) 25).fr hC6
                                   have hl6 := Lib.hid (((Bx.new w5 (.int .i64 0) (.slice none 0 0) (.slice none 0 0) 25).lt : w5.heap.size < _))
                                   obtain ⟨z0, z1, z2, f0, f1, f2⟩ := id hB6)
                                | skip)))
                          all_goals
                            rename_i hHd
                            go_wp2_with fail
                            go_meet
                            refine ⟨_, rfl, rfl, ?_, hHd.1⟩
                            first
                            | exact BoxA.new (A := Y) 25 ho6.ara
                            | exact BoxA.set (A := Y) hB6 ho6 hl6.out
                        case rest =>
                          obtain ⟨x20, rfl, rfl, hbZ, hCc⟩ := hcut
                          replace hb := hb.fr hCc
                          replace hbX := hbX.fr hCc
                          replace hbY := hbY.fr hCc
                          replace HC := Lib.hid (HC.out.tr hCc)
                          clear hCc y0 y1 y2 hb1 HR HV HLN HLL
                          obtain ⟨sa, cs, sb, cb, ⟨y0, y1, y2⟩, hb1⟩ := id hbY
                          obtain ⟨sa2, cs2, sb2, cb2, ⟨p0, p1, p2⟩, hb2⟩ := id hbZ
                          have h1 := isC _ _ Y _ hb2 hb1 HKY.out
                          go_wp2_with fail
                          refine h1.mono ?_
                          clear h1 y0 y1 y2 hb1 p0 p1 p2 hb2 hbY hbZ
                          rintro e9 z7 ⟨rfl, hC9⟩
                          obtain ⟨sa, cs, sb, cb, ⟨y0, y1, y2⟩, hb1⟩ := hb.fr hC9
                          obtain ⟨sa2, cs2, sb2, cb2, ⟨p0, p1, p2⟩, hb2⟩ := hbX.fr hC9
                          go_wp2
                          go_ret
                          exact ⟨by simp, HC.out.tr hC9⟩
                  · have HBAD := Lib.hid (show e2 = 4 ∨ e2 = 5 from by
                      have h := perE_cases (l := m) (s := X.s) (by omega) (chk_len HKX.out.1).1
                      rw [HE2.out] at h
                      exact h.resolve_left h0)
                    clear h0 hb hbX hbY
                    rcases HBAD.out with rfl | rfl
                    all_goals
                      go_wp2
                      go_ret
                      exact ⟨rfl, HC.out⟩
              · have HBAD := Lib.hid (show e1 = 4 ∨ e1 = 5 from by
                  have h := perE_cases (l := l) (s := A.s) (by omega) (chk_len HK.out).1
                  rw [HE1.out] at h
                  exact h.resolve_left h0)
                clear h0 hb hbX
                rcases HBAD.out with rfl | rfl
                all_goals
                  go_wp2
                  go_ret
                  exact ⟨rfl, HC.out⟩
        · have hm1 : w3.heap.size ≤ wr.heap.size := hC.size
          obtain ⟨p, hp⟩ : ∃ p, q = p + 1 := ⟨q - 1, by omega⟩
          have hw : IntKind.i64.wrap ((q : Int) - 1) = (p : Int) := by rw [show (q : Int) - 1 = (p : Int) by omega]; exact IntWalk.i64_in _ (by omega)
          have hq0 : (0 : Int) < (q : Int) := by omega
          have d3 : decide (0 < q) = true := decide_eq_true (by omega)
          have HTK := Lib.hid (show abJ A.s.length (A.s.length - p) = abJ A.s.length (A.s.length - q) ++ [(q : Int)] by rw [show A.s.length - p = (A.s.length - q) + 1 by omega, abJ_succ, show (A.s.length : Int) - ((A.s.length - q : Nat) : Int) = (q : Int) by omega])
          have hpl : (abJ A.s.length (A.s.length - q)).length ≤ 4 := by rw [abJ_length]; omega
          generalize abJ A.s.length (A.s.length - q) = pre at *
          obtain ⟨al, L, cL, rfl, hL⟩ := owns_name hown
          have HLL := Lib.hid (show L = pre.length from hL.out)
          have HPL := Lib.hid hpl
          have hLb : L ≤ 4 := by rw [HLL.out]; exact hpl
          have HO := Lib.hid hown
          have HCr := Lib.hid hC
          have HPQ := Lib.hid hp
          have HQ := Lib.hid hq
          clear hown hC hL hpl hp hq
          go_wp2_with (at_builtin; refine wpList_append_own_any (by rfl) (.tmp 53) (.tmp 55) 23 (by rfl) w3.heap.size 2 i0 (.int .i64 0) 1 8 Try.underlying23 hi hz0 hz1 hz2 rfl (by decide) (.slice al L cL) pre.length (pre.map I) (by rfl) (World.ownsRow.alloc HO.out _) (some ⟨wr.heap.size, 0, none⟩) 1 1 [.int .i64 q] (by rfl) rfl (fun j u hu => ⟨_, rfl, cell_one_new wr _ _ j u hu⟩) (by simp [Value.oneCell']) (by have := HPL.out; unfold maxLen; omega) (by have := HPL.out; omega) (by simp; omega) ?_; intro v2 w2 hown2 hg2 _ hO2; have hC2 : Chg (fun _ => False) w3 w2 := ((HCr.out.alloc _).grown hg2 (fun k e => .inr (HO.out.lt k e).1)); have O2 := Lib.hid (own_snoc hown2 rfl); obtain ⟨al2, L2, cl2, rfl, hL2⟩ := owns_name O2.out)
          go_roundw
          case rel => exact ⟨p, by have := HPQ.out; have := HQ.out; omega, rfl, by rw [HTK.out]; exact O2.out, hC2⟩
          case measure =>
            have := HPQ.out
            simp [intOf]
            omega
end Go.Proofs.Ytmmbdhfljabefaa
