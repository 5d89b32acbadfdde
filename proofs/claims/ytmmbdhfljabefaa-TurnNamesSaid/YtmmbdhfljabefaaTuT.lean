/- TurnTwice. -/
import Derived.Test.YtmmbdhfljabefaaTuB
import Derived.Test.YtmmbdhfljabefaaTuP
import Derived.Test.YtmmbdhfljabefaaArO
namespace Go.Proofs.Ytmmbdhfljabefaa
open Go.RowKit Go.Shelf

theorem trevC (v : Value) (A : Ar) (w : World) (hA : Ara w v A) (hc : chkB A = true) : Calls Try.prog 27 #[v] w (GaveAE w (revA A) 0) := by
  obtain ⟨_, _, _, h4, h5⟩ := chk_len hc
  have h := trev_any v A w hA (by omega) (by omega)
  rw [(rev_ok hc).1] at h
  exact h
theorem ttraC (v : Value) (A : Ar) (w : World) (hA : Ara w v A) (hc : chkB A = true) : Calls Try.prog 28 #[v] w (GaveAE w (traA A) 0) := by
  obtain ⟨_, _, _, h4, h5⟩ := chk_len hc
  have h := ttra_any v A w hA (by omega) (by omega)
  rw [(tra_ok hc).1] at h
  exact h
theorem trotC (x : Int) (u v : Value) (A : Ar) (w : World) (hL : Ara w u ⟨1, [], [x]⟩) (hA : Ara w v A) (hc : chkB A = true) : Calls Try.prog 30 #[u, v] w (GaveAE w (rotA x A) 0) := by
  obtain ⟨_, _, _, h4, h5⟩ := chk_len hc
  have h := trot_any u v ⟨1, [], [x]⟩ A w hL hA (by simp) (by simp) (by omega) (by omega)
  rw [(rot_ok hc x).1] at h
  exact h
theorem isC (u v : Value) (A : Ar) (w : World) (hA : Ara w u A) (hB : Ara w v A) (hc : chkB A = true) : Calls Try.prog 29 #[u, .int .i64 0, v] w (GaveBo w true) := by
  obtain ⟨_, _, _, h4, h5⟩ := chk_len hc
  have h := is_any u v A A 0 w hA hB (by omega) (by omega)
  rw [isB_iff.2 ⟨rfl, rfl⟩] at h
  exact h

set_option maxRecDepth 100000 in
set_option maxHeartbeats 4000000 in
theorem turnTwice_walk (v : Value) (A : Ar) (n m : Int) (W : World) (h : OkArr W v A) (hn0 : (Lit.int .i64 n).wf = true) (hm0 : (Lit.int .i64 m).wf = true) : Calls Try.prog 4 #[v, .int .i64 n, .int .i64 m] W (True_ W) := by
  have hn1 := wf_i64' hn0
  have hm1 := wf_i64' hm0
  clear hn0 hm0
  have hA := h.1
  clear h
  have hal := alive_any
  obtain ⟨vt, ve, hv, ht, he⟩ := id hA
  subst hv
  obtain ⟨ta, ct, rfl, _⟩ := ht.form
  obtain ⟨ae, ce, rfl, _⟩ := he.form
  have hb := BoxA.new (A := A) 25 hA
  have HC := Lib.hid ((Chg.refl (fun _ => False) W).alloc (.cells #[.int .i64 A.k, .slice ta A.s.length ct, .slice ae A.e.length ce] 25))
  clear ht he
  go_enter Try.func4, Try.ntmps4
  go_wp2_with fail
  refine (hal _).mono ?_
  clear hal
  rintro e9 w1 ⟨rfl, hC1⟩
  replace hb := hb.fr hC1
  replace HC := Lib.hid (HC.out.tr hC1)
  clear hC1 hA
  obtain ⟨x3, hx3⟩ : ∃ x3, W.heap.size = x3 := ⟨_, rfl⟩
  rw [hx3] at hb
  have hgr := fun w' v' (h : Ara w' v' A) => r11great_any v' A w' h
  obtain ⟨sa, cs, sb, cb, ⟨y0, y1, y2⟩, hb1⟩ := id hb
  have hg1 := hgr _ _ hb1
  have HX3 := Lib.hid hx3
  by_cases hg : 0 < grtN A
  · clear hgr
    generalize grtN A = g at *
    have hg' : decide (0 < g) = true := decide_eq_true hg
    clear hg hb
    go_wp2_with fail
    refine hg1.mono ?_
    clear hg1
    rintro e9 w2 ⟨rfl, hC2⟩
    go_wp2
    go_ret
    exact ⟨rfl, HC.out.tr hC2⟩
  · obtain ⟨hle, hls⟩ := grtN_not hg
    clear hgr
    generalize grtN A = g at *
    have hg' : decide (0 < g) = false := decide_eq_false hg
    clear hg
    go_wp2_with fail
    refine hg1.mono ?_
    clear hg1 y0 y1 y2 hb1
    rintro e9 w2 ⟨rfl, hC2⟩
    replace hb := hb.fr hC2
    replace HC := Lib.hid (HC.out.tr hC2)
    clear hC2
    obtain ⟨sa, cs, sb, cb, ⟨y0, y1, y2⟩, hb1⟩ := id hb
    have hck := check_any _ A _ hb1 (by omega)
    cases hc : chkB A with
    | false =>
      rw [show chkE A = 110 by unfold chkE; rw [hc]; rfl] at hck
      clear hc hb
      go_wp2_with fail
      refine hck.mono ?_
      clear hck
      rintro e9 w3 ⟨rfl, hC3⟩
      go_wp2
      go_ret
      exact ⟨rfl, HC.out.tr hC3⟩
    | true =>
      rw [show chkE A = 0 by unfold chkE; rw [hc]; rfl] at hck
      have HK := Lib.hid hc
      clear hc
      go_wp2_with fail
      refine hck.mono ?_
      clear hck y0 y1 y2 hb1
      rintro e9 w3 ⟨rfl, hC3⟩
      replace hb := hb.fr hC3
      replace HC := Lib.hid (HC.out.tr hC3)
      clear hC3
      obtain ⟨sa, cs, sb, cb, ⟨y0, y1, y2⟩, hb1⟩ := id hb
      have h1 := trevC _ A _ hb1 HK.out
      obtain ⟨B, hB⟩ : ∃ B, revA A = B := ⟨_, rfl⟩
      rw [hB] at h1
      have HB := Lib.hid hB
      clear hB
      go_wp2_with fail
      refine h1.mono ?_
      clear h1 y0 y1 y2 hb1
      rintro e9 w4 ⟨v9, rfl, ho9, hC9⟩
      obtain ⟨a9, c9, b9, d9, rfl, _, _⟩ := ara_new ho9
      have hbB := BoxA.new (A := B) 25 ho9.ara
      have hC8 := hC9.alloc (.cells #[.int .i64 B.k, .slice a9 B.s.length c9, .slice b9 B.e.length d9] 25)
      replace HC := Lib.hid (HC.out.tr hC8)
      obtain ⟨x8, hx⟩ : ∃ x, w4.heap.size = x := ⟨_, rfl⟩
      rw [hx] at hbB
      clear hC9 ho9
      replace hb := hb.fr hC8
      clear hC8
      obtain ⟨sa, cs, sb, cb, ⟨y0, y1, y2⟩, hb1⟩ := id hbB
      have HKB := Lib.hid (HB.out ▸ (rev_ok HK.out).2.2)
      have h1 := trevC _ B _ hb1 HKB.out
      rw [show revA B = A from HB.out ▸ rev_rev HK.out] at h1
      go_wp2_with fail
      clear hx
      refine h1.mono ?_
      clear h1 y0 y1 y2 hb1 hbB
      rintro e9 w5 ⟨v9, rfl, ho9, hC9⟩
      obtain ⟨a9, c9, b9, d9, rfl, _, _⟩ := ara_new ho9
      have hbC := BoxA.new (A := A) 25 ho9.ara
      have hC8 := hC9.alloc (.cells #[.int .i64 A.k, .slice a9 A.s.length c9, .slice b9 A.e.length d9] 25)
      replace HC := Lib.hid (HC.out.tr hC8)
      obtain ⟨x10, hx⟩ : ∃ x, w5.heap.size = x := ⟨_, rfl⟩
      rw [hx] at hbC
      clear hC9 ho9
      replace hb := hb.fr hC8
      clear hC8
      obtain ⟨sa, cs, sb, cb, ⟨y0, y1, y2⟩, hb1⟩ := id hb
      have h1 := ttraC _ A _ hb1 HK.out
      obtain ⟨D, hD⟩ : ∃ D, traA A = D := ⟨_, rfl⟩
      rw [hD] at h1
      have HD := Lib.hid hD
      clear hD
      go_wp2_with fail
      clear hx
      refine h1.mono ?_
      clear h1 y0 y1 y2 hb1
      rintro e9 w6 ⟨v9, rfl, ho9, hC9⟩
      obtain ⟨a9, c9, b9, d9, rfl, _, _⟩ := ara_new ho9
      have hbD := BoxA.new (A := D) 25 ho9.ara
      have hC8 := hC9.alloc (.cells #[.int .i64 D.k, .slice a9 D.s.length c9, .slice b9 D.e.length d9] 25)
      replace HC := Lib.hid (HC.out.tr hC8)
      obtain ⟨x12, hx⟩ : ∃ x, w6.heap.size = x := ⟨_, rfl⟩
      rw [hx] at hbD
      clear hC9 ho9
      replace hb := hb.fr hC8
      replace hbC := hbC.fr hC8
      clear hC8
      obtain ⟨sa, cs, sb, cb, ⟨y0, y1, y2⟩, hb1⟩ := id hbD
      have h1 := ttraC _ D _ hb1 (HD.out ▸ (tra_ok HK.out).2.1)
      rw [show traA D = A from HD.out ▸ tra_tra HK.out] at h1
      go_wp2_with fail
      clear hx
      refine h1.mono ?_
      clear h1 y0 y1 y2 hb1 hbD
      rintro e9 w7 ⟨v9, rfl, ho9, hC9⟩
      obtain ⟨a9, c9, b9, d9, rfl, _, _⟩ := ara_new ho9
      have hbE := BoxA.new (A := A) 25 ho9.ara
      have hC8 := hC9.alloc (.cells #[.int .i64 A.k, .slice a9 A.s.length c9, .slice b9 A.e.length d9] 25)
      replace HC := Lib.hid (HC.out.tr hC8)
      obtain ⟨x14, hx⟩ : ∃ x, w7.heap.size = x := ⟨_, rfl⟩
      rw [hx] at hbE
      clear hC9 ho9
      replace hb := hb.fr hC8
      replace hbC := hbC.fr hC8
      clear hC8
      obtain ⟨sa, cs, sb, cb, ⟨y0, y1, y2⟩, hb1⟩ := id hb
      obtain ⟨sa2, cs2, sb2, cb2, ⟨p0, p1, p2⟩, hb2⟩ := id hbC
      have h1 := isC _ _ A _ hb2 hb1 HK.out
      go_wp2_with fail
      clear hx
      refine h1.mono ?_
      clear h1 y0 y1 y2 hb1 p0 p1 p2 hb2 hbC
      rintro e9 w8 ⟨rfl, hC9⟩
      replace hb := hb.fr hC9
      replace hbE := hbE.fr hC9
      replace HC := Lib.hid (HC.out.tr hC9)
      clear hC9
      obtain ⟨sa, cs, sb, cb, ⟨y0, y1, y2⟩, hb1⟩ := id hb
      obtain ⟨sa2, cs2, sb2, cb2, ⟨p0, p1, p2⟩, hb2⟩ := id hbE
      have h1 := isC _ _ A _ hb2 hb1 HK.out
      go_wp2_with fail
      refine h1.mono ?_
      clear h1 y0 y1 y2 hb1 p0 p1 p2 hb2 hbE
      rintro e9 w9 ⟨rfl, hC9⟩
      replace hb := hb.fr hC9
      replace HC := Lib.hid (HC.out.tr hC9)
      clear hC9
      obtain ⟨sa, cs, sb, cb, ⟨y0, y1, y2⟩, hb1⟩ := id hb
      go_upto_if 83 with (fail)
      obtain ⟨M, hM⟩ : ∃ M, rowN A.s = M := ⟨_, rfl⟩
      have HM := Lib.hid hM
      clear hM
      go_cut [16] (fun s16 wx => s16 = .int .i64 M ∧ wx = w9)
      case first =>
        by_cases hs : A.s = []
        · have d2 : decide (0 < A.s.length) = false := decide_eq_false (by rw [hs]; decide)
          have d3 : ¬ 0 < A.s.length := by rw [hs]; decide
          rw [d2]
          have hr : M = 1 := by rw [← HM.out, hs]; rfl
          have HRR := Lib.hid hr
          clear hs hr
          go_wp2_with fail
          go_meet
          exact ⟨by rw [HRR.out], rfl⟩
        · obtain ⟨q1, q2⟩ := rowN_last hs
          have d1 : decide ((0 : Int) < (A.s.length : Int)) = true := decide_eq_true (by omega)
          have d2 : decide (0 < A.s.length) = true := decide_eq_true (by omega)
          have hSs : Ls w9 (.slice sa A.s.length cs) A.s := by
            obtain ⟨_, _, e, h, _⟩ := hb1
            injection e with e
            injection e with e
            injection e with _ e
            injection e with e _
            rw [e]
            exact h
          obtain ⟨j, hj⟩ : ∃ j, A.s.length - 1 = j := ⟨_, rfl⟩
          rw [hj] at q1 q2
          have hw : IntKind.i64.wrap ((A.s.length : Int) - 1) = (j : Int) := by rw [show (A.s.length : Int) - 1 = (j : Int) by omega]; exact IntWalk.i64_in _ (by omega)
          obtain ⟨bs, os, cc, e1, hcell⟩ := hSs.at q1
          rw [q2, HM.out] at hcell
          injection e1 with e1 e2 e3
          clear e2 e3
          subst e1
          have hlt : (j : Int) < (A.s.length : Int) := by omega
          have hj0 : (0 : Int) ≤ (j : Int) := by omega
          clear q2 hj hs
          go_wp2_with fail
          go_meet
          exact ⟨rfl, rfl⟩
      case rest =>
        obtain ⟨rfl, rfl⟩ := hcut
        have hM := HM.out
        subst hM
        clear HM
        have HR := Lib.hid (show ∀ w' u v, Ara w' u ⟨1, [], [rowN A.s]⟩ → Ara w' v A → Calls Try.prog 30 #[u, v] w' (GaveAE w' A 0) from fun w' u v h1 h2 => by have h := trotC (rowN A.s) u v A w' h1 h2 HK.out; rw [rot_row HK.out] at h; exact h)
        generalize rowN A.s = M at *
        go_upto_region 13 with (fail)
        go_cut [17, 18] (fun s4 s5 wx => ∃ x, s4 = .pointer (some ⟨x, 0, none⟩) ∧ s5 = .int .i64 0 ∧ BoxA wx x A ∧ Chg (fun _ => False) wc wx)
        case first =>
          have KP := Lib.hid (show ∀ w', Chg (fun _ => False) wc w' → (Chg (fun _ => False) wc w' ∧ w'.cell? ⟨x3, 0, none⟩ = some (.int .i64 A.k) ∧ w'.cell? ⟨x3, 1, none⟩ = some (.slice sa A.s.length cs) ∧ w'.cell? ⟨x3, 2, none⟩ = some (.slice sb A.e.length cb)) from fun w' h => ⟨h, h.cell y0 id, h.cell y1 id, h.cell y2 id⟩)
          have HA := Lib.hid (show ∀ w', Chg (fun _ => False) wc w' → Ara w' (.agg #[.int .i64 A.k, .slice sa A.s.length cs, .slice sb A.e.length cb]) A from fun w' h => hb1.fr h)
          go_region_held3 (fun w' => Chg (fun _ => False) wc w' ∧ w'.cell? ⟨x3, 0, none⟩ = some (.int .i64 A.k) ∧ w'.cell? ⟨x3, 1, none⟩ = some (.slice sa A.s.length cs) ∧ w'.cell? ⟨x3, 2, none⟩ = some (.slice sb A.e.length cb)) ((refine KP.out _ ?_; repeat (first | (with_reducible exact Chg.refl _ _) | assumption | (with_reducible refine chg_drew' ?_) | (with_reducible refine chg_alloc' ?_) | (with_reducible refine Chg.tr ?_ hC6) | (with_reducible refine Chg.tr ?_ hC5) | (with_reducible refine Chg.setCell ?_ (.inr hs5) _) | (refine Chg.setCell ?_ (.inr (by simp only []; omega)) _)))) (first
            | (go_at_call 31
               (with_reducible refine (ascalar_any M _).mono ?_)
               rintro e9 w5 ⟨v5, rfl, ho5, hC5⟩
               obtain ⟨a5, c5, a6, c6, rfl, _, _⟩ := ara_new ho5
               simp only [List.length_cons, List.length_nil, Nat.reduceAdd] at ho5 ⊢
               have hs5 : wc.heap.size ≤ w5.heap.size := (by have := hC5.size; simp at this; omega)
               (first
                | have hB5 := (Bx.new wc (.int .i64 0) (.slice none 0 0) (.slice none 0 0) 25).fr (((Chg.refl (fun _ => False) _).drew).tr hC5)
                | skip))
            | (go_at_call 30
               with_reducible refine (HR.out _ _ _ ?_ ?_).mono ?_
               · first
                 | exact ho5.ara.fr (Chg.refl _ _)
                 | exact ho5.ara.fr ((Chg.refl _ _).drew)
                 | exact ho5.ara.fr ((Chg.refl _ _).alloc _)
                 | exact ho5.ara.fr (((Chg.refl _ _).alloc _).drew)
               · refine HA.out _ ?_
                 repeat (first | (with_reducible exact Chg.refl _ _) | assumption | (with_reducible refine chg_drew' ?_) | (with_reducible refine chg_alloc' ?_) | (with_reducible refine Chg.tr ?_ hC5))
               rintro e9 w6 ⟨v6, rfl, ho6, hC6⟩
               obtain ⟨a7, c7, a8, c8, rfl, _, _⟩ := ara_new ho6
               (first
                | (have hB6 := hB5.fr hC6
                   have hl6 := Lib.hid ((hB5.lt : wc.heap.size < _))
                   obtain ⟨z0, z1, z2, f0, f1, f2⟩ := id hB6)
                | (have hB6 := (Bx.new w5 (.int .i64 0) (.slice none 0 0) (.slice none 0 0) 25).fr hC6
                   have hl6 := Lib.hid (((Bx.new w5 (.int .i64 0) (.slice none 0 0) (.slice none 0 0) 25).lt : w5.heap.size < _))
                   obtain ⟨z0, z1, z2, f0, f1, f2⟩ := id hB6)
                | skip)))
          all_goals
            rename_i hHd
            go_wp2_with fail
            go_meet
            refine ⟨_, rfl, rfl, ?_, hHd.1⟩
            first
            | exact BoxA.new (A := A) 25 ho6.ara
            | exact BoxA.set (A := A) hB6 ho6 hl6.out
        case rest =>
          obtain ⟨x17, rfl, rfl, hbF, hCc⟩ := hcut
          replace hb := hb.fr hCc
          replace HC := Lib.hid (HC.out.tr hCc)
          clear hCc y0 y1 y2 hb1 HR
          obtain ⟨sa, cs, sb, cb, ⟨y0, y1, y2⟩, hb1⟩ := id hb
          obtain ⟨E, hE⟩ : ∃ E, rotA n A = E := ⟨_, rfl⟩
          have HR := Lib.hid (show ∀ w' u v, Ara w' u ⟨1, [], [n]⟩ → Ara w' v A → Calls Try.prog 30 #[u, v] w' (GaveAE w' E 0) from fun w' u v h1 h2 => hE ▸ trotC n u v A w' h1 h2 HK.out)
          have HE := Lib.hid hE
          clear hE
          go_upto_region 14 with (fail)
          go_cut [19, 20] (fun s4 s5 wx => ∃ x, s4 = .pointer (some ⟨x, 0, none⟩) ∧ s5 = .int .i64 0 ∧ BoxA wx x E ∧ Chg (fun _ => False) wc wx)
          case first =>
            have KP := Lib.hid (show ∀ w', Chg (fun _ => False) wc w' → (Chg (fun _ => False) wc w' ∧ w'.cell? ⟨x3, 0, none⟩ = some (.int .i64 A.k) ∧ w'.cell? ⟨x3, 1, none⟩ = some (.slice sa A.s.length cs) ∧ w'.cell? ⟨x3, 2, none⟩ = some (.slice sb A.e.length cb)) from fun w' h => ⟨h, h.cell y0 id, h.cell y1 id, h.cell y2 id⟩)
            have HA := Lib.hid (show ∀ w', Chg (fun _ => False) wc w' → Ara w' (.agg #[.int .i64 A.k, .slice sa A.s.length cs, .slice sb A.e.length cb]) A from fun w' h => hb1.fr h)
            go_region_held3 (fun w' => Chg (fun _ => False) wc w' ∧ w'.cell? ⟨x3, 0, none⟩ = some (.int .i64 A.k) ∧ w'.cell? ⟨x3, 1, none⟩ = some (.slice sa A.s.length cs) ∧ w'.cell? ⟨x3, 2, none⟩ = some (.slice sb A.e.length cb)) ((refine KP.out _ ?_; repeat (first | (with_reducible exact Chg.refl _ _) | assumption | (with_reducible refine chg_drew' ?_) | (with_reducible refine chg_alloc' ?_) | (with_reducible refine Chg.tr ?_ hC6) | (with_reducible refine Chg.tr ?_ hC5) | (with_reducible refine Chg.setCell ?_ (.inr hs5) _) | (refine Chg.setCell ?_ (.inr (by simp only []; omega)) _)))) (first
              | (go_at_call 31
                 (with_reducible refine (ascalar_any n _).mono ?_)
                 rintro e9 w5 ⟨v5, rfl, ho5, hC5⟩
                 obtain ⟨a5, c5, a6, c6, rfl, _, _⟩ := ara_new ho5
                 simp only [List.length_cons, List.length_nil, Nat.reduceAdd] at ho5 ⊢
                 have hs5 : wc.heap.size ≤ w5.heap.size := (by have := hC5.size; simp at this; omega)
                 (first
                  | have hB5 := (Bx.new wc (.int .i64 0) (.slice none 0 0) (.slice none 0 0) 25).fr (((Chg.refl (fun _ => False) _).drew).tr hC5)
                  | skip))
              | (go_at_call 30
                 with_reducible refine (HR.out _ _ _ ?_ ?_).mono ?_
                 · first
                   | exact ho5.ara.fr (Chg.refl _ _)
                   | exact ho5.ara.fr ((Chg.refl _ _).drew)
                   | exact ho5.ara.fr ((Chg.refl _ _).alloc _)
                   | exact ho5.ara.fr (((Chg.refl _ _).alloc _).drew)
                 · refine HA.out _ ?_
                   repeat (first | (with_reducible exact Chg.refl _ _) | assumption | (with_reducible refine chg_drew' ?_) | (with_reducible refine chg_alloc' ?_) | (with_reducible refine Chg.tr ?_ hC5))
                 rintro e9 w6 ⟨v6, rfl, ho6, hC6⟩
                 obtain ⟨a7, c7, a8, c8, rfl, _, _⟩ := ara_new ho6
                 (first
                  | (have hB6 := hB5.fr hC6
                     have hl6 := Lib.hid ((hB5.lt : wc.heap.size < _))
                     obtain ⟨z0, z1, z2, f0, f1, f2⟩ := id hB6)
                  | (have hB6 := (Bx.new w5 (.int .i64 0) (.slice none 0 0) (.slice none 0 0) 25).fr hC6
                     have hl6 := Lib.hid (((Bx.new w5 (.int .i64 0) (.slice none 0 0) (.slice none 0 0) 25).lt : w5.heap.size < _))
                     obtain ⟨z0, z1, z2, f0, f1, f2⟩ := id hB6)
                  | skip)))
            all_goals
              rename_i hHd
              go_wp2_with fail
              go_meet
              refine ⟨_, rfl, rfl, ?_, hHd.1⟩
              first
              | exact BoxA.new (A := E) 25 ho6.ara
              | exact BoxA.set (A := E) hB6 ho6 hl6.out
          case rest =>
            obtain ⟨x19, rfl, rfl, hbE, hCc⟩ := hcut
            replace hb := hb.fr hCc
            replace hbF := hbF.fr hCc
            replace HC := Lib.hid (HC.out.tr hCc)
            clear hCc y0 y1 y2 hb1 HR
            obtain ⟨sa, cs, sb, cb, ⟨y0, y1, y2⟩, hb1⟩ := id hbE
            have HKE := Lib.hid (HE.out ▸ (rot_ok HK.out n).2.2)
            obtain ⟨F, hF⟩ : ∃ F, rotA m E = F := ⟨_, rfl⟩
            have HR := Lib.hid (show ∀ w' u v, Ara w' u ⟨1, [], [m]⟩ → Ara w' v E → Calls Try.prog 30 #[u, v] w' (GaveAE w' F 0) from fun w' u v h1 h2 => hF ▸ trotC m u v E w' h1 h2 HKE.out)
            have HF := Lib.hid hF
            clear hF
            go_upto_region 15 with (fail)
            go_cut [21, 22] (fun s4 s5 wx => ∃ x, s4 = .pointer (some ⟨x, 0, none⟩) ∧ s5 = .int .i64 0 ∧ BoxA wx x F ∧ Chg (fun _ => False) wc wx)
            case first =>
              have KP := Lib.hid (show ∀ w', Chg (fun _ => False) wc w' → (Chg (fun _ => False) wc w' ∧ w'.cell? ⟨x19, 0, none⟩ = some (.int .i64 E.k) ∧ w'.cell? ⟨x19, 1, none⟩ = some (.slice sa E.s.length cs) ∧ w'.cell? ⟨x19, 2, none⟩ = some (.slice sb E.e.length cb)) from fun w' h => ⟨h, h.cell y0 id, h.cell y1 id, h.cell y2 id⟩)
              have HA := Lib.hid (show ∀ w', Chg (fun _ => False) wc w' → Ara w' (.agg #[.int .i64 E.k, .slice sa E.s.length cs, .slice sb E.e.length cb]) E from fun w' h => hb1.fr h)
              go_region_held3 (fun w' => Chg (fun _ => False) wc w' ∧ w'.cell? ⟨x19, 0, none⟩ = some (.int .i64 E.k) ∧ w'.cell? ⟨x19, 1, none⟩ = some (.slice sa E.s.length cs) ∧ w'.cell? ⟨x19, 2, none⟩ = some (.slice sb E.e.length cb)) ((refine KP.out _ ?_; repeat (first | (with_reducible exact Chg.refl _ _) | assumption | (with_reducible refine chg_drew' ?_) | (with_reducible refine chg_alloc' ?_) | (with_reducible refine Chg.tr ?_ hC6) | (with_reducible refine Chg.tr ?_ hC5) | (with_reducible refine Chg.setCell ?_ (.inr hs5) _) | (refine Chg.setCell ?_ (.inr (by simp only []; omega)) _)))) (first
                | (go_at_call 31
                   (with_reducible refine (ascalar_any m _).mono ?_)
                   rintro e9 w5 ⟨v5, rfl, ho5, hC5⟩
                   obtain ⟨a5, c5, a6, c6, rfl, _, _⟩ := ara_new ho5
                   simp only [List.length_cons, List.length_nil, Nat.reduceAdd] at ho5 ⊢
                   have hs5 : wc.heap.size ≤ w5.heap.size := (by have := hC5.size; simp at this; omega)
                   (first
                    | have hB5 := (Bx.new wc (.int .i64 0) (.slice none 0 0) (.slice none 0 0) 25).fr (((Chg.refl (fun _ => False) _).drew).tr hC5)
                    | skip))
                | (go_at_call 30
                   with_reducible refine (HR.out _ _ _ ?_ ?_).mono ?_
                   · first
                     | exact ho5.ara.fr (Chg.refl _ _)
                     | exact ho5.ara.fr ((Chg.refl _ _).drew)
                     | exact ho5.ara.fr ((Chg.refl _ _).alloc _)
                     | exact ho5.ara.fr (((Chg.refl _ _).alloc _).drew)
                   · refine HA.out _ ?_
                     repeat (first | (with_reducible exact Chg.refl _ _) | assumption | (with_reducible refine chg_drew' ?_) | (with_reducible refine chg_alloc' ?_) | (with_reducible refine Chg.tr ?_ hC5))
                   rintro e9 w6 ⟨v6, rfl, ho6, hC6⟩
                   obtain ⟨a7, c7, a8, c8, rfl, _, _⟩ := ara_new ho6
                   (first
                    | (have hB6 := hB5.fr hC6
                       have hl6 := Lib.hid ((hB5.lt : wc.heap.size < _))
                       obtain ⟨z0, z1, z2, f0, f1, f2⟩ := id hB6)
                    | (have hB6 := (Bx.new w5 (.int .i64 0) (.slice none 0 0) (.slice none 0 0) 25).fr hC6
                       have hl6 := Lib.hid (((Bx.new w5 (.int .i64 0) (.slice none 0 0) (.slice none 0 0) 25).lt : w5.heap.size < _))
                       obtain ⟨z0, z1, z2, f0, f1, f2⟩ := id hB6)
                    | skip)))
              all_goals
                rename_i hHd
                go_wp2_with fail
                go_meet
                refine ⟨_, rfl, rfl, ?_, hHd.1⟩
                first
                | exact BoxA.new (A := F) 25 ho6.ara
                | exact BoxA.set (A := F) hB6 ho6 hl6.out
            case rest =>
              obtain ⟨x21, rfl, rfl, hbG, hCc⟩ := hcut
              replace hb := hb.fr hCc
              replace hbF := hbF.fr hCc
              replace HC := Lib.hid (HC.out.tr hCc)
              clear hCc y0 y1 y2 hb1 HR hbE
              obtain ⟨sa, cs, sb, cb, ⟨y0, y1, y2⟩, hb1⟩ := id hb
              obtain ⟨sa2, cs2, sb2, cb2, ⟨p0, p1, p2⟩, hb2⟩ := id hbF
              have h1 := isC _ _ A _ hb2 hb1 HK.out
              go_wp2_with fail
              refine h1.mono ?_
              clear h1 y0 y1 y2 hb1 p0 p1 p2 hb2 hbF
              rintro e9 w11 ⟨rfl, hC9⟩
              replace hb := hb.fr hC9
              replace hbG := hbG.fr hC9
              replace HC := Lib.hid (HC.out.tr hC9)
              clear hC9
              obtain ⟨n1, hn⟩ : ∃ n1, Int.tmod n 4096 = n1 := ⟨_, rfl⟩
              obtain ⟨m1, hm⟩ : ∃ m1, Int.tmod m 4096 = m1 := ⟨_, rfl⟩
              have bn : -4096 < n1 ∧ n1 < 4096 := by
                rw [← hn]
                exact ⟨Int.lt_tmod_of_pos n (by decide), Int.tmod_lt_of_pos n (by decide)⟩
              have bm : -4096 < m1 ∧ m1 < 4096 := by
                rw [← hm]
                exact ⟨Int.lt_tmod_of_pos m (by decide), Int.tmod_lt_of_pos m (by decide)⟩
              have ws : IntKind.i64.wrap (n1 + m1) = n1 + m1 := IntWalk.i64_in _ (by omega)
              clear hn1 hm1
              by_cases hnn : n = n1
              · by_cases hmm : m = m1
                · have b1 : (n != n1) = false := by rw [← hnn]; exact bne_self_eq_false n
                  have b2 : (m != m1) = false := by rw [← hmm]; exact bne_self_eq_false m
                  have HEQ := Lib.hid (show F = rotA (n1 + m1) A by rw [← hnn, ← hmm, ← rot_rot HK.out n m, HE.out, HF.out])
                  have HR := Lib.hid (show ∀ w' u v, Ara w' u ⟨1, [], [n1 + m1]⟩ → Ara w' v A → Calls Try.prog 30 #[u, v] w' (GaveAE w' F 0) from fun w' u v h1 h2 => HEQ.out ▸ trotC (n1 + m1) u v A w' h1 h2 HK.out)
                  have HKF := Lib.hid (show chkB F = true from HEQ.out ▸ (rot_ok HK.out _).2.2)
                  clear hnn hmm HE HF HEQ
                  obtain ⟨sa, cs, sb, cb, ⟨y0, y1, y2⟩, hb1⟩ := id hb
                  go_upto_region 21 with (fail)
                  go_cut [24, 25] (fun s4 s5 wx => ∃ x, s4 = .pointer (some ⟨x, 0, none⟩) ∧ s5 = .int .i64 0 ∧ BoxA wx x F ∧ Chg (fun _ => False) w11 wx)
                  case first =>
                    have KP := Lib.hid (show ∀ w', Chg (fun _ => False) w11 w' → (Chg (fun _ => False) w11 w' ∧ w'.cell? ⟨x3, 0, none⟩ = some (.int .i64 A.k) ∧ w'.cell? ⟨x3, 1, none⟩ = some (.slice sa A.s.length cs) ∧ w'.cell? ⟨x3, 2, none⟩ = some (.slice sb A.e.length cb)) from fun w' h => ⟨h, h.cell y0 id, h.cell y1 id, h.cell y2 id⟩)
                    have HA := Lib.hid (show ∀ w', Chg (fun _ => False) w11 w' → Ara w' (.agg #[.int .i64 A.k, .slice sa A.s.length cs, .slice sb A.e.length cb]) A from fun w' h => hb1.fr h)
                    go_region_held3 (fun w' => Chg (fun _ => False) w11 w' ∧ w'.cell? ⟨x3, 0, none⟩ = some (.int .i64 A.k) ∧ w'.cell? ⟨x3, 1, none⟩ = some (.slice sa A.s.length cs) ∧ w'.cell? ⟨x3, 2, none⟩ = some (.slice sb A.e.length cb)) ((refine KP.out _ ?_; repeat (first | (with_reducible exact Chg.refl _ _) | assumption | (with_reducible refine chg_drew' ?_) | (with_reducible refine chg_alloc' ?_) | (with_reducible refine Chg.tr ?_ hC6) | (with_reducible refine Chg.tr ?_ hC5) | (with_reducible refine Chg.setCell ?_ (.inr hs5) _) | (refine Chg.setCell ?_ (.inr (by simp only []; omega)) _)))) (first
                      | (go_at_call 31
                         (with_reducible refine (ascalar_any (n1 + m1) _).mono ?_)
                         rintro e9 w5 ⟨v5, rfl, ho5, hC5⟩
                         obtain ⟨a5, c5, a6, c6, rfl, _, _⟩ := ara_new ho5
                         simp only [List.length_cons, List.length_nil, Nat.reduceAdd] at ho5 ⊢
                         have hs5 : w11.heap.size ≤ w5.heap.size := (by have := hC5.size; simp at this; omega)
                         (first
                          | have hB5 := (Bx.new w11 (.int .i64 0) (.slice none 0 0) (.slice none 0 0) 25).fr (((Chg.refl (fun _ => False) _).drew).tr hC5)
                          | skip))
                      | (go_at_call 30
                         with_reducible refine (HR.out _ _ _ ?_ ?_).mono ?_
                         · first
                           | exact ho5.ara.fr (Chg.refl _ _)
                           | exact ho5.ara.fr ((Chg.refl _ _).drew)
                           | exact ho5.ara.fr ((Chg.refl _ _).alloc _)
                           | exact ho5.ara.fr (((Chg.refl _ _).alloc _).drew)
                         · refine HA.out _ ?_
                           repeat (first | (with_reducible exact Chg.refl _ _) | assumption | (with_reducible refine chg_drew' ?_) | (with_reducible refine chg_alloc' ?_) | (with_reducible refine Chg.tr ?_ hC5))
                         rintro e9 w6 ⟨v6, rfl, ho6, hC6⟩
                         obtain ⟨a7, c7, a8, c8, rfl, _, _⟩ := ara_new ho6
                         (first
                          | (have hB6 := hB5.fr hC6
                             have hl6 := Lib.hid ((hB5.lt : w11.heap.size < _))
                             obtain ⟨z0, z1, z2, f0, f1, f2⟩ := id hB6)
                          | (have hB6 := (Bx.new w5 (.int .i64 0) (.slice none 0 0) (.slice none 0 0) 25).fr hC6
                             have hl6 := Lib.hid (((Bx.new w5 (.int .i64 0) (.slice none 0 0) (.slice none 0 0) 25).lt : w5.heap.size < _))
                             obtain ⟨z0, z1, z2, f0, f1, f2⟩ := id hB6)
                          | skip)))
                    all_goals
                      rename_i hHd
                      go_wp2_with fail
                      go_meet
                      refine ⟨_, rfl, rfl, ?_, hHd.1⟩
                      first
                      | exact BoxA.new (A := F) 25 ho6.ara
                      | exact BoxA.set (A := F) hB6 ho6 hl6.out
                  case rest =>
                    obtain ⟨x24, rfl, rfl, hbH, hCc⟩ := hcut
                    replace hbG := hbG.fr hCc
                    replace HC := Lib.hid (HC.out.tr hCc)
                    clear hCc y0 y1 y2 hb1 HR hb
                    obtain ⟨sa, cs, sb, cb, ⟨y0, y1, y2⟩, hb1⟩ := id hbG
                    obtain ⟨sa2, cs2, sb2, cb2, ⟨p0, p1, p2⟩, hb2⟩ := id hbH
                    have h1 := isC _ _ F _ hb2 hb1 HKF.out
                    go_wp2_with fail
                    refine h1.mono ?_
                    clear h1 y0 y1 y2 hb1 p0 p1 p2 hb2 hbH hbG
                    rintro e9 w12 ⟨rfl, hC9⟩
                    go_wp2
                    go_ret
                    exact ⟨rfl, HC.out.tr hC9⟩
                · have b1 : (n != n1) = false := by rw [← hnn]; exact bne_self_eq_false n
                  have b2 : (m != m1) = true := bne_iff_ne.2 hmm
                  clear hnn hmm
                  go_wp2
                  go_ret
                  exact ⟨rfl, HC.out⟩
              · have b1 : (n != n1) = true := bne_iff_ne.2 hnn
                clear hnn
                go_wp2
                go_ret
                exact ⟨rfl, HC.out⟩
end Go.Proofs.Ytmmbdhfljabefaa
