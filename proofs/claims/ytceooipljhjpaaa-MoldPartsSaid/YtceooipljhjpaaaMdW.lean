/- MoldCounts. -/
import Derived.Test.YtceooipljhjpaaaMdU
import Derived.Test.YtceooipljhjpaaaMdV
namespace Go.Proofs.Ytceooipljhjpaaa
open Go.RowKit Go.Shelf


theorem catC (u v : Value) (l m : List Int) (w : World) (hA : Ara w u (vecB l)) (hB : Ara w v (vecB m)) (h : l.length + m.length ≤ 4096) : Calls Try.prog 29 #[u, v] w (GaveAE w (vecB (l ++ m)) 0) := by
  have h1 := cat_any u v (vecB l) (vecB m) w hA hB (show l.length ≤ 1000000 by omega) (show m.length ≤ 1000000 by omega)
  rw [(cat_vec h).1, (cat_vec h).2] at h1
  exact h1
theorem takeV (n : Int) (u v : Value) (l : List Int) (w : World) (hL : Ara w u ⟨1, [], [n]⟩) (hA : Ara w v (vecB l)) (h : l.length ≤ 1000000) : Calls Try.prog 26 #[u, v] w (GaveAE w (mgA (tkW ⟨1, [], [n]⟩ [(l.length : Int)]) ⟨1, [], [n]⟩ (vecB l)) (mgN (tkW ⟨1, [], [n]⟩ [(l.length : Int)]) ⟨1, [], [n]⟩ (vecB l))) :=
  take_any u v ⟨1, [], [n]⟩ (vecB l) w hL hA (by simp) h
theorem dropC (n : Int) (u v : Value) (l : List Int) (w : World) (hL : Ara w u ⟨1, [], [n]⟩) (hA : Ara w v (vecB l)) (h : l.length ≤ 4096) : Calls Try.prog 28 #[u, v] w (GaveAE w (vecB (drV n l)) 0) := by
  have h1 := drop_any u v ⟨1, [], [n]⟩ (vecB l) w hL hA (by simp) (show l.length ≤ _ by omega)
  have h2 := drop_in n h
  rw [show (vecB l).s = [(l.length : Int)] from rfl, h2.1, h2.2] at h1
  exact h1
set_option maxRecDepth 100000 in
set_option maxHeartbeats 4000000 in
theorem moldCounts_walk (v1 : Value) (l : List Int) (v2 : Value) (m : List Int) (n : Int) (W : World) (h1 : Oklongs W v1 l) (h2 : Oklongs W v2 m) (hn0 : (Lit.int .i64 n).wf = true) : Calls Try.prog 7 #[v1, v2, .int .i64 n] W (True_ W) := by
  have hn1 := wf_i64' hn0
  clear hn0
  have hl := h1.1
  have hm := h2.1
  clear h1 h2
  have hal := alive_any W
  obtain ⟨a1, c1, rfl, _⟩ := hl.form
  obtain ⟨a2, c2, rfl, _⟩ := hm.form
  have HL := Lib.hid hl
  have HM := Lib.hid hm
  clear hl hm
  go_enter Try.func7, Try.ntmps7
  go_wp2_with fail
  refine hal.mono ?_
  clear hal
  rintro e9 w1 ⟨rfl, hC1⟩
  have HC := Lib.hid hC1
  clear hC1
  by_cases g1 : 2000 < l.length
  · have b1 : decide ((2000 : Int) < (l.length : Int)) = true := decide_eq_true (by omega)
    clear g1
    go_wp2
    go_ret
    exact ⟨rfl, HC.out⟩
  · by_cases g2 : 2000 < m.length
    · have b1 : decide ((2000 : Int) < (l.length : Int)) = false := decide_eq_false (by omega)
      have b2 : decide ((2000 : Int) < (m.length : Int)) = true := decide_eq_true (by omega)
      clear g1 g2
      go_wp2
      go_ret
      exact ⟨rfl, HC.out⟩
    · have b1 : decide ((2000 : Int) < (l.length : Int)) = false := decide_eq_false (by omega)
      have b2 : decide ((2000 : Int) < (m.length : Int)) = false := decide_eq_false (by omega)
      have HG := Lib.hid (show l.length ≤ 2000 ∧ m.length ≤ 2000 by omega)
      clear g1 g2
      have hg : l.length + m.length ≤ 4096 := by have := HG.out; omega
      have H1 := Lib.hid (show ∀ v w', Ls w' v l → Calls Try.prog 25 #[v] w' (GaveA w' (vecB l)) from fun v w' h => avector_any v l w' h (by have := HG.out; omega))
      have H2 := Lib.hid (show ∀ v w', Ls w' v m → Calls Try.prog 25 #[v] w' (GaveA w' (vecB m)) from fun v w' h => avector_any v m w' h (by have := HG.out; omega))
      have H3 := Lib.hid (show ∀ u v w', Ara w' u (vecB l) → Ara w' v (vecB m) → Calls Try.prog 29 #[u, v] w' (GaveAE w' (vecB (l ++ m)) 0) from fun u v w' a b => catC u v l m w' a b hg)
      obtain ⟨TL, hTL⟩ : ∃ TL : Int, ((l ++ m).length : Int) = TL := ⟨_, rfl⟩
      have H4 := Lib.hid (show ∀ v w', Ara w' v (vecB (l ++ m)) → Calls Try.prog 38 #[v] w' (GaveAE w' ⟨1, [], [TL]⟩ 0) from fun v w' a => by have h := tallyC v _ w' a (chk_vec (by rw [List.length_append]; exact hg)); rw [show (vecB (l ++ m)).s.headD 1 = TL from hTL] at h; exact h)
      obtain ⟨TT, hTT⟩ : ∃ TT : Ar, (⟨1, [], [TL]⟩ : Ar) = TT := ⟨_, rfl⟩
      rw [hTT] at H4
      have HTT := Lib.hid hTT
      clear hTT
      obtain ⟨TX, hTX⟩ : ∃ TX, mgA (tkW ⟨1, [], [n]⟩ [(l.length : Int)]) ⟨1, [], [n]⟩ (vecB l) = TX := ⟨_, rfl⟩
      obtain ⟨TN, hTN⟩ : ∃ TN, mgN (tkW ⟨1, [], [n]⟩ [(l.length : Int)]) ⟨1, [], [n]⟩ (vecB l) = TN := ⟨_, rfl⟩
      have H5 := Lib.hid (show ∀ w' u v, Ara w' u ⟨1, [], [n]⟩ → Ara w' v (vecB l) → Calls Try.prog 26 #[u, v] w' (GaveAE w' TX TN) from fun w' u v a b => by have h := takeV n u v l w' a b (by omega); rw [hTX, hTN] at h; exact h)
      have H6 := Lib.hid (show ∀ w' u v, Ara w' u ⟨1, [], [n]⟩ → Ara w' v (vecB l) → Calls Try.prog 28 #[u, v] w' (GaveAE w' (vecB (drV n l)) 0) from fun w' u v a b => dropC n u v l w' a b (by omega))
      have HTX := Lib.hid (And.intro hTX hTN)
      have HTL := Lib.hid hTL
      obtain ⟨TY, hTY⟩ : ∃ TY, vecB (drV n l) = TY := ⟨_, rfl⟩
      have HTY := Lib.hid hTY
      rw [hTY] at H6
      clear hg hTX hTN hTL hTY
      generalize vecB (l ++ m) = C at *
      obtain ⟨A, hA⟩ : ∃ A, vecB l = A := ⟨_, rfl⟩
      obtain ⟨B, hB⟩ : ∃ B, vecB m = B := ⟨_, rfl⟩
      rw [hA] at H1 H3 H5 H6
      rw [hB] at H2 H3
      clear hA hB
      have h1 := H1.out _ w1 (HL.out.fr HC.out)
      go_wp2_with fail
      refine h1.mono ?_
      clear h1
      rintro e9 w2 ⟨v5, rfl, ho5, hC2⟩
      obtain ⟨a5, c5, b5, d5, rfl, _, _⟩ := ara_new ho5
      replace HC := Lib.hid (HC.out.tr hC2)
      have h1 := H2.out _ w2 (HM.out.fr HC.out)
      go_wp2_with fail
      refine h1.mono ?_
      clear h1
      rintro e9 w3 ⟨v6, rfl, ho6, hC3⟩
      obtain ⟨a6, c6, b6, d6, rfl, _, _⟩ := ara_new ho6
      replace HC := Lib.hid (HC.out.tr hC3)
      have hbA := (BoxA.new (A := A) 25 (ho5.ara.fr hC3)).fr ((Chg.refl _ _).alloc (.cells #[.int .i64 B.k, .slice a6 B.s.length c6, .slice b6 B.e.length d6] 25))
      have hbB := BoxA.new (w := w3.alloc (.cells #[.int .i64 A.k, .slice a5 A.s.length c5, .slice b5 A.e.length d5] 25)) (A := B) 25 (ho6.ara.fr ((Chg.refl _ _).alloc _))
      rw [World.size_alloc] at hbB
      replace HC := Lib.hid (HC.out.tr (((Chg.refl (fun _ => False) w3).alloc (.cells #[.int .i64 A.k, .slice a5 A.s.length c5, .slice b5 A.e.length d5] 25)).alloc (.cells #[.int .i64 B.k, .slice a6 B.s.length c6, .slice b6 B.e.length d6] 25)))
      obtain ⟨x6, hx⟩ : ∃ x, w3.heap.size = x := ⟨_, rfl⟩
      rw [hx] at hbA hbB
      clear ho5 ho6 hC2 hC3
      obtain ⟨sa, cs, sb, cb, ⟨y0, y1, y2⟩, hb1⟩ := id hbA
      obtain ⟨qa, cq, qb, dq, ⟨p0, p1, p2⟩, hb2⟩ := id hbB
      have h1 := H3.out _ _ _ hb1 hb2
      go_wp2_with fail
      clear hx
      refine h1.mono ?_
      clear h1 y0 y1 y2 hb1 p0 p1 p2 hb2
      rintro e9 w4 ⟨v9, rfl, ho9, hC9⟩
      obtain ⟨a9, c9, b9, d9, rfl, _, _⟩ := ara_new ho9
      have hbC := BoxA.new (A := C) 25 ho9.ara
      have hC8 := hC9.alloc (.cells #[.int .i64 C.k, .slice a9 C.s.length c9, .slice b9 C.e.length d9] 25)
      replace HC := Lib.hid (HC.out.tr hC8)
      obtain ⟨x8, hx⟩ : ∃ x, w4.heap.size = x := ⟨_, rfl⟩
      rw [hx] at hbC
      clear hC9 ho9
      replace hbA := hbA.fr hC8
      replace hbB := hbB.fr hC8
      clear hC8
      obtain ⟨sa, cs, sb, cb, ⟨y0, y1, y2⟩, hb1⟩ := id hbC
      have h1 := H4.out _ _ hb1
      clear hbB
      go_wp2_with fail
      clear hx
      refine h1.mono ?_
      clear h1 y0 y1 y2 hb1 hbC
      rintro e9 w5 ⟨v9, rfl, ho9, hC9⟩
      obtain ⟨a9, c9, b9, d9, rfl, _, _⟩ := ara_new ho9
      have hbT := BoxA.new (A := TT) 25 ho9.ara
      have hC8 := hC9.alloc (.cells #[.int .i64 TT.k, .slice a9 TT.s.length c9, .slice b9 TT.e.length d9] 25)
      replace HC := Lib.hid (HC.out.tr hC8)
      obtain ⟨x10, hx⟩ : ∃ x, w5.heap.size = x := ⟨_, rfl⟩
      rw [hx] at hbT
      clear hC9 ho9
      replace hbA := hbA.fr hC8
      clear hC8
      clear H1 H2 H3 H4
      have HR := H5
      go_wp2_with fail
      clear hx
      generalize w5.alloc (.cells #[.int .i64 TT.k, .slice a9 TT.s.length c9, .slice b9 TT.e.length d9] 25) = wy at *
      obtain ⟨sa, cs, sb, cb, ⟨y0, y1, y2⟩, hb1⟩ := id hbA
      go_cut [14, 15] (fun s4 s5 wx => ∃ x, s4 = .pointer (some ⟨x, 0, none⟩) ∧ s5 = .int .i64 TN ∧ BoxA wx x TX ∧ Chg (fun _ => False) wy wx)
      case first =>
        have KP := Lib.hid (show ∀ w', Chg (fun _ => False) wy w' → (Chg (fun _ => False) wy w' ∧ w'.cell? ⟨x6, 0, none⟩ = some (.int .i64 A.k) ∧ w'.cell? ⟨x6, 1, none⟩ = some (.slice sa A.s.length cs) ∧ w'.cell? ⟨x6, 2, none⟩ = some (.slice sb A.e.length cb)) from fun w' h => ⟨h, h.cell y0 id, h.cell y1 id, h.cell y2 id⟩)
        have HA := Lib.hid (show ∀ w', Chg (fun _ => False) wy w' → Ara w' (.agg #[.int .i64 A.k, .slice sa A.s.length cs, .slice sb A.e.length cb]) A from fun w' h => hb1.fr h)
        go_region_held3 (fun w' => Chg (fun _ => False) wy w' ∧ w'.cell? ⟨x6, 0, none⟩ = some (.int .i64 A.k) ∧ w'.cell? ⟨x6, 1, none⟩ = some (.slice sa A.s.length cs) ∧ w'.cell? ⟨x6, 2, none⟩ = some (.slice sb A.e.length cb)) ((refine KP.out _ ?_; repeat (first | (with_reducible exact Chg.refl _ _) | assumption | (with_reducible refine chg_drew' ?_) | (with_reducible refine chg_alloc' ?_) | (with_reducible refine Chg.tr ?_ hC6) | (with_reducible refine Chg.tr ?_ hC5) | (with_reducible refine Chg.setCell ?_ (.inr hs5) _) | (refine Chg.setCell ?_ (.inr (by simp only []; omega)) _)))) (first
          | (go_at_call 27
             (with_reducible refine (ascalar_any n _).mono ?_)
             rintro e9 w5 ⟨v5, rfl, ho5, hC5⟩
             obtain ⟨a5, c5, a6, c6, rfl, _, _⟩ := ara_new ho5
             simp only [List.length_cons, List.length_nil, Nat.reduceAdd] at ho5 ⊢
             have hs5 : wy.heap.size ≤ w5.heap.size := (by have := hC5.size; simp at this; omega)
             (first
              | have hB5 := (Bx.new wy (.int .i64 0) (.slice none 0 0) (.slice none 0 0) 25).fr (((Chg.refl (fun _ => False) _).drew).tr hC5)
              | skip))
          | (go_at_call 26
             with_reducible refine (HR.out _ _ _ ?_ ?_).mono ?_
             · first
               | exact ho5.ara.fr (Chg.refl _ _)
               | exact ho5.ara.fr ((Chg.refl _ _).drew)
               | exact ho5.ara.fr ((Chg.refl _ _).alloc _)
               | exact ho5.ara.fr (((Chg.refl _ _).alloc _).drew)
             · refine HA.out _ ?_
               repeat (first | (with_reducible exact Chg.refl _ _) | assumption | (with_reducible refine chg_drew' ?_) | (with_reducible refine chg_alloc' ?_) | (with_reducible refine Chg.tr ?_ hC5))
             rintro e9 w6 ⟨v6, rfl, ho6, hC6⟩
             obtain ⟨a7, c7, a8, c8, rfl, _, _⟩ := ara_new ho6
             (first
              | (have hB6 := hB5.fr hC6
                 have hl6 := Lib.hid ((hB5.lt : wy.heap.size < _))
                 obtain ⟨z0, z1, z2, f0, f1, f2⟩ := id hB6)
              | (have hB6 := (Bx.new w5 (.int .i64 0) (.slice none 0 0) (.slice none 0 0) 25).fr hC6
                 have hl6 := Lib.hid (((Bx.new w5 (.int .i64 0) (.slice none 0 0) (.slice none 0 0) 25).lt : w5.heap.size < _))
                 obtain ⟨z0, z1, z2, f0, f1, f2⟩ := id hB6)
              | skip)))
        all_goals
          rename_i hHd
          go_wp2_with fail
          go_meet
          refine ⟨_, rfl, rfl, ?_, hHd.1⟩
          first
          | exact BoxA.new (A := TX) 25 ho6.ara
          | exact BoxA.set (A := TX) hB6 ho6 hl6.out
      case rest =>
        obtain ⟨x14, rfl, rfl, hbX, hCc⟩ := hcut
        replace hbT := hbT.fr hCc
        replace hbA := hbA.fr hCc
        replace HC := Lib.hid (HC.out.tr hCc)
        clear hCc y0 y1 y2 hb1 HR H5
        have HR := H6
        go_wp2_with fail
        generalize wc = wz at *
        obtain ⟨sa, cs, sb, cb, ⟨y0, y1, y2⟩, hb1⟩ := id hbA
        go_cut [16, 17] (fun s4 s5 wx => ∃ x, s4 = .pointer (some ⟨x, 0, none⟩) ∧ s5 = .int .i64 0 ∧ BoxA wx x TY ∧ Chg (fun _ => False) wz wx)
        case first =>
          have KP := Lib.hid (show ∀ w', Chg (fun _ => False) wz w' → (Chg (fun _ => False) wz w' ∧ w'.cell? ⟨x6, 0, none⟩ = some (.int .i64 A.k) ∧ w'.cell? ⟨x6, 1, none⟩ = some (.slice sa A.s.length cs) ∧ w'.cell? ⟨x6, 2, none⟩ = some (.slice sb A.e.length cb)) from fun w' h => ⟨h, h.cell y0 id, h.cell y1 id, h.cell y2 id⟩)
          have HA := Lib.hid (show ∀ w', Chg (fun _ => False) wz w' → Ara w' (.agg #[.int .i64 A.k, .slice sa A.s.length cs, .slice sb A.e.length cb]) A from fun w' h => hb1.fr h)
          go_region_held3 (fun w' => Chg (fun _ => False) wz w' ∧ w'.cell? ⟨x6, 0, none⟩ = some (.int .i64 A.k) ∧ w'.cell? ⟨x6, 1, none⟩ = some (.slice sa A.s.length cs) ∧ w'.cell? ⟨x6, 2, none⟩ = some (.slice sb A.e.length cb)) ((refine KP.out _ ?_; repeat (first | (with_reducible exact Chg.refl _ _) | assumption | (with_reducible refine chg_drew' ?_) | (with_reducible refine chg_alloc' ?_) | (with_reducible refine Chg.tr ?_ hC6) | (with_reducible refine Chg.tr ?_ hC5) | (with_reducible refine Chg.setCell ?_ (.inr hs5) _) | (refine Chg.setCell ?_ (.inr (by simp only []; omega)) _)))) (first
            | (go_at_call 27
               (with_reducible refine (ascalar_any n _).mono ?_)
               rintro e9 w5 ⟨v5, rfl, ho5, hC5⟩
               obtain ⟨a5, c5, a6, c6, rfl, _, _⟩ := ara_new ho5
               simp only [List.length_cons, List.length_nil, Nat.reduceAdd] at ho5 ⊢
               have hs5 : wz.heap.size ≤ w5.heap.size := (by have := hC5.size; simp at this; omega)
               (first
                | have hB5 := (Bx.new wz (.int .i64 0) (.slice none 0 0) (.slice none 0 0) 25).fr (((Chg.refl (fun _ => False) _).drew).tr hC5)
                | skip))
            | (go_at_call 28
               with_reducible refine (HR.out _ _ _ ?_ ?_).mono ?_
               · first
                 | exact ho5.ara.fr (Chg.refl _ _)
                 | exact ho5.ara.fr ((Chg.refl _ _).drew)
                 | exact ho5.ara.fr ((Chg.refl _ _).alloc _)
                 | exact ho5.ara.fr (((Chg.refl _ _).alloc _).drew)
               · refine HA.out _ ?_
                 repeat (first | (with_reducible exact Chg.refl _ _) | assumption | (with_reducible refine chg_drew' ?_) | (with_reducible refine chg_alloc' ?_) | (with_reducible refine Chg.tr ?_ hC5))
               rintro e9 w6 ⟨v6, rfl, ho6, hC6⟩
               obtain ⟨a7, c7, a8, c8, rfl, _, _⟩ := ara_new ho6
               (first
                | (have hB6 := hB5.fr hC6
                   have hl6 := Lib.hid ((hB5.lt : wz.heap.size < _))
                   obtain ⟨z0, z1, z2, f0, f1, f2⟩ := id hB6)
                | (have hB6 := (Bx.new w5 (.int .i64 0) (.slice none 0 0) (.slice none 0 0) 25).fr hC6
                   have hl6 := Lib.hid (((Bx.new w5 (.int .i64 0) (.slice none 0 0) (.slice none 0 0) 25).lt : w5.heap.size < _))
                   obtain ⟨z0, z1, z2, f0, f1, f2⟩ := id hB6)
                | skip)))
          all_goals
            rename_i hHd
            go_wp2_with fail
            go_meet
            refine ⟨_, rfl, rfl, ?_, hHd.1⟩
            first
            | exact BoxA.new (A := TY) 25 ho6.ara
            | exact BoxA.set (A := TY) hB6 ho6 hl6.out
        case rest =>
          obtain ⟨x16, rfl, rfl, hbY, hCc⟩ := hcut
          replace hbT := hbT.fr hCc
          replace hbX := hbX.fr hCc
          replace HC := Lib.hid (HC.out.tr hCc)
          clear hCc y0 y1 y2 hb1 HR H6 hbA
          go_wp2_with fail
          generalize wc = wu at *
          obtain ⟨sa, cs, sb, cb, ⟨y0, y1, y2⟩, hb1⟩ := id hbT
          have KP := Lib.hid (show ∀ w', Chg (fun _ => False) wu w' → (Chg (fun _ => False) wu w' ∧ w'.cell? ⟨x10, 0, none⟩ = some (.int .i64 TT.k) ∧ w'.cell? ⟨x10, 1, none⟩ = some (.slice sa TT.s.length cs) ∧ w'.cell? ⟨x10, 2, none⟩ = some (.slice sb TT.e.length cb)) from fun w' h => ⟨h, h.cell y0 id, h.cell y1 id, h.cell y2 id⟩)
          have hTE : TT.e.length = 1 ∧ TT.s.length = 0 := by rw [← HTT.out]; exact ⟨rfl, rfl⟩
          have H7 := Lib.hid (show ∀ w' v, Chg (fun _ => False) wu w' → Ara w' v TT → Calls Try.prog 30 #[.agg #[.int .i64 TT.k, .slice sa TT.s.length cs, .slice sb TT.e.length cb], .int .i64 0, v] w' (GaveBo w' true) from fun w' v h hv => isC _ _ TT _ (hb1.fr h) hv ⟨by omega, by omega⟩)
          have H8 := Lib.hid (show ∀ w', Calls Try.prog 27 #[.int .i64 TL] w' (GaveA w' TT) from fun w' => by have h := ascalar_any TL w'; rw [HTT.out] at h; exact h)
          have hTL2 : (l.length : Int) + (m.length : Int) = TL := by have := HTL.out; rw [List.length_append] at this; omega
          have hw1 : IntKind.i64.wrap ((l.length : Int) + (m.length : Int)) = TL := by rw [hTL2]; exact IntWalk.i64_in _ (by have := HG.out; omega)
          have hw2 : wrap64 ((l.length : Int) + (m.length : Int)) = TL := by rw [hTL2]; exact mwrap (by have := HG.out; omega)
          have HBX := Lib.hid hbX
          have HBY := Lib.hid hbY
          clear hbT hbX hbY hb1 hTE hTL2 b1 b2
          go_region_held3 (fun w' => (Chg (fun _ => False) wu w' ∧ w'.cell? ⟨x10, 0, none⟩ = some (.int .i64 TT.k) ∧ w'.cell? ⟨x10, 1, none⟩ = some (.slice sa TT.s.length cs) ∧ w'.cell? ⟨x10, 2, none⟩ = some (.slice sb TT.e.length cb))) ((refine KP.out _ ?_; repeat (first | (with_reducible exact Chg.refl _ _) | (with_reducible assumption) | (with_reducible refine chg_drew' ?_) | (with_reducible refine chg_alloc' ?_) | (with_reducible refine Chg.tr ?_ hq2) | (with_reducible refine Chg.tr ?_ hq1)))) (first
            | (go_at_call 27
               (with_reducible refine (H8.out _).mono ?_)
               rintro e9 q1 ⟨u2, rfl, hu2, hq1⟩
               have hu2a := Lib.hid hu2.ara)
            | (go_at_call 30
               with_reducible refine (H7.out _ _ ?_ ?_).mono ?_
               · repeat (first | (with_reducible exact Chg.refl _ _) | (with_reducible assumption) | (with_reducible refine chg_drew' ?_) | (with_reducible refine chg_alloc' ?_) | (with_reducible refine Chg.tr ?_ hq1))
               · first | exact hu2a.out | exact hu2a.out.fr ((Chg.refl _ _).drew)
               rintro e9 q2 ⟨rfl, hq2⟩))
          all_goals
            rename_i hHd
            have hbX := HBX.out.fr hHd.1
            have hbY := HBY.out.fr hHd.1
            replace HC := Lib.hid (HC.out.tr hHd.1)
            clear hHd KP H7 H8 HBX HBY hq1 hq2 hu2 hu2a y0 y1 y2 hw1 hw2
            obtain ⟨sa, cs, sb, cb, ⟨y0, y1, y2⟩, hb1⟩ := hbX
            obtain ⟨ta, ct, tb, cu, ⟨z0, z1, z2⟩, hb2⟩ := hbY
            clear hb1 hb2
            have hl4 : l.length ≤ 4096 := by have := HG.out; omega
            by_cases hin : -4096 ≤ n ∧ n ≤ 4096
            · obtain ⟨t1, t2⟩ := take_in hl4 hin
              rw [HTX.out.1] at t2
              rw [HTX.out.2] at t1
              subst t1
              have hXL : (TX.e.length : Int) = if n < 0 then -n else n := by rw [t2]; exact tk_len l hin.1
              have hYL : (TY.e.length : Int) = max 0 ((l.length : Int) - (if n < 0 then -n else n)) := by
                rw [← HTY.out]
                show ((drV n l).length : Int) = _
                split
                · rename_i h
                  rw [dr_end ⟨hin.1, h⟩, List.length_take]
                  omega
                · rename_i h
                  rw [dr_front ⟨by omega, hin.2⟩ hl4, List.length_drop]
                  omega
              by_cases h0 : n < 0
              · rw [if_pos h0] at hXL hYL
                have d1 : decide (n < 0) = true := decide_eq_true h0
                obtain ⟨S, hS⟩ : ∃ S, -n = S := ⟨_, rfl⟩
                rw [hS] at hXL hYL
                have v1 : wrap64 (-n) = S := by rw [hS]; exact mwrap (by omega)
                have d2 : decide (S < 0) = false := decide_eq_false (by omega)
                have d3 : decide ((4096 : Int) < S) = false := decide_eq_false (by omega)
                have v2 : wrap64 ((l.length : Int) - S) = (l.length : Int) - S := mwrap (by omega)
                have w3 : IntKind.i64.wrap (TX.e.length : Int) = (TX.e.length : Int) := IntWalk.i64_in _ (by omega)
                have w4 : IntKind.i64.wrap (TY.e.length : Int) = (TY.e.length : Int) := IntWalk.i64_in _ (by omega)
                have w5 : IntKind.i64.wrap (l.length : Int) = (l.length : Int) := IntWalk.i64_in _ (by omega)
                have b1 : ((TX.e.length : Int) == S) = true := beq_iff_eq.2 hXL
                have HYL := Lib.hid hYL
                clear hXL hYL hin h0 hS t2
                go_wp2
                all_goals
                  go_ret
                  refine ⟨congrArg (fun b => Ending.returned (.bool b)) (beq_iff_eq.2 ?_), HC.out⟩
                  have hy := HYL.out
                  omega
              · rw [if_neg h0] at hXL hYL
                have d1 : decide (n < 0) = false := decide_eq_false h0
                have d2 : decide (n < 0) = false := decide_eq_false (by omega)
                have d3 : decide ((4096 : Int) < n) = false := decide_eq_false (by omega)
                have v2 : wrap64 ((l.length : Int) - n) = (l.length : Int) - n := mwrap (by omega)
                have w3 : IntKind.i64.wrap (TX.e.length : Int) = (TX.e.length : Int) := IntWalk.i64_in _ (by omega)
                have w4 : IntKind.i64.wrap (TY.e.length : Int) = (TY.e.length : Int) := IntWalk.i64_in _ (by omega)
                have w5 : IntKind.i64.wrap (l.length : Int) = (l.length : Int) := IntWalk.i64_in _ (by omega)
                have b1 : ((TX.e.length : Int) == n) = true := beq_iff_eq.2 hXL
                have HYL := Lib.hid hYL
                clear hXL hYL hin h0 t2
                go_wp2
                all_goals
                  go_ret
                  refine ⟨congrArg (fun b => Ending.returned (.bool b)) (beq_iff_eq.2 ?_), HC.out⟩
                  have hy := HYL.out
                  omega
            · have hY0 : TY.e = [] := by
                rw [← HTY.out]
                exact dr_out (by omega) hl4
              have hy0 : TY.e.length = 0 := by rw [hY0]; rfl
              rw [hy0] at z2
              have hN9 := take_out (n := n) hl4 (by omega)
              rw [HTX.out.2] at hN9
              subst hN9
              clear hY0 hy0
              by_cases h0 : n < 0
              · have d1 : decide (n < 0) = true := decide_eq_true h0
                by_cases hm : n = -9223372036854775808
                · subst hm
                  have v9 : wrap64 9223372036854775808 = -9223372036854775808 := by kernel_rfl
                  clear hin
                  go_wp2
                  go_ret
                  exact ⟨rfl, HC.out⟩
                · have v1 : wrap64 (-n) = -n := mwrap (by omega)
                  obtain ⟨S, hS⟩ : ∃ S, -n = S := ⟨_, rfl⟩
                  rw [hS] at v1
                  have d2 : decide (S < 0) = false := decide_eq_false (by omega)
                  have d3 : decide ((4096 : Int) < S) = true := decide_eq_true (by omega)
                  have v1 : wrap64 (-n) = S := by rw [hS]; exact v1
                  clear hS hin hm h0
                  go_wp2
                  go_ret
                  exact ⟨rfl, HC.out⟩
              · have d1 : decide (n < 0) = false := decide_eq_false h0
                have d3 : decide ((4096 : Int) < n) = true := decide_eq_true (by omega)
                clear hin
                go_wp2
                go_ret
                exact ⟨rfl, HC.out⟩
end Go.Proofs.Ytceooipljhjpaaa
