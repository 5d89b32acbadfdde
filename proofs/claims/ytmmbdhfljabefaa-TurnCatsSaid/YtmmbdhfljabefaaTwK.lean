/- TurnCats. -/
import Derived.Test.YtmmbdhfljabefaaTwI
namespace Go.Proofs.Ytmmbdhfljabefaa
open Go.RowKit Go.Shelf


theorem catC (u v : Value) (l m : List Int) (w : World) (hA : Ara w u (vecB l)) (hB : Ara w v (vecB m)) (h : l.length + m.length ≤ 4096) : Calls Try.prog 44 #[u, v] w (GaveAE w (vecB (l ++ m)) 0) := by
  have h1 := cat_any u v (vecB l) (vecB m) w hA hB (show l.length ≤ 1000000 by omega) (show m.length ≤ 1000000 by omega)
  rw [(cat_vec h).1, (cat_vec h).2] at h1
  exact h1
set_option maxRecDepth 100000 in
set_option maxHeartbeats 4000000 in
theorem turnCats_walk (v1 : Value) (l : List Int) (v2 : Value) (m : List Int) (W : World) (h1 : Oklongs W v1 l) (h2 : Oklongs W v2 m) : Calls Try.prog 10 #[v1, v2] W (True_ W) := by
  have hl := h1.1
  have hm := h2.1
  clear h1 h2
  have hal := alive_any W
  obtain ⟨a1, c1, rfl, _⟩ := hl.form
  obtain ⟨a2, c2, rfl, _⟩ := hm.form
  have HL := Lib.hid hl
  have HM := Lib.hid hm
  clear hl hm
  go_enter Try.func10, Try.ntmps10
  go_wp2_with fail
  refine hal.mono ?_
  clear hal
  rintro e9 w1 ⟨rfl, hC1⟩
  have HC := Lib.hid hC1
  clear hC1
  by_cases g1 : 2000 < l.length
  · have b1 : decide ((2000 : Int) < (l.length : Int)) = true := decide_eq_true (by omega)
    clear g1
    go_wp2
    go_ret
    exact ⟨rfl, HC.out⟩
  · by_cases g2 : 2000 < m.length
    · have b1 : decide ((2000 : Int) < (l.length : Int)) = false := decide_eq_false (by omega)
      have b2 : decide ((2000 : Int) < (m.length : Int)) = true := decide_eq_true (by omega)
      clear g1 g2
      go_wp2
      go_ret
      exact ⟨rfl, HC.out⟩
    · have b1 : decide ((2000 : Int) < (l.length : Int)) = false := decide_eq_false (by omega)
      have b2 : decide ((2000 : Int) < (m.length : Int)) = false := decide_eq_false (by omega)
      have HG := Lib.hid (show l.length ≤ 2000 ∧ m.length ≤ 2000 by omega)
      clear g1 g2
      have hg : l.length + m.length ≤ 4096 := by have := HG.out; omega
      have H1 := Lib.hid (show ∀ v w', Ls w' v l → Calls Try.prog 39 #[v] w' (GaveA w' (vecB l)) from fun v w' h => avector_any v l w' h (by have := HG.out; omega))
      have H2 := Lib.hid (show ∀ v w', Ls w' v m → Calls Try.prog 39 #[v] w' (GaveA w' (vecB m)) from fun v w' h => avector_any v m w' h (by have := HG.out; omega))
      have H3 := Lib.hid (show ∀ u v w', Ara w' u (vecB l) → Ara w' v (vecB m) → Calls Try.prog 44 #[u, v] w' (GaveAE w' (vecB (l ++ m)) 0) from fun u v w' a b => catC u v l m w' a b hg)
      have H4 := Lib.hid (show ∀ u v w', Ara w' u (vecB m) → Ara w' v (vecB l) → Calls Try.prog 44 #[u, v] w' (GaveAE w' (vecB (m ++ l)) 0) from fun u v w' a b => catC u v m l w' a b (by omega))
      have H5 := Lib.hid (show ∀ v w', Ara w' v (vecB (l ++ m)) → Calls Try.prog 27 #[v] w' (GaveAE w' (vecB (l ++ m).reverse) 0) from fun v w' a => by have h := trevC v _ w' a (chk_vec (by rw [List.length_append]; exact hg)); rw [rev_vec (by rw [List.length_append]; exact hg)] at h; exact h)
      have H6 := Lib.hid (show ∀ v w', Ara w' v (vecB l) → Calls Try.prog 27 #[v] w' (GaveAE w' (vecB l.reverse) 0) from fun v w' a => by have h := trevC v _ w' a (chk_vec (by omega)); rw [rev_vec (by omega)] at h; exact h)
      have H7 := Lib.hid (show ∀ v w', Ara w' v (vecB m) → Calls Try.prog 27 #[v] w' (GaveAE w' (vecB m.reverse) 0) from fun v w' a => by have h := trevC v _ w' a (chk_vec (by omega)); rw [rev_vec (by omega)] at h; exact h)
      have H8 := Lib.hid (show ∀ u v w', Ara w' u (vecB m.reverse) → Ara w' v (vecB l.reverse) → Calls Try.prog 44 #[u, v] w' (GaveAE w' (vecB (l ++ m).reverse) 0) from fun u v w' a b => by have h := catC u v m.reverse l.reverse w' a b (by simp; omega); rw [← List.reverse_append] at h; exact h)
      have H9 := Lib.hid (show ∀ w' u v, Ara w' u ⟨1, [], [(l.length : Int)]⟩ → Ara w' v (vecB (l ++ m)) → Calls Try.prog 30 #[u, v] w' (GaveAE w' (vecB (m ++ l)) 0) from fun w' u v a b => by have h := trotC (l.length : Int) u v _ w' a b (chk_vec (by rw [List.length_append]; exact hg)); rw [rot_vec hg] at h; exact h)
      have H10 := Lib.hid (show ∀ u v w', Ara w' u (vecB (l ++ m).reverse) → Ara w' v (vecB (l ++ m).reverse) → Calls Try.prog 29 #[u, .int .i64 0, v] w' (GaveBo w' true) from fun u v w' a b => isC u v _ w' a b (chk_vec (by simp; omega)))
      have H11 := Lib.hid (show ∀ u v w', Ara w' u (vecB (m ++ l)) → Ara w' v (vecB (m ++ l)) → Calls Try.prog 29 #[u, .int .i64 0, v] w' (GaveBo w' true) from fun u v w' a b => isC u v _ w' a b (chk_vec (by simp; omega)))
      clear hg
      generalize vecB (l ++ m).reverse = R at *
      generalize vecB (l ++ m) = C at *
      generalize vecB (m ++ l) = D at *
      generalize vecB l.reverse = X at *
      generalize vecB m.reverse = Y at *
      generalize vecB l = A at *
      generalize vecB m = B at *
      have h1 := H1.out _ w1 (HL.out.fr HC.out)
      go_wp2_with fail
      refine h1.mono ?_
      clear h1
      rintro e9 w2 ⟨v5, rfl, ho5, hC2⟩
      obtain ⟨a5, c5, b5, d5, rfl, _, _⟩ := ara_new ho5
      replace HC := Lib.hid (HC.out.tr hC2)
      have h1 := H2.out _ w2 (HM.out.fr HC.out)
      go_wp2_with fail
      refine h1.mono ?_
      clear h1
      rintro e9 w3 ⟨v6, rfl, ho6, hC3⟩
      obtain ⟨a6, c6, b6, d6, rfl, _, _⟩ := ara_new ho6
      replace HC := Lib.hid (HC.out.tr hC3)
      have hbA := (BoxA.new (A := A) 25 (ho5.ara.fr hC3)).fr ((Chg.refl _ _).alloc (.cells #[.int .i64 B.k, .slice a6 B.s.length c6, .slice b6 B.e.length d6] 25))
      have hbB := BoxA.new (w := w3.alloc (.cells #[.int .i64 A.k, .slice a5 A.s.length c5, .slice b5 A.e.length d5] 25)) (A := B) 25 (ho6.ara.fr ((Chg.refl _ _).alloc _))
      rw [World.size_alloc] at hbB
      replace HC := Lib.hid (HC.out.tr (((Chg.refl (fun _ => False) w3).alloc (.cells #[.int .i64 A.k, .slice a5 A.s.length c5, .slice b5 A.e.length d5] 25)).alloc (.cells #[.int .i64 B.k, .slice a6 B.s.length c6, .slice b6 B.e.length d6] 25)))
      obtain ⟨x6, hx⟩ : ∃ x, w3.heap.size = x := ⟨_, rfl⟩
      rw [hx] at hbA hbB
      clear ho5 ho6 hC2 hC3
      obtain ⟨sa, cs, sb, cb, ⟨y0, y1, y2⟩, hb1⟩ := id hbA
      obtain ⟨qa, cq, qb, dq, ⟨p0, p1, p2⟩, hb2⟩ := id hbB
      have h1 := H3.out _ _ _ hb1 hb2
      go_wp2_with fail
      clear hx
      refine h1.mono ?_
      clear h1 y0 y1 y2 hb1 p0 p1 p2 hb2
      rintro e9 w4 ⟨v9, rfl, ho9, hC9⟩
      obtain ⟨a9, c9, b9, d9, rfl, _, _⟩ := ara_new ho9
      have hbC := BoxA.new (A := C) 25 ho9.ara
      have hC8 := hC9.alloc (.cells #[.int .i64 C.k, .slice a9 C.s.length c9, .slice b9 C.e.length d9] 25)
      replace HC := Lib.hid (HC.out.tr hC8)
      obtain ⟨x8, hx⟩ : ∃ x, w4.heap.size = x := ⟨_, rfl⟩
      rw [hx] at hbC
      clear hC9 ho9
      replace hbA := hbA.fr hC8
      replace hbB := hbB.fr hC8
      clear hC8
      obtain ⟨sa, cs, sb, cb, ⟨y0, y1, y2⟩, hb1⟩ := id hbB
      obtain ⟨qa, cq, qb, dq, ⟨p0, p1, p2⟩, hb2⟩ := id hbA
      have h1 := H4.out _ _ _ hb1 hb2
      go_wp2_with fail
      clear hx
      refine h1.mono ?_
      clear h1 y0 y1 y2 hb1 p0 p1 p2 hb2
      rintro e9 w5 ⟨v9, rfl, ho9, hC9⟩
      obtain ⟨a9, c9, b9, d9, rfl, _, _⟩ := ara_new ho9
      have hbD := BoxA.new (A := D) 25 ho9.ara
      have hC8 := hC9.alloc (.cells #[.int .i64 D.k, .slice a9 D.s.length c9, .slice b9 D.e.length d9] 25)
      replace HC := Lib.hid (HC.out.tr hC8)
      obtain ⟨x10, hx⟩ : ∃ x, w5.heap.size = x := ⟨_, rfl⟩
      rw [hx] at hbD
      clear hC9 ho9
      replace hbA := hbA.fr hC8
      replace hbB := hbB.fr hC8
      replace hbC := hbC.fr hC8
      clear hC8
      obtain ⟨sa, cs, sb, cb, ⟨y0, y1, y2⟩, hb1⟩ := id hbC
      have h1 := H5.out _ _ hb1
      go_wp2_with fail
      clear hx
      refine h1.mono ?_
      clear h1 y0 y1 y2 hb1
      rintro e9 w6 ⟨v9, rfl, ho9, hC9⟩
      obtain ⟨a9, c9, b9, d9, rfl, _, _⟩ := ara_new ho9
      have hbR := BoxA.new (A := R) 25 ho9.ara
      have hC8 := hC9.alloc (.cells #[.int .i64 R.k, .slice a9 R.s.length c9, .slice b9 R.e.length d9] 25)
      replace HC := Lib.hid (HC.out.tr hC8)
      obtain ⟨x12, hx⟩ : ∃ x, w6.heap.size = x := ⟨_, rfl⟩
      rw [hx] at hbR
      clear hC9 ho9
      replace hbA := hbA.fr hC8
      replace hbB := hbB.fr hC8
      replace hbC := hbC.fr hC8
      replace hbD := hbD.fr hC8
      clear hC8
      obtain ⟨sa, cs, sb, cb, ⟨y0, y1, y2⟩, hb1⟩ := id hbA
      have h1 := H6.out _ _ hb1
      go_wp2_with fail
      clear hx
      refine h1.mono ?_
      clear h1 y0 y1 y2 hb1
      rintro e9 w7 ⟨v9, rfl, ho9, hC9⟩
      obtain ⟨a9, c9, b9, d9, rfl, _, _⟩ := ara_new ho9
      have hbX := BoxA.new (A := X) 25 ho9.ara
      have hC8 := hC9.alloc (.cells #[.int .i64 X.k, .slice a9 X.s.length c9, .slice b9 X.e.length d9] 25)
      replace HC := Lib.hid (HC.out.tr hC8)
      obtain ⟨x14, hx⟩ : ∃ x, w7.heap.size = x := ⟨_, rfl⟩
      rw [hx] at hbX
      clear hC9 ho9
      replace hbB := hbB.fr hC8
      replace hbC := hbC.fr hC8
      replace hbD := hbD.fr hC8
      replace hbR := hbR.fr hC8
      clear hC8
      clear hbA
      obtain ⟨sa, cs, sb, cb, ⟨y0, y1, y2⟩, hb1⟩ := id hbB
      have h1 := H7.out _ _ hb1
      go_wp2_with fail
      clear hx
      refine h1.mono ?_
      clear h1 y0 y1 y2 hb1
      rintro e9 w8 ⟨v9, rfl, ho9, hC9⟩
      obtain ⟨a9, c9, b9, d9, rfl, _, _⟩ := ara_new ho9
      have hbY := BoxA.new (A := Y) 25 ho9.ara
      have hC8 := hC9.alloc (.cells #[.int .i64 Y.k, .slice a9 Y.s.length c9, .slice b9 Y.e.length d9] 25)
      replace HC := Lib.hid (HC.out.tr hC8)
      obtain ⟨x16, hx⟩ : ∃ x, w8.heap.size = x := ⟨_, rfl⟩
      rw [hx] at hbY
      clear hC9 ho9
      replace hbC := hbC.fr hC8
      replace hbD := hbD.fr hC8
      replace hbR := hbR.fr hC8
      replace hbX := hbX.fr hC8
      clear hC8
      clear hbB
      obtain ⟨sa, cs, sb, cb, ⟨y0, y1, y2⟩, hb1⟩ := id hbY
      obtain ⟨qa, cq, qb, dq, ⟨p0, p1, p2⟩, hb2⟩ := id hbX
      have h1 := H8.out _ _ _ hb1 hb2
      go_wp2_with fail
      clear hx
      refine h1.mono ?_
      clear h1 y0 y1 y2 hb1 p0 p1 p2 hb2
      rintro e9 w9 ⟨v9, rfl, ho9, hC9⟩
      obtain ⟨a9, c9, b9, d9, rfl, _, _⟩ := ara_new ho9
      have hbZ := BoxA.new (A := R) 25 ho9.ara
      have hC8 := hC9.alloc (.cells #[.int .i64 R.k, .slice a9 R.s.length c9, .slice b9 R.e.length d9] 25)
      replace HC := Lib.hid (HC.out.tr hC8)
      obtain ⟨x18, hx⟩ : ∃ x, w9.heap.size = x := ⟨_, rfl⟩
      rw [hx] at hbZ
      clear hC9 ho9
      replace hbC := hbC.fr hC8
      replace hbD := hbD.fr hC8
      replace hbR := hbR.fr hC8
      clear hC8
      clear hbY hbX
      have HR := H9
      clear H1 H2 H3 H4 H5 H6 H7 H8 H9
      go_upto_region 11 with (fail)
      clear hx
      generalize w9.alloc (.cells #[.int .i64 R.k, .slice a9 R.s.length c9, .slice b9 R.e.length d9] 25) = wz at *
      obtain ⟨sa, cs, sb, cb, ⟨y0, y1, y2⟩, hb1⟩ := id hbC
      go_cut [20, 21] (fun s4 s5 wx => ∃ x, s4 = .pointer (some ⟨x, 0, none⟩) ∧ s5 = .int .i64 0 ∧ BoxA wx x D ∧ Chg (fun _ => False) wz wx)
      case first =>
        have KP := Lib.hid (show ∀ w', Chg (fun _ => False) wz w' → (Chg (fun _ => False) wz w' ∧ w'.cell? ⟨x8, 0, none⟩ = some (.int .i64 C.k) ∧ w'.cell? ⟨x8, 1, none⟩ = some (.slice sa C.s.length cs) ∧ w'.cell? ⟨x8, 2, none⟩ = some (.slice sb C.e.length cb)) from fun w' h => ⟨h, h.cell y0 id, h.cell y1 id, h.cell y2 id⟩)
        have HA := Lib.hid (show ∀ w', Chg (fun _ => False) wz w' → Ara w' (.agg #[.int .i64 C.k, .slice sa C.s.length cs, .slice sb C.e.length cb]) C from fun w' h => hb1.fr h)
        go_region_held3 (fun w' => Chg (fun _ => False) wz w' ∧ w'.cell? ⟨x8, 0, none⟩ = some (.int .i64 C.k) ∧ w'.cell? ⟨x8, 1, none⟩ = some (.slice sa C.s.length cs) ∧ w'.cell? ⟨x8, 2, none⟩ = some (.slice sb C.e.length cb)) ((refine KP.out _ ?_; repeat (first | (with_reducible exact Chg.refl _ _) | assumption | (with_reducible refine chg_drew' ?_) | (with_reducible refine chg_alloc' ?_) | (with_reducible refine Chg.tr ?_ hC6) | (with_reducible refine Chg.tr ?_ hC5) | (with_reducible refine Chg.setCell ?_ (.inr hs5) _) | (refine Chg.setCell ?_ (.inr (by simp only []; omega)) _)))) (first
          | (go_at_call 31
             (with_reducible refine (ascalar_any (l.length : Int) _).mono ?_)
             rintro e9 w5 ⟨v5, rfl, ho5, hC5⟩
             obtain ⟨a5, c5, a6, c6, rfl, _, _⟩ := ara_new ho5
             simp only [List.length_cons, List.length_nil, Nat.reduceAdd] at ho5 ⊢
             have hs5 : wz.heap.size ≤ w5.heap.size := (by have := hC5.size; simp at this; omega)
             (first
              | have hB5 := (Bx.new wz (.int .i64 0) (.slice none 0 0) (.slice none 0 0) 25).fr (((Chg.refl (fun _ => False) _).drew).tr hC5)
              | skip))
          | (go_at_call 30
             with_reducible refine (HR.out _ _ _ ?_ ?_).mono ?_
             · first
               | exact ho5.ara.fr (Chg.refl _ _)
               | exact ho5.ara.fr ((Chg.refl _ _).drew)
               | exact ho5.ara.fr ((Chg.refl _ _).alloc _)
               | exact ho5.ara.fr (((Chg.refl _ _).alloc _).drew)
             · refine HA.out _ ?_
               repeat (first | (with_reducible exact Chg.refl _ _) | assumption | (with_reducible refine chg_drew' ?_) | (with_reducible refine chg_alloc' ?_) | (with_reducible refine Chg.tr ?_ hC5))
             rintro e9 w6 ⟨v6, rfl, ho6, hC6⟩
             obtain ⟨a7, c7, a8, c8, rfl, _, _⟩ := ara_new ho6
             (first
              | (have hB6 := hB5.fr hC6
                 have hl6 := Lib.hid ((hB5.lt : wz.heap.size < _))
                 obtain ⟨z0, z1, z2, f0, f1, f2⟩ := id hB6)
              | (have hB6 := (Bx.new w5 (.int .i64 0) (.slice none 0 0) (.slice none 0 0) 25).fr hC6
                 have hl6 := Lib.hid (((Bx.new w5 (.int .i64 0) (.slice none 0 0) (.slice none 0 0) 25).lt : w5.heap.size < _))
                 obtain ⟨z0, z1, z2, f0, f1, f2⟩ := id hB6)
              | skip)))
        all_goals
          rename_i hHd
          go_wp2_with fail
          go_meet
          refine ⟨_, rfl, rfl, ?_, hHd.1⟩
          first
          | exact BoxA.new (A := D) 25 ho6.ara
          | exact BoxA.set (A := D) hB6 ho6 hl6.out
      case rest =>
        obtain ⟨x20, rfl, rfl, hbE, hCc⟩ := hcut
        replace hbR := hbR.fr hCc
        replace hbZ := hbZ.fr hCc
        replace hbD := hbD.fr hCc
        replace HC := Lib.hid (HC.out.tr hCc)
        clear hCc y0 y1 y2 hb1 HR hbC
        obtain ⟨sa, cs, sb, cb, ⟨y0, y1, y2⟩, hb1⟩ := id hbR
        obtain ⟨qa, cq, qb, dq, ⟨p0, p1, p2⟩, hb2⟩ := id hbZ
        have h1 := H10.out _ _ _ hb1 hb2
        go_wp2_with fail
        refine h1.mono ?_
        clear h1 y0 y1 y2 hb1 p0 p1 p2 hb2 hbR hbZ
        rintro e9 w11 ⟨rfl, hC9⟩
        replace hbD := hbD.fr hC9
        replace hbE := hbE.fr hC9
        replace HC := Lib.hid (HC.out.tr hC9)
        clear hC9
        obtain ⟨sa, cs, sb, cb, ⟨y0, y1, y2⟩, hb1⟩ := id hbE
        obtain ⟨qa, cq, qb, dq, ⟨p0, p1, p2⟩, hb2⟩ := id hbD
        have h1 := H11.out _ _ _ hb1 hb2
        go_wp2_with fail
        refine h1.mono ?_
        clear h1 y0 y1 y2 hb1 p0 p1 p2 hb2 hbD hbE
        rintro e9 w12 ⟨rfl, hC9⟩
        go_wp2
        go_ret
        exact ⟨rfl, HC.out.tr hC9⟩
end Go.Proofs.Ytmmbdhfljabefaa
