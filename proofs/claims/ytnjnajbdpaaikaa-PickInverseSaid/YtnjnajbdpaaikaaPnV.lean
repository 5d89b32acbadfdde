/- PickInverse. -/
import Derived.Test.YtnjnajbdpaaikaaPnG
namespace Go.Proofs.Ytnjnajbdpaaikaa
open Go.RowKit Go.Shelf

set_option maxRecDepth 100000 in
set_option maxHeartbeats 4000000 in
theorem pickInverse_walk (v : Value) (A : Ar) (down : Bool) (W : World) (h : OkArr W v A) : Calls Try.prog 11 #[v, .bool down] W (True_ W) := by
  have hA := h.1
  clear h
  have hal := alive_any
  obtain ⟨vt, ve, hv, ht, he⟩ := id hA
  subst hv
  obtain ⟨ta, ct, rfl, _⟩ := ht.form
  obtain ⟨ae, ce, rfl, _⟩ := he.form
  have hb := BoxA.new (A := A) 25 hA
  have HC := Lib.hid ((Chg.refl (fun _ => False) W).alloc (.cells #[.int .i64 A.k, .slice ta A.s.length ct, .slice ae A.e.length ce] 25))
  clear ht he
  go_enter Try.func11, Try.ntmps11
  go_wp2_with fail
  refine (hal _).mono ?_
  clear hal
  rintro e9 w1 ⟨rfl, hC1⟩
  replace hb := hb.fr hC1
  replace HC := Lib.hid (HC.out.tr hC1)
  clear hC1 hA
  obtain ⟨x0, hx0⟩ : ∃ x3, W.heap.size = x3 := ⟨_, rfl⟩
  rw [hx0] at hb
  obtain ⟨sa, cs, sb, cb, ⟨y0, y1, y2⟩, hb1⟩ := id hb
  obtain ⟨_, l1, l2⟩ := cell_two w1 (.int .i64 A.k) (.slice sa A.s.length cs) (.slice sb A.e.length cb) 25
  have hCl := (Chg.refl (fun _ => False) w1).alloc (.cells #[.int .i64 A.k, .slice sa A.s.length cs, .slice sb A.e.length cb] 25)
  obtain ⟨g, hg⟩ : ∃ g, grt15 A = g := ⟨_, rfl⟩
  have hg1 := great15_one sa sb cs cb _ A _ ⟨l1, l2⟩ g hg
  replace HC := Lib.hid (HC.out.tr hCl)
  replace hb := hb.fr hCl
  clear l1 l2 hCl
  cases g with
  | true =>
    clear hb hg
    go_wp2_with fail
    refine hg1.mono ?_
    clear hg1
    rintro e9 w2 ⟨rfl, rfl⟩
    go_wp2
    go_ret
    exact ⟨rfl, HC.out⟩
  | false =>
    have hle := grt15_not hg
    go_wp2_with fail
    refine hg1.mono ?_
    clear hg1 y0 y1 y2 hb1 hg hx0
    rintro e9 w2 ⟨rfl, rfl⟩
    generalize w1.alloc (.cells #[.int .i64 A.k, .slice sa A.s.length cs, .slice sb A.e.length cb] 25) = w2 at *
    obtain ⟨sa, cs, sb, cb, ⟨y0, y1, y2⟩, hb1⟩ := id hb
    have hck := check_any _ A _ hb1 (by omega)
    cases hc : chkB A with
    | false =>
      rw [show chkE A = 110 by unfold chkE; rw [hc]; rfl] at hck
      clear hc hb hle
      go_wp2_with fail
      refine hck.mono ?_
      clear hck
      rintro e9 w3 ⟨rfl, hC3⟩
      go_wp2
      go_ret
      exact ⟨rfl, HC.out.tr hC3⟩
    | true =>
      rw [show chkE A = 0 by unfold chkE; rw [hc]; rfl] at hck
      by_cases h1 : A.s.length = 1
      · have HV := Lib.hid (⟨hc, h1⟩ : Vec A)
        have d1 : ((A.s.length : Int) != 1) = false := by simp [h1]
        have HLE := Lib.hid hle
        clear hc h1 hle
        go_wp2_with fail
        refine hck.mono ?_
        clear hck y0 y1 y2 hb1
        rintro e9 w3 ⟨rfl, hC3⟩
        replace hb := hb.fr hC3
        replace HC := Lib.hid (HC.out.tr hC3)
        clear hC3
        obtain ⟨sa, cs, sb, cb, ⟨y0, y1, y2⟩, hb1⟩ := id hb
        have h1 := grC _ A down _ hb1 HV.out
        go_wp2_with fail
        refine h1.mono ?_
        clear h1 d1 y0 y1 y2 hb1
        rintro e9 w4 ⟨Z, ⟨hZ, hZl⟩, hZg⟩
        revert hZg
        have HZ := Lib.hid (And.intro hZ hZl)
        clear hZ hZl
        revert e9 w4
        rintro e9 w4 ⟨v9, rfl, ho9, hC9⟩
        obtain ⟨a9, c9, b9, d9, rfl, _, _⟩ := ara_new ho9
        have hbg := BoxA.new (A := ⟨1, A.s, Z⟩) 25 ho9.ara
        have hC8 := hC9.alloc (.cells #[.int .i64 1, .slice a9 A.s.length c9, .slice b9 Z.length d9] 25)
        replace HC := Lib.hid (HC.out.tr hC8)
        obtain ⟨xg, hx⟩ : ∃ x, w4.heap.size = x := ⟨_, rfl⟩
        rw [hx] at hbg
        clear hC9 ho9
        replace hb := hb.fr hC8
        clear hC8
        obtain ⟨sa, cs, sb, cb, ⟨y0, y1, y2⟩, hb1⟩ := id hbg
        have h1 := grC _ ⟨1, A.s, Z⟩ false _ hb1 (HV.out.num HZ.out.2)
        simp only at y0 y1 y2 h1
        go_wp2_with fail
        clear hx
        refine h1.mono ?_
        clear h1 y0 y1 y2 hb1
        rintro e9 w5 ⟨Y, ⟨hY, hYl⟩, hYg⟩
        simp only at hY hYl hYg
        revert hYg
        have HY := Lib.hid (And.intro hY hYl)
        clear hY hYl
        revert e9 w5
        rintro e9 w5 ⟨v9, rfl, ho9, hC9⟩
        obtain ⟨a9, c9, b9, d9, rfl, _, _⟩ := ara_new ho9
        have hbh := BoxA.new (A := ⟨1, A.s, Y⟩) 25 ho9.ara
        have hC8 := hC9.alloc (.cells #[.int .i64 1, .slice a9 A.s.length c9, .slice b9 Y.length d9] 25)
        replace HC := Lib.hid (HC.out.tr hC8)
        obtain ⟨xh, hx⟩ : ∃ x, w5.heap.size = x := ⟨_, rfl⟩
        rw [hx] at hbh
        clear hC9 ho9
        replace hb := hb.fr hC8
        replace hbg := hbg.fr hC8
        clear hC8
        go_wp2_with fail
        clear hx
        obtain ⟨S, hS⟩ : ∃ S, ixV A.e Z = S := ⟨_, rfl⟩
        have HS := Lib.hid hS
        have HVS := Lib.hid (show Vec ⟨A.k, A.s, S⟩ from hS ▸ HV.out.ix HZ.out.2 (by have := okS_mem HZ.out.1; rw [HZ.out.2] at this; exact this))
        have HSl := Lib.hid (show S.length = A.e.length by rw [← hS, ixV_length]; exact HZ.out.2)
        clear hS
        generalize w5.alloc (.cells #[.int .i64 1, .slice a9 A.s.length c9, .slice b9 Y.length d9] 25) = q6 at *
        obtain ⟨sa, cs, sb, cb, ⟨y0, y1, y2⟩, hb1⟩ := id hb
        obtain ⟨sa2, cs2, sb2, cb2, ⟨p0, p1, p2⟩, hb2⟩ := id hbg
        simp only at p0 p1 p2 hb2
        go_cut [10, 11] (fun s10 s11 wx => ∃ x, s10 = .pointer (some ⟨x, 0, none⟩) ∧ s11 = .int .i64 0 ∧ BoxA wx x ⟨A.k, A.s, S⟩ ∧ Chg (fun _ => False) q6 wx)
        case first =>
          have HR := Lib.hid (show ∀ w' u v, Ara w' u A → Axs w' v [⟨false, ⟨1, A.s, Z⟩⟩] → Calls Try.prog 16 #[u, v] w' (GaveAE w' ⟨A.k, A.s, S⟩ 0) from fun w' u v h1 h2 => by
            rw [← HS.out]
            exact ixC u v A A.s Z w' h1 h2 HV.out rfl HZ.out.2 (by have := okS_mem HZ.out.1; rw [HZ.out.2] at this; exact this))
          clear hb hbg hbh
          have KP := Lib.hid (show ∀ w', Chg (fun _ => False) q6 w' → (Chg (fun _ => False) q6 w' ∧ (w'.cell? ⟨x0, 0, none⟩ = some (.int .i64 A.k) ∧ w'.cell? ⟨x0, 1, none⟩ = some (.slice sa A.s.length cs) ∧ w'.cell? ⟨x0, 2, none⟩ = some (.slice sb A.e.length cb)) ∧ w'.cell? ⟨xg, 0, none⟩ = some (.int .i64 1) ∧ w'.cell? ⟨xg, 1, none⟩ = some (.slice sa2 A.s.length cs2) ∧ w'.cell? ⟨xg, 2, none⟩ = some (.slice sb2 Z.length cb2)) from fun w' h => ⟨h, ⟨h.cell y0 id, h.cell y1 id, h.cell y2 id⟩, h.cell p0 id, h.cell p1 id, h.cell p2 id⟩)
          have HA := Lib.hid (show ∀ w', Chg (fun _ => False) q6 w' → Ara w' (.agg #[.int .i64 A.k, .slice sa A.s.length cs, .slice sb A.e.length cb]) A from fun w' h => hb1.fr h)
          have HB := Lib.hid (show ∀ w', Chg (fun _ => False) q6 w' → Ara w' (.agg #[.int .i64 1, .slice sa2 A.s.length cs2, .slice sb2 Z.length cb2]) ⟨1, A.s, Z⟩ from fun w' h => hb2.fr h)
          go_region_held3 (fun w' => Chg (fun _ => False) q6 w' ∧ (w'.cell? ⟨x0, 0, none⟩ = some (.int .i64 A.k) ∧ w'.cell? ⟨x0, 1, none⟩ = some (.slice sa A.s.length cs) ∧ w'.cell? ⟨x0, 2, none⟩ = some (.slice sb A.e.length cb)) ∧ w'.cell? ⟨xg, 0, none⟩ = some (.int .i64 1) ∧ w'.cell? ⟨xg, 1, none⟩ = some (.slice sa2 A.s.length cs2) ∧ w'.cell? ⟨xg, 2, none⟩ = some (.slice sb2 Z.length cb2)) ((refine KP.out _ ?_; (
            repeat (first | (with_reducible exact Chg.refl _ _) | (with_reducible assumption) | (with_reducible refine chg_drew' ?_) | (with_reducible refine chg_alloc' ?_) | (with_reducible refine Chg.tr ?_ hC7) | (with_reducible refine Chg.tr ?_ hC6) | (with_reducible refine Chg.tr ?_ hC5) | (refine Chg.setCell ?_ (.inr (by simp only []; omega)) _))
            ))) (first
            | (go_at_call 21
               (with_reducible refine (at_any _ _ _ _ _ _ _ _).mono ?_)
               rintro e9 w6 ⟨rfl, hC6⟩
               have hA6 : Ara w6 _ ⟨1, A.s, Z⟩ := HB.out _ (by
                 repeat (first | (with_reducible exact Chg.refl _ _) | (with_reducible assumption) | (with_reducible refine chg_drew' ?_) | (with_reducible refine chg_alloc' ?_) | (with_reducible refine Chg.tr ?_ hC7) | (with_reducible refine Chg.tr ?_ hC6) | (with_reducible refine Chg.tr ?_ hC5) | (refine Chg.setCell ?_ (.inr (by simp only []; omega)) _))
                 )
               have hs6 : q6.heap.size ≤ w6.heap.size := (by have := hC6.size; (try simp at this); omega)
               (first
                 | (have hBc := hBno; have hB6 := hBc.fr hC6)
                 | (have hBc := hBno.fr ((Chg.refl (fun _ => False) _).drew); have hB6 := hBc.fr hC6)
                 | (have hBc := hBno.fr ((Chg.refl (fun _ => False) _).alloc (.cells #[] 2)); have hB6 := hBc.fr hC6)
                 | (have hBc := hBno.fr (((Chg.refl (fun _ => False) _).alloc (.cells #[] 2)).drew); have hB6 := hBc.fr hC6)
                 | (have hBc := Bx.new q6 (.int .i64 0) (.slice none 0 0) (.slice none 0 0) 25; have hB6 := hBc.fr hC6)
                 | (have hBc := (Bx.new q6 (.int .i64 0) (.slice none 0 0) (.slice none 0 0) 25).fr ((Chg.refl (fun _ => False) _).drew); have hB6 := hBc.fr hC6)
                 | (have hBc := (Bx.new q6 (.int .i64 0) (.slice none 0 0) (.slice none 0 0) 25).fr ((Chg.refl (fun _ => False) _).alloc (.cells #[] 2)); have hB6 := hBc.fr hC6)
                 | (have hBc := (Bx.new q6 (.int .i64 0) (.slice none 0 0) (.slice none 0 0) 25).fr (((Chg.refl (fun _ => False) _).alloc (.cells #[] 2)).drew); have hB6 := hBc.fr hC6)
                 | (have hBc := Bx.at1 q6 (.cells #[] 2) 25; have hB6 := hBc.fr hC6)
                 | (have hBc := (Bx.at1 q6 (.cells #[] 2) 25).fr ((Chg.refl (fun _ => False) _).drew); have hB6 := hBc.fr hC6)
                 | skip)
               )
            | (go_at_call 16
               with_reducible refine (HR.out _ _ _ ?_ ?_).mono ?_
               · refine HA.out _ ?_
                 repeat (first | (with_reducible exact Chg.refl _ _) | (with_reducible assumption) | (with_reducible refine chg_drew' ?_) | (with_reducible refine chg_alloc' ?_) | (with_reducible refine Chg.tr ?_ hC7) | (with_reducible refine Chg.tr ?_ hC6) | (with_reducible refine Chg.tr ?_ hC5) | (refine Chg.setCell ?_ (.inr (by simp only []; omega)) _))
               ·
                 first
                 | exact axs_at hA6 rfl (by repeat (first | (with_reducible exact Chg.refl _ _) | (with_reducible assumption) | (with_reducible refine chg_drew' ?_) | (with_reducible refine chg_alloc' ?_) | (with_reducible refine Chg.tr ?_ hC7) | (with_reducible refine Chg.tr ?_ hC6) | (with_reducible refine Chg.tr ?_ hC5) | (refine Chg.setCell ?_ (.inr (by simp only []; omega)) _)))
                 | exact axs_at (hA6.fr ((Chg.refl _ _).alloc (.cells #[.int .i64 0, .slice none 0 0, .slice none 0 0] 25))) (World.size_alloc _ _) (by repeat (first | (with_reducible exact Chg.refl _ _) | (with_reducible assumption) | (with_reducible refine chg_drew' ?_) | (with_reducible refine chg_alloc' ?_) | (with_reducible refine Chg.tr ?_ hC7) | (with_reducible refine Chg.tr ?_ hC6) | (with_reducible refine Chg.tr ?_ hC5) | (refine Chg.setCell ?_ (.inr (by simp only []; omega)) _)))
               rintro e9 w7 ⟨v7, rfl, ho7, hC7⟩
               obtain ⟨a7, c7, a8, c8, rfl, _, _⟩ := ara_new ho7
               have hs7 : w6.heap.size ≤ w7.heap.size := (by have := hC7.size; (try simp at this); omega)
               (first
                 | (have hBc := hB6; have hB7 := hBc.fr hC7)
                 | (have hBc := hB6.fr ((Chg.refl (fun _ => False) _).drew); have hB7 := hBc.fr hC7)
                 | (have hBc := hB6.fr ((Chg.refl (fun _ => False) _).alloc (.cells #[.bool false, .int .i64 1, .slice sa2 A.s.length cs2, .slice sb2 Z.length cb2] 39)); have hB7 := hBc.fr hC7)
                 | (have hBc := hB6.fr (((Chg.refl (fun _ => False) _).alloc (.cells #[.bool false, .int .i64 1, .slice sa2 A.s.length cs2, .slice sb2 Z.length cb2] 39)).drew); have hB7 := hBc.fr hC7)
                 | (have hBc := Bx.new w6 (.int .i64 0) (.slice none 0 0) (.slice none 0 0) 25; have hB7 := hBc.fr hC7)
                 | (have hBc := (Bx.new w6 (.int .i64 0) (.slice none 0 0) (.slice none 0 0) 25).fr ((Chg.refl (fun _ => False) _).drew); have hB7 := hBc.fr hC7)
                 | (have hBc := (Bx.new w6 (.int .i64 0) (.slice none 0 0) (.slice none 0 0) 25).fr ((Chg.refl (fun _ => False) _).alloc (.cells #[.bool false, .int .i64 1, .slice sa2 A.s.length cs2, .slice sb2 Z.length cb2] 39)); have hB7 := hBc.fr hC7)
                 | (have hBc := (Bx.new w6 (.int .i64 0) (.slice none 0 0) (.slice none 0 0) 25).fr (((Chg.refl (fun _ => False) _).alloc (.cells #[.bool false, .int .i64 1, .slice sa2 A.s.length cs2, .slice sb2 Z.length cb2] 39)).drew); have hB7 := hBc.fr hC7)
                 | (have hBc := Bx.at1 w6 (.cells #[.bool false, .int .i64 1, .slice sa2 A.s.length cs2, .slice sb2 Z.length cb2] 39) 25; have hB7 := hBc.fr hC7)
                 | (have hBc := (Bx.at1 w6 (.cells #[.bool false, .int .i64 1, .slice sa2 A.s.length cs2, .slice sb2 Z.length cb2] 39) 25).fr ((Chg.refl (fun _ => False) _).drew); have hB7 := hBc.fr hC7)
                 | skip)
               (first
                | (have hl7 := Lib.hid hBc.lt
                   obtain ⟨z0, z1, z2, f0, f1, f2⟩ := id hB7)
                | skip))
            | fail)
          all_goals
            rename_i hHd
            go_wp2_with fail
            go_meet
            refine ⟨_, rfl, rfl, ?_, hHd.1⟩
            first
            | exact BoxA.new (A := ⟨A.k, A.s, S⟩) 25 ho7.ara
            | exact BoxA.set (A := ⟨A.k, A.s, S⟩) hB7 ho7 hl7.out
        case rest =>
          obtain ⟨xs, rfl, rfl, hbs, hCc⟩ := hcut
          replace hb := hb.fr hCc
          replace hbh := hbh.fr hCc
          replace HC := Lib.hid (HC.out.tr hCc)
          clear y0 y1 y2 hb1 p0 p1 p2 hb2 hbg hCc
          obtain ⟨sa, cs, sb, cb, ⟨y0, y1, y2⟩, hb1⟩ := id hbs
          obtain ⟨sa2, cs2, sb2, cb2, ⟨p0, p1, p2⟩, hb2⟩ := id hbh
          simp only at y0 y1 y2 hb1 p0 p1 p2 hb2
          obtain ⟨q7, hw7⟩ : ∃ q7 : World, q7 = wc := ⟨_, rfl⟩
          subst hw7
          go_wp2_with fail
          go_cut [12, 13] (fun s12 s13 wx => ∃ x, s12 = .pointer (some ⟨x, 0, none⟩) ∧ s13 = .int .i64 0 ∧ BoxA wx x A ∧ Chg (fun _ => False) q7 wx)
          case first =>
            have HR := Lib.hid (show ∀ w' u v, Ara w' u ⟨A.k, A.s, S⟩ → Axs w' v [⟨false, ⟨1, A.s, Y⟩⟩] → Calls Try.prog 16 #[u, v] w' (GaveAE w' A 0) from fun w' u v h1 h2 => by
              have h3 := ixC u v ⟨A.k, A.s, S⟩ A.s Y w' h1 h2 HVS.out rfl (by rw [HY.out.2, HZ.out.2]; exact HSl.out.symm) (by
                have := okS_mem HY.out.1
                rw [HY.out.2, HZ.out.2, ← HSl.out] at this
                exact this)
              have h4 := gr_gr HZ.out.1 HZ.out.2 HY.out.1 HY.out.2
              rw [HS.out] at h4
              simp only at h3
              rw [h4] at h3
              exact h3)
            clear hb hbs hbh
            have KP := Lib.hid (show ∀ w', Chg (fun _ => False) q7 w' → (Chg (fun _ => False) q7 w' ∧ (w'.cell? ⟨xs, 0, none⟩ = some (.int .i64 A.k) ∧ w'.cell? ⟨xs, 1, none⟩ = some (.slice sa A.s.length cs) ∧ w'.cell? ⟨xs, 2, none⟩ = some (.slice sb S.length cb)) ∧ w'.cell? ⟨xh, 0, none⟩ = some (.int .i64 1) ∧ w'.cell? ⟨xh, 1, none⟩ = some (.slice sa2 A.s.length cs2) ∧ w'.cell? ⟨xh, 2, none⟩ = some (.slice sb2 Y.length cb2)) from fun w' h => ⟨h, ⟨h.cell y0 id, h.cell y1 id, h.cell y2 id⟩, h.cell p0 id, h.cell p1 id, h.cell p2 id⟩)
            have HA := Lib.hid (show ∀ w', Chg (fun _ => False) q7 w' → Ara w' (.agg #[.int .i64 A.k, .slice sa A.s.length cs, .slice sb S.length cb]) ⟨A.k, A.s, S⟩ from fun w' h => hb1.fr h)
            have HB := Lib.hid (show ∀ w', Chg (fun _ => False) q7 w' → Ara w' (.agg #[.int .i64 1, .slice sa2 A.s.length cs2, .slice sb2 Y.length cb2]) ⟨1, A.s, Y⟩ from fun w' h => hb2.fr h)
            go_region_held3 (fun w' => Chg (fun _ => False) q7 w' ∧ (w'.cell? ⟨xs, 0, none⟩ = some (.int .i64 A.k) ∧ w'.cell? ⟨xs, 1, none⟩ = some (.slice sa A.s.length cs) ∧ w'.cell? ⟨xs, 2, none⟩ = some (.slice sb S.length cb)) ∧ w'.cell? ⟨xh, 0, none⟩ = some (.int .i64 1) ∧ w'.cell? ⟨xh, 1, none⟩ = some (.slice sa2 A.s.length cs2) ∧ w'.cell? ⟨xh, 2, none⟩ = some (.slice sb2 Y.length cb2)) ((refine KP.out _ ?_; (
              repeat (first | (with_reducible exact Chg.refl _ _) | (with_reducible assumption) | (with_reducible refine chg_drew' ?_) | (with_reducible refine chg_alloc' ?_) | (with_reducible refine Chg.tr ?_ hC7) | (with_reducible refine Chg.tr ?_ hC6) | (with_reducible refine Chg.tr ?_ hC5) | (refine Chg.setCell ?_ (.inr (by simp only []; omega)) _))
              ))) (first
              | (go_at_call 21
                 (with_reducible refine (at_any _ _ _ _ _ _ _ _).mono ?_)
                 rintro e9 w6 ⟨rfl, hC6⟩
                 have hA6 : Ara w6 _ ⟨1, A.s, Y⟩ := HB.out _ (by
                   repeat (first | (with_reducible exact Chg.refl _ _) | (with_reducible assumption) | (with_reducible refine chg_drew' ?_) | (with_reducible refine chg_alloc' ?_) | (with_reducible refine Chg.tr ?_ hC7) | (with_reducible refine Chg.tr ?_ hC6) | (with_reducible refine Chg.tr ?_ hC5) | (refine Chg.setCell ?_ (.inr (by simp only []; omega)) _))
                   )
                 have hs6 : q7.heap.size ≤ w6.heap.size := (by have := hC6.size; (try simp at this); omega)
                 (first
                   | (have hBc := hBno; have hB6 := hBc.fr hC6)
                   | (have hBc := hBno.fr ((Chg.refl (fun _ => False) _).drew); have hB6 := hBc.fr hC6)
                   | (have hBc := hBno.fr ((Chg.refl (fun _ => False) _).alloc (.cells #[] 2)); have hB6 := hBc.fr hC6)
                   | (have hBc := hBno.fr (((Chg.refl (fun _ => False) _).alloc (.cells #[] 2)).drew); have hB6 := hBc.fr hC6)
                   | (have hBc := Bx.new q7 (.int .i64 0) (.slice none 0 0) (.slice none 0 0) 25; have hB6 := hBc.fr hC6)
                   | (have hBc := (Bx.new q7 (.int .i64 0) (.slice none 0 0) (.slice none 0 0) 25).fr ((Chg.refl (fun _ => False) _).drew); have hB6 := hBc.fr hC6)
                   | (have hBc := (Bx.new q7 (.int .i64 0) (.slice none 0 0) (.slice none 0 0) 25).fr ((Chg.refl (fun _ => False) _).alloc (.cells #[] 2)); have hB6 := hBc.fr hC6)
                   | (have hBc := (Bx.new q7 (.int .i64 0) (.slice none 0 0) (.slice none 0 0) 25).fr (((Chg.refl (fun _ => False) _).alloc (.cells #[] 2)).drew); have hB6 := hBc.fr hC6)
                   | (have hBc := Bx.at1 q7 (.cells #[] 2) 25; have hB6 := hBc.fr hC6)
                   | (have hBc := (Bx.at1 q7 (.cells #[] 2) 25).fr ((Chg.refl (fun _ => False) _).drew); have hB6 := hBc.fr hC6)
                   | skip)
                 )
              | (go_at_call 16
                 with_reducible refine (HR.out _ _ _ ?_ ?_).mono ?_
                 · refine HA.out _ ?_
                   repeat (first | (with_reducible exact Chg.refl _ _) | (with_reducible assumption) | (with_reducible refine chg_drew' ?_) | (with_reducible refine chg_alloc' ?_) | (with_reducible refine Chg.tr ?_ hC7) | (with_reducible refine Chg.tr ?_ hC6) | (with_reducible refine Chg.tr ?_ hC5) | (refine Chg.setCell ?_ (.inr (by simp only []; omega)) _))
                 ·
                   first
                   | exact axs_at hA6 rfl (by repeat (first | (with_reducible exact Chg.refl _ _) | (with_reducible assumption) | (with_reducible refine chg_drew' ?_) | (with_reducible refine chg_alloc' ?_) | (with_reducible refine Chg.tr ?_ hC7) | (with_reducible refine Chg.tr ?_ hC6) | (with_reducible refine Chg.tr ?_ hC5) | (refine Chg.setCell ?_ (.inr (by simp only []; omega)) _)))
                   | exact axs_at (hA6.fr ((Chg.refl _ _).alloc (.cells #[.int .i64 0, .slice none 0 0, .slice none 0 0] 25))) (World.size_alloc _ _) (by repeat (first | (with_reducible exact Chg.refl _ _) | (with_reducible assumption) | (with_reducible refine chg_drew' ?_) | (with_reducible refine chg_alloc' ?_) | (with_reducible refine Chg.tr ?_ hC7) | (with_reducible refine Chg.tr ?_ hC6) | (with_reducible refine Chg.tr ?_ hC5) | (refine Chg.setCell ?_ (.inr (by simp only []; omega)) _)))
                 rintro e9 w7 ⟨v7, rfl, ho7, hC7⟩
                 obtain ⟨a7, c7, a8, c8, rfl, _, _⟩ := ara_new ho7
                 have hs7 : w6.heap.size ≤ w7.heap.size := (by have := hC7.size; (try simp at this); omega)
                 (first
                   | (have hBc := hB6; have hB7 := hBc.fr hC7)
                   | (have hBc := hB6.fr ((Chg.refl (fun _ => False) _).drew); have hB7 := hBc.fr hC7)
                   | (have hBc := hB6.fr ((Chg.refl (fun _ => False) _).alloc (.cells #[.bool false, .int .i64 1, .slice sa2 A.s.length cs2, .slice sb2 Y.length cb2] 39)); have hB7 := hBc.fr hC7)
                   | (have hBc := hB6.fr (((Chg.refl (fun _ => False) _).alloc (.cells #[.bool false, .int .i64 1, .slice sa2 A.s.length cs2, .slice sb2 Y.length cb2] 39)).drew); have hB7 := hBc.fr hC7)
                   | (have hBc := Bx.new w6 (.int .i64 0) (.slice none 0 0) (.slice none 0 0) 25; have hB7 := hBc.fr hC7)
                   | (have hBc := (Bx.new w6 (.int .i64 0) (.slice none 0 0) (.slice none 0 0) 25).fr ((Chg.refl (fun _ => False) _).drew); have hB7 := hBc.fr hC7)
                   | (have hBc := (Bx.new w6 (.int .i64 0) (.slice none 0 0) (.slice none 0 0) 25).fr ((Chg.refl (fun _ => False) _).alloc (.cells #[.bool false, .int .i64 1, .slice sa2 A.s.length cs2, .slice sb2 Y.length cb2] 39)); have hB7 := hBc.fr hC7)
                   | (have hBc := (Bx.new w6 (.int .i64 0) (.slice none 0 0) (.slice none 0 0) 25).fr (((Chg.refl (fun _ => False) _).alloc (.cells #[.bool false, .int .i64 1, .slice sa2 A.s.length cs2, .slice sb2 Y.length cb2] 39)).drew); have hB7 := hBc.fr hC7)
                   | (have hBc := Bx.at1 w6 (.cells #[.bool false, .int .i64 1, .slice sa2 A.s.length cs2, .slice sb2 Y.length cb2] 39) 25; have hB7 := hBc.fr hC7)
                   | (have hBc := (Bx.at1 w6 (.cells #[.bool false, .int .i64 1, .slice sa2 A.s.length cs2, .slice sb2 Y.length cb2] 39) 25).fr ((Chg.refl (fun _ => False) _).drew); have hB7 := hBc.fr hC7)
                   | skip)
                 (first
                  | (have hl7 := Lib.hid hBc.lt
                     obtain ⟨z0, z1, z2, f0, f1, f2⟩ := id hB7)
                  | skip))
              | fail)
            all_goals
              rename_i hHd
              go_wp2_with fail
              go_meet
              refine ⟨_, rfl, rfl, ?_, hHd.1⟩
              first
              | exact BoxA.new (A := A) 25 ho7.ara
              | exact BoxA.set (A := A) hB7 ho7 hl7.out
          case rest =>
            obtain ⟨xt, rfl, rfl, hbt, hCc⟩ := hcut
            replace hb := hb.fr hCc
            replace hbs := hbs.fr hCc
            replace HC := Lib.hid (HC.out.tr hCc)
            clear y0 y1 y2 hb1 p0 p1 p2 hb2 hbh hCc
            obtain ⟨J, hJ⟩ : ∃ J, iotaS 0 A.e.length = J := ⟨_, rfl⟩
            have HJ := Lib.hid (show vecB (iotaS 0 A.e.length) = ⟨1, A.s, J⟩ by rw [hJ]; unfold vecB; rw [← hJ, iotaS_length, ← HV.out.sh])
            have HJl := Lib.hid (show J.length = A.e.length by rw [← hJ, iotaS_length])
            have hga := gr_again HZ.out.1 HZ.out.2
            rw [hJ, HS.out] at hga
            obtain ⟨sa, cs, sb, cb, ⟨y0, y1, y2⟩, hb1⟩ := id hbs
            have h1 := grK _ ⟨A.k, A.s, S⟩ down J _ hb1 HVS.out hga (by rw [HJl.out]; exact HSl.out.symm)
            clear hJ hga
            simp only at y0 y1 y2 h1
            go_wp2_with fail
            refine h1.mono ?_
            clear h1 y0 y1 y2 hb1 hbs
            rintro e9 w8 ⟨v9, rfl, ho9, hC9⟩
            obtain ⟨a9, c9, b9, d9, rfl, _, _⟩ := ara_new ho9
            have hbk := BoxA.new (A := ⟨1, A.s, J⟩) 25 ho9.ara
            have hC8 := hC9.alloc (.cells #[.int .i64 1, .slice a9 A.s.length c9, .slice b9 J.length d9] 25)
            replace HC := Lib.hid (HC.out.tr hC8)
            obtain ⟨xk, hx⟩ : ∃ x, w8.heap.size = x := ⟨_, rfl⟩
            rw [hx] at hbk
            clear hC9 ho9
            replace hb := hb.fr hC8
            replace hbt := hbt.fr hC8
            clear hC8
            obtain ⟨sa, cs, sb, cb, ⟨y0, y1, y2⟩, hb1⟩ := id hb
            go_wp2_with fail
            clear hx
            refine (ascalar_any _ _).mono ?_
            clear y0 y1 y2 hb1
            rintro e9 w9 ⟨v9, rfl, ho9, hC9⟩
            obtain ⟨a9, c9, b9, d9, rfl, _, _⟩ := ara_new ho9
            have hio := iotaC _ A.e.length w9 ho9.ara HV.out.len
            rw [HJ.out] at hio
            simp only [List.length_cons, List.length_nil, Nat.zero_add] at hio ⊢
            replace hb := hb.fr hC9
            replace hbt := hbt.fr hC9
            replace hbk := hbk.fr hC9
            replace HC := Lib.hid (HC.out.tr hC9)
            clear hC9 ho9
            go_wp2_with fail
            refine hio.mono ?_
            clear hio
            rintro e9 w10 ⟨v9, rfl, ho9, hC9⟩
            obtain ⟨a9, c9, b9, d9, rfl, _, _⟩ := ara_new ho9
            have hbn := BoxA.new (A := ⟨1, A.s, J⟩) 25 ho9.ara
            have hC8 := hC9.alloc (.cells #[.int .i64 1, .slice a9 A.s.length c9, .slice b9 J.length d9] 25)
            replace HC := Lib.hid (HC.out.tr hC8)
            obtain ⟨xn, hx⟩ : ∃ x, w10.heap.size = x := ⟨_, rfl⟩
            rw [hx] at hbn
            clear hC9 ho9
            replace hb := hb.fr hC8
            replace hbt := hbt.fr hC8
            replace hbk := hbk.fr hC8
            clear hC8
            obtain ⟨sa, cs, sb, cb, ⟨y0, y1, y2⟩, hb1⟩ := id hb
            obtain ⟨sa2, cs2, sb2, cb2, ⟨p0, p1, p2⟩, hb2⟩ := id hbt
            have hlm := Lib.hid (show A.e.length ≤ 1000000 ∧ A.s.length ≤ 1000000 by have := HV.out.len; have := HV.out.one; omega)
            have h1 := isC _ _ A _ hb2 hb1 hlm.out
            go_wp2_with fail
            clear hx
            refine h1.mono ?_
            clear h1 y0 y1 y2 hb1 p0 p1 p2 hb2 hb hbt
            rintro e9 w11 ⟨rfl, hC11⟩
            replace hbk := hbk.fr hC11
            replace hbn := hbn.fr hC11
            replace HC := Lib.hid (HC.out.tr hC11)
            clear hC11
            obtain ⟨sa, cs, sb, cb, ⟨y0, y1, y2⟩, hb1⟩ := id hbk
            obtain ⟨sa2, cs2, sb2, cb2, ⟨p0, p1, p2⟩, hb2⟩ := id hbn
            have h1 := isC _ _ ⟨1, A.s, J⟩ _ hb1 hb2 (show J.length ≤ 1000000 ∧ A.s.length ≤ 1000000 by have := HJl.out; have := hlm.out; omega)
            simp only at y0 y1 y2 p0 p1 p2 h1
            go_wp2_with fail
            refine h1.mono ?_
            clear h1 y0 y1 y2 hb1 p0 p1 p2 hb2 hbk hbn
            rintro e9 w12 ⟨rfl, hC12⟩
            go_wp2
            go_ret
            exact ⟨rfl, HC.out.tr hC12⟩
      · have d1 : ((A.s.length : Int) != 1) = true := by
          rw [bne_iff_ne]
          omega
        clear hc hb hle h1
        go_wp2_with fail
        refine hck.mono ?_
        clear hck
        rintro e9 w3 ⟨rfl, hC3⟩
        replace y1 := hC3.cell y1 id
        go_wp2
        go_ret
        exact ⟨rfl, HC.out.tr hC3⟩
end Go.Proofs.Ytnjnajbdpaaikaa
