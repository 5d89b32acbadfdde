/- MoldBack. -/
import Derived.Test.YtceooipljhjpaaaMdT
import Derived.Test.YtceooipljhjpaaaMdQ
import Derived.Test.YtceooipljhjpaaaArO
import Derived.Deep.DeepCutAuto
namespace Go.Proofs.Ytceooipljhjpaaa
open Go.RowKit Go.Shelf

theorem isC (u v : Value) (A : Ar) (w : World) (hA : Ara w u A) (hB : Ara w v A) (hle : A.e.length ≤ 1000000 ∧ A.s.length ≤ 1000000) : Calls Try.prog 30 #[u, .int .i64 0, v] w (GaveBo w true) := by
  have h := is_any u v A A 0 w hA hB hle.1 hle.2
  rw [isB_iff.2 ⟨rfl, rfl⟩] at h
  exact h
theorem shapeC (v : Value) (A : Ar) (w : World) (hA : Ara w v A) (hc : chkB A = true) : Calls Try.prog 36 #[v] w (GaveAE w (vecB A.s) 0) := by
  have h := shape_any v A w hA (by have := (chk_len hc).1; omega)
  rw [show shpA A = vecB A.s by unfold shpA; rw [if_pos hc]; rfl, show chkN A = 0 by unfold chkN; rw [if_pos hc]] at h
  exact h
theorem ravelC (v : Value) (A : Ar) (w : World) (hA : Ara w v A) (hc : chkB A = true) : Calls Try.prog 37 #[v] w (GaveAE w ⟨A.k, [(A.e.length : Int)], A.e⟩ 0) := by
  have h := ravel_any v A w hA (by have := (chk_len hc).1; omega)
  rw [show ravA A = ⟨A.k, [(A.e.length : Int)], A.e⟩ by unfold ravA; rw [if_pos hc], show chkN A = 0 by unfold chkN; rw [if_pos hc]] at h
  exact h
theorem tallyC (v : Value) (A : Ar) (w : World) (hA : Ara w v A) (hc : chkB A = true) : Calls Try.prog 38 #[v] w (GaveAE w ⟨1, [], [A.s.headD 1]⟩ 0) := by
  have h := tally_any v A w hA (by have := (chk_len hc).1; omega)
  rw [show talA A = ⟨1, [], [A.s.headD 1]⟩ by unfold talA; rw [if_pos hc], show chkN A = 0 by unfold chkN; rw [if_pos hc]] at h
  exact h
theorem chk_rav {A : Ar} (h : chkB A = true) : chkB ⟨A.k, [(A.e.length : Int)], A.e⟩ = true := by
  rw [chkB_iff]
  exact ⟨shB_one (chk_len h).1, prodL_one _, (chkB_iff.1 h).2.2⟩
theorem reravC (u v : Value) (A : Ar) (w : World) (hS : Ara w u (vecB A.s)) (hR : Ara w v ⟨A.k, [(A.e.length : Int)], A.e⟩) (hc : chkB A = true) : Calls Try.prog 33 #[u, v] w (GaveAE w A 0) := by
  have h := reshape_any u v (vecB A.s) ⟨A.k, [(A.e.length : Int)], A.e⟩ w hS hR (by have := (shB_iff.1 (chkB_iff.1 hc).1).1; show A.s.length ≤ _; omega) (by have := (chk_len hc).1; show A.e.length ≤ _; omega)
  have hl := rav_resh hc
  rw [show shpA A = vecB A.s by unfold shpA; rw [if_pos hc]; rfl, show ravA A = ⟨A.k, [(A.e.length : Int)], A.e⟩ by unfold ravA; rw [if_pos hc]] at hl
  rw [hl.1, hl.2] at h
  exact h
theorem ara_e {w : World} {k : Int} {vs ve : Value} {A : Ar} (h : Ara w (.agg #[.int .i64 k, vs, ve]) A) : Ls w ve A.e := by
  obtain ⟨_, _, e, _, h⟩ := h
  injection e with e
  injection e with e
  injection e with _ e
  injection e with _ e
  injection e with e _
  rw [e]
  exact h
theorem prod4 {s : List Int} (h4 : s.length ≤ 4) (h : ∀ x ∈ s, 0 ≤ x ∧ x ≤ 4096) : 0 ≤ prodL s ∧ prodL s ≤ 281474976710656 := by
  refine ⟨prodL_nonneg s (fun x hx => (h x hx).1), ?_⟩
  have h1 := prodL_le s h
  rcases (show s.length = 0 ∨ s.length = 1 ∨ s.length = 2 ∨ s.length = 3 ∨ s.length = 4 by omega) with h2 | h2 | h2 | h2 | h2 <;> rw [h2] at h1 <;> omega
set_option maxRecDepth 100000 in
set_option maxHeartbeats 4000000 in
theorem moldBack_walk (v : Value) (A : Ar) (vl : Value) (l : List Int) (W : World) (h : OkArr W v A) (hlO : Oklongs W vl l) : Calls Try.prog 6 #[v, vl] W (True_ W) := by
  have hA := h.1
  have hL := hlO.1
  clear h hlO
  have hal := alive_any
  obtain ⟨vt, ve, hv, ht, he⟩ := id hA
  subst hv
  obtain ⟨ta, ct, rfl, _⟩ := ht.form
  obtain ⟨ae, ce, rfl, _⟩ := he.form
  obtain ⟨la, lc, rfl, _⟩ := hL.form
  have hb := BoxA.new (A := A) 25 hA
  have HC := Lib.hid ((Chg.refl (fun _ => False) W).alloc (.cells #[.int .i64 A.k, .slice ta A.s.length ct, .slice ae A.e.length ce] 25))
  have HL := Lib.hid hL
  clear ht he hL
  go_enter Try.func6, Try.ntmps6
  go_wp2_with fail
  refine (hal _).mono ?_
  clear hal
  rintro e9 w1 ⟨rfl, hC1⟩
  replace hb := hb.fr hC1
  replace HC := Lib.hid (HC.out.tr hC1)
  clear hC1 hA
  obtain ⟨x3, hx3⟩ : ∃ x3, W.heap.size = x3 := ⟨_, rfl⟩
  rw [hx3] at hb
  have hgr := fun w' v' (h : Ara w' v' A) => r11great_any v' A w' h
  obtain ⟨sa, cs, sb, cb, ⟨y0, y1, y2⟩, hb1⟩ := id hb
  have hg1 := hgr _ _ hb1
  have HX3 := Lib.hid hx3
  by_cases hg : 0 < grtN A
  · clear hgr
    generalize grtN A = g at *
    have hg' : decide (0 < g) = true := decide_eq_true hg
    clear hg hb
    go_wp2_with fail
    refine hg1.mono ?_
    clear hg1
    rintro e9 w2 ⟨rfl, hC2⟩
    go_wp2
    go_ret
    exact ⟨rfl, HC.out.tr hC2⟩
  · obtain ⟨hle, hls⟩ := grtN_not hg
    clear hgr
    generalize grtN A = g at *
    have hg' : decide (0 < g) = false := decide_eq_false hg
    clear hg
    by_cases hl : 100 < l.length
    · have hl1 : decide ((100 : Int) < (l.length : Int)) = true := decide_eq_true (by omega)
      clear hb hl
      go_wp2_with fail
      refine hg1.mono ?_
      clear hg1
      rintro e9 w2 ⟨rfl, hC2⟩
      go_wp2
      go_ret
      exact ⟨rfl, HC.out.tr hC2⟩
    · have hl1 : decide ((100 : Int) < (l.length : Int)) = false := decide_eq_false (by omega)
      have HLL := Lib.hid hl
      clear hl
      go_wp2_with fail
      refine hg1.mono ?_
      clear hg1 y0 y1 y2 hb1
      rintro e9 w2 ⟨rfl, hC2⟩
      replace hb := hb.fr hC2
      replace HC := Lib.hid (HC.out.tr hC2)
      clear hC2
      obtain ⟨sa, cs, sb, cb, ⟨y0, y1, y2⟩, hb1⟩ := id hb
      have hck := check_any _ A _ hb1 (by omega)
      cases hc : chkB A with
      | false =>
        rw [show chkE A = 110 by unfold chkE; rw [hc]; rfl] at hck
        clear hc hb
        go_wp2_with fail
        refine hck.mono ?_
        clear hck
        rintro e9 w3 ⟨rfl, hC3⟩
        go_wp2
        go_ret
        exact ⟨rfl, HC.out.tr hC3⟩
      | true =>
        rw [show chkE A = 0 by unfold chkE; rw [hc]; rfl] at hck
        have HK := Lib.hid hc
        clear hc
        go_wp2_with fail
        refine hck.mono ?_
        clear hck y0 y1 y2 hb1
        rintro e9 w3 ⟨rfl, hC3⟩
        replace hb := hb.fr hC3
        replace HC := Lib.hid (HC.out.tr hC3)
        clear hC3
        obtain ⟨sa, cs, sb, cb, ⟨y0, y1, y2⟩, hb1⟩ := id hb
        have h1 := shapeC _ A _ hb1 HK.out
        go_wp2_with fail
        refine h1.mono ?_
        clear h1 y0 y1 y2 hb1
        rintro e9 w4 ⟨v9, rfl, ho9, hC9⟩
        obtain ⟨a9, c9, b9, d9, rfl, _, _⟩ := ara_new ho9
        simp only [vecB, List.length_cons, List.length_nil, Nat.zero_add] at ho9 ⊢
        have hbS := BoxA.new (A := vecB A.s) 25 ho9.ara
        have hC8 := hC9.alloc (.cells #[.int .i64 1, .slice a9 1 c9, .slice b9 A.s.length d9] 25)
        replace HC := Lib.hid (HC.out.tr hC8)
        obtain ⟨x4, hx⟩ : ∃ x, w4.heap.size = x := ⟨_, rfl⟩
        rw [hx] at hbS
        clear hC9 ho9
        replace hb := hb.fr hC8
        clear hC8
        obtain ⟨sa, cs, sb, cb, ⟨y0, y1, y2⟩, hb1⟩ := id hb
        have h1 := ravelC _ A _ hb1 HK.out
        go_wp2_with fail
        clear hx
        refine h1.mono ?_
        clear h1 y0 y1 y2 hb1
        rintro e9 w5 ⟨v9, rfl, ho9, hC9⟩
        obtain ⟨a9, c9, b9, d9, rfl, _, _⟩ := ara_new ho9
        simp only [List.length_cons, List.length_nil, Nat.zero_add] at ho9 ⊢
        have hbR := BoxA.new (A := ⟨A.k, [(A.e.length : Int)], A.e⟩) 25 ho9.ara
        have hC8 := hC9.alloc (.cells #[.int .i64 A.k, .slice a9 1 c9, .slice b9 A.e.length d9] 25)
        replace HC := Lib.hid (HC.out.tr hC8)
        obtain ⟨x5, hx⟩ : ∃ x, w5.heap.size = x := ⟨_, rfl⟩
        rw [hx] at hbR
        clear hC9 ho9
        replace hb := hb.fr hC8
        replace hbS := hbS.fr hC8
        clear hC8
        obtain ⟨sa, cs, sb, cb, ⟨y0, y1, y2⟩, hb1⟩ := id hbS
        obtain ⟨sa2, cs2, sb2, cb2, ⟨p0, p1, p2⟩, hb2⟩ := id hbR
        have h1 := reravC _ _ A _ hb1 hb2 HK.out
        simp only [vecB, List.length_cons, List.length_nil, Nat.zero_add] at y0 y1 y2 p0 p1 p2 h1
        go_wp2_with fail
        clear hx
        refine h1.mono ?_
        clear h1 y0 y1 y2 hb1 p0 p1 p2 hb2 hbS
        rintro e9 w6 ⟨v9, rfl, ho9, hC9⟩
        obtain ⟨a9, c9, b9, d9, rfl, _, _⟩ := ara_new ho9
        have hbB := BoxA.new (A := A) 25 ho9.ara
        have hC8 := hC9.alloc (.cells #[.int .i64 A.k, .slice a9 A.s.length c9, .slice b9 A.e.length d9] 25)
        replace HC := Lib.hid (HC.out.tr hC8)
        obtain ⟨x6, hx⟩ : ∃ x, w6.heap.size = x := ⟨_, rfl⟩
        rw [hx] at hbB
        clear hC9 ho9
        replace hb := hb.fr hC8
        replace hbR := hbR.fr hC8
        clear hC8
        obtain ⟨sa, cs, sb, cb, ⟨y0, y1, y2⟩, hb1⟩ := id hbR
        have h1 := tallyC _ _ _ hb1 (chk_rav HK.out)
        simp only [List.length_cons, List.length_nil, Nat.zero_add, List.headD] at y0 y1 y2 h1
        go_wp2_with fail
        clear hx
        refine h1.mono ?_
        clear h1 y0 y1 y2 hb1 hbR
        rintro e9 w7 ⟨v9, rfl, ho9, hC9⟩
        obtain ⟨a9, c9, b9, d9, rfl, _, _⟩ := ara_new ho9
        simp only [List.length_cons, List.length_nil, Nat.zero_add] at ho9 ⊢
        have hbT := BoxA.new (A := ⟨1, [], [(A.e.length : Int)]⟩) 25 ho9.ara
        have hC8 := hC9.alloc (.cells #[.int .i64 1, .slice a9 0 c9, .slice b9 1 d9] 25)
        replace HC := Lib.hid (HC.out.tr hC8)
        obtain ⟨x7, hx⟩ : ∃ x, w7.heap.size = x := ⟨_, rfl⟩
        rw [hx] at hbT
        clear hC9 ho9
        replace hb := hb.fr hC8
        replace hbB := hbB.fr hC8
        clear hC8
        obtain ⟨sa, cs, sb, cb, ⟨y0, y1, y2⟩, hb1⟩ := id hb
        obtain ⟨sa2, cs2, sb2, cb2, ⟨p0, p1, p2⟩, hb2⟩ := id hbB
        obtain ⟨sa3, cs3, sb3, cb3, ⟨z0, z1, z2⟩, hb3⟩ := id hbT
        simp only [List.length_cons, List.length_nil, Nat.zero_add] at z0 z1 z2 hb3
        go_wp2_with fail
        clear hx
        generalize w7.alloc (.cells #[.int .i64 1, .slice a9 0 c9, .slice b9 1 d9] 25) = w8 at *
        have HB := Lib.hid hb
        have KP := Lib.hid (show ∀ w', Chg (fun _ => False) w8 w' → (Chg (fun _ => False) w8 w' ∧ w'.cell? ⟨x3, 0, none⟩ = some (.int .i64 A.k) ∧ w'.cell? ⟨x3, 1, none⟩ = some (.slice sa A.s.length cs) ∧ w'.cell? ⟨x3, 2, none⟩ = some (.slice sb A.e.length cb) ∧ w'.cell? ⟨x6, 0, none⟩ = some (.int .i64 A.k) ∧ w'.cell? ⟨x6, 1, none⟩ = some (.slice sa2 A.s.length cs2) ∧ w'.cell? ⟨x6, 2, none⟩ = some (.slice sb2 A.e.length cb2) ∧ w'.cell? ⟨x7, 0, none⟩ = some (.int .i64 1) ∧ w'.cell? ⟨x7, 1, none⟩ = some (.slice sa3 0 cs3) ∧ w'.cell? ⟨x7, 2, none⟩ = some (.slice sb3 1 cb3)) from fun w' h => ⟨h, h.cell y0 id, h.cell y1 id, h.cell y2 id, h.cell p0 id, h.cell p1 id, h.cell p2 id, h.cell z0 id, h.cell z1 id, h.cell z2 id⟩)
        have H1 := Lib.hid (show ∀ w', Chg (fun _ => False) w8 w' → Calls Try.prog 30 #[.agg #[.int .i64 A.k, .slice sa2 A.s.length cs2, .slice sb2 A.e.length cb2], .int .i64 0, .agg #[.int .i64 A.k, .slice sa A.s.length cs, .slice sb A.e.length cb]] w' (GaveBo w' true) from fun w' h => isC _ _ A _ (hb2.fr h) (hb1.fr h) ⟨by omega, by omega⟩)
        have H2 := Lib.hid (show ∀ w' v, Chg (fun _ => False) w8 w' → Ara w' v ⟨1, [], [(A.e.length : Int)]⟩ → Calls Try.prog 30 #[.agg #[.int .i64 1, .slice sa3 0 cs3, .slice sb3 1 cb3], .int .i64 0, v] w' (GaveBo w' true) from fun w' v h hv => isC _ _ ⟨1, [], [(A.e.length : Int)]⟩ _ (hb3.fr h) hv ⟨by simp, by simp⟩)
        have hwl : IntKind.i64.wrap (A.e.length : Int) = (A.e.length : Int) := IntWalk.i64_in _ (by omega)
        have HLE := Lib.hid hle
        have HLS := Lib.hid hls
        clear hb hbB hbT hle hls
        go_region_held3 (fun w' => (Chg (fun _ => False) w8 w' ∧ w'.cell? ⟨x3, 0, none⟩ = some (.int .i64 A.k) ∧ w'.cell? ⟨x3, 1, none⟩ = some (.slice sa A.s.length cs) ∧ w'.cell? ⟨x3, 2, none⟩ = some (.slice sb A.e.length cb) ∧ w'.cell? ⟨x6, 0, none⟩ = some (.int .i64 A.k) ∧ w'.cell? ⟨x6, 1, none⟩ = some (.slice sa2 A.s.length cs2) ∧ w'.cell? ⟨x6, 2, none⟩ = some (.slice sb2 A.e.length cb2) ∧ w'.cell? ⟨x7, 0, none⟩ = some (.int .i64 1) ∧ w'.cell? ⟨x7, 1, none⟩ = some (.slice sa3 0 cs3) ∧ w'.cell? ⟨x7, 2, none⟩ = some (.slice sb3 1 cb3))) ((refine KP.out _ ?_; repeat (first | (with_reducible exact Chg.refl _ _) | (with_reducible assumption) | (with_reducible refine chg_drew' ?_) | (with_reducible refine chg_alloc' ?_) | (with_reducible refine Chg.tr ?_ hq3) | (with_reducible refine Chg.tr ?_ hq2) | (with_reducible refine Chg.tr ?_ hq1)))) (first
          | (go_at_call 30
             with_reducible refine (H1.out _ ?_).mono ?_
             · repeat (first | (with_reducible exact Chg.refl _ _) | (with_reducible assumption) | (with_reducible refine chg_drew' ?_) | (with_reducible refine chg_alloc' ?_))
             rintro e9 q1 ⟨rfl, hq1⟩)
          | (go_at_call 27
             (with_reducible refine (ascalar_any _ _).mono ?_)
             rintro e9 q2 ⟨u2, rfl, hu2, hq2⟩
             have hu2a := Lib.hid hu2.ara)
          | (go_at_call 30
             with_reducible refine (H2.out _ _ ?_ ?_).mono ?_
             · repeat (first | (with_reducible exact Chg.refl _ _) | (with_reducible assumption) | (with_reducible refine chg_drew' ?_) | (with_reducible refine chg_alloc' ?_) | (with_reducible refine Chg.tr ?_ hq2) | (with_reducible refine Chg.tr ?_ hq1))
             · first | exact hu2a.out | exact hu2a.out.fr ((Chg.refl _ _).drew)
             rintro e9 q3 ⟨rfl, hq3⟩))
        all_goals
          rename_i hHd
          replace hb := HB.out.fr hHd.1
          replace HC := Lib.hid (HC.out.tr hHd.1)
          clear hHd HB KP H1 H2 hb1 hb2 hb3 hq1 hq2 hq3 hu2a hu2 y0 y1 y2 z0 z1 z2 p0 p1 p2
          go_wp2_with fail
          obtain ⟨CC, hCC⟩ : ∃ CC, mgA (rsW (vecB l) A.s) (vecB l) A = CC := ⟨_, rfl⟩
          obtain ⟨N, hN⟩ : ∃ N, mgN (rsW (vecB l) A.s) (vecB l) A = N := ⟨_, rfl⟩
          have HCN := Lib.hid (And.intro hCC hN)
          clear hCC hN
          obtain ⟨sa, cs, sb, cb, ⟨y0, y1, y2⟩, hb1⟩ := hb
          go_cut [14, 15] (fun s14 s15 wx => ∃ x, s14 = .pointer (some ⟨x, 0, none⟩) ∧ s15 = .int .i64 N ∧ BoxA wx x CC ∧ Chg (fun _ => False) q3 wx)
          case first =>
            have HV := Lib.hid (show ∀ w', Chg (fun _ => False) q3 w' → Calls Try.prog 25 #[.slice la l.length lc] w' (GaveA w' (vecB l)) from fun w' h => avector_any _ l w' (HL.out.fr (HC.out.tr h)) (by have := HLL.out; omega))
            have HR := Lib.hid (show ∀ w' u, Chg (fun _ => False) q3 w' → Ara w' u (vecB l) → Calls Try.prog 33 #[u, .agg #[.int .i64 A.k, .slice sa A.s.length cs, .slice sb A.e.length cb]] w' (GaveAE w' CC N) from fun w' u h hu => by
              have h2 := reshape_any u _ (vecB l) A w' hu (hb1.fr h) (by have := HLL.out; show l.length ≤ _; omega) (by have := HLE.out; omega)
              rw [HCN.out.1, HCN.out.2] at h2
              exact h2)
            have KP := Lib.hid (show ∀ w', Chg (fun _ => False) q3 w' → (Chg (fun _ => False) q3 w' ∧ w'.cell? ⟨x3, 0, none⟩ = some (.int .i64 A.k) ∧ w'.cell? ⟨x3, 1, none⟩ = some (.slice sa A.s.length cs) ∧ w'.cell? ⟨x3, 2, none⟩ = some (.slice sb A.e.length cb)) from fun w' h => ⟨h, h.cell y0 id, h.cell y1 id, h.cell y2 id⟩)
            go_region_held3 (fun w' => Chg (fun _ => False) q3 w' ∧ w'.cell? ⟨x3, 0, none⟩ = some (.int .i64 A.k) ∧ w'.cell? ⟨x3, 1, none⟩ = some (.slice sa A.s.length cs) ∧ w'.cell? ⟨x3, 2, none⟩ = some (.slice sb A.e.length cb)) ((refine KP.out _ ?_; repeat (first | (with_reducible exact Chg.refl _ _) | assumption | (with_reducible refine chg_drew' ?_) | (with_reducible refine chg_alloc' ?_) | (with_reducible refine Chg.tr ?_ hC6) | (with_reducible refine Chg.tr ?_ hC5) | (with_reducible refine Chg.setCell ?_ (.inr hs5) _) | (refine Chg.setCell ?_ (.inr (by simp only []; omega)) _)))) (first
              | (go_at_call 25
                 with_reducible refine (HV.out _ ?_).mono ?_
                 · repeat (first | (with_reducible exact Chg.refl _ _) | assumption | (with_reducible refine chg_drew' ?_) | (with_reducible refine chg_alloc' ?_))
                 rintro e9 w5 ⟨v5, rfl, ho5, hC5⟩
                 obtain ⟨a5, c5, a6, c6, rfl, _, _⟩ := ara_new ho5
                 simp only [vecB, List.length_cons, List.length_nil, Nat.zero_add] at ho5 ⊢
                 have hs5 : q3.heap.size ≤ w5.heap.size := (by have := hC5.size; simp at this; omega)
                 (first
                  | have hB5 := (Bx.new q3 (.int .i64 0) (.slice none 0 0) (.slice none 0 0) 25).fr (((Chg.refl (fun _ => False) _).drew).tr hC5)
                  | skip))
              | (go_at_call 33
                 with_reducible refine (HR.out _ _ ?_ ?_).mono ?_
                 · repeat (first | (with_reducible exact Chg.refl _ _) | assumption | (with_reducible refine chg_drew' ?_) | (with_reducible refine chg_alloc' ?_) | (with_reducible refine Chg.tr ?_ hC5))
                 · first
                   | exact ho5.ara.fr (Chg.refl _ _)
                   | exact ho5.ara.fr ((Chg.refl _ _).drew)
                   | exact ho5.ara.fr ((Chg.refl _ _).alloc _)
                   | exact ho5.ara.fr (((Chg.refl _ _).alloc _).drew)
                 rintro e9 w6 ⟨v6, rfl, ho6, hC6⟩
                 obtain ⟨a7, c7, a8, c8, rfl, _, _⟩ := ara_new ho6
                 (first
                  | (have hB6 := hB5.fr hC6
                     have hl6 := Lib.hid ((hB5.lt : q3.heap.size < _))
                     obtain ⟨z0, z1, z2, f0, f1, f2⟩ := id hB6)
                  | (have hB6 := (Bx.new w5 (.int .i64 0) (.slice none 0 0) (.slice none 0 0) 25).fr hC6
                     have hl6 := Lib.hid (((Bx.new w5 (.int .i64 0) (.slice none 0 0) (.slice none 0 0) 25).lt : w5.heap.size < _))
                     obtain ⟨z0, z1, z2, f0, f1, f2⟩ := id hB6)
                  | skip)))
            all_goals
              rename_i hHd
              go_wp2_with fail
              go_meet
              refine ⟨_, rfl, rfl, ?_, hHd.1⟩
              first
              | exact BoxA.new (A := CC) 25 ho6.ara
              | exact BoxA.set (A := CC) hB6 ho6 hl6.out
          case rest =>
            obtain ⟨x14, rfl, rfl, hbC, hCc⟩ := hcut
            replace hb := BoxA.fr (show BoxA q3 x3 A from ⟨sa, cs, sb, cb, ⟨y0, y1, y2⟩, hb1⟩) hCc
            replace HC := Lib.hid (HC.out.tr hCc)
            clear hCc y0 y1 y2 hb1
            have hl4 : l.length ≤ 4096 := by have := HLL.out; omega
            cases hsl : shB l with
            | false =>
              obtain ⟨q1, q2⟩ := HCN.out
              rcases resh_no hl4 HK.out hsl with h9 | h9
              · have hN := q2.symm.trans h9
                subst hN
                clear hbC hb q1 q2 h9 hsl hl4
                go_wp2
                go_ret
                exact ⟨rfl, HC.out⟩
              · have hN := q2.symm.trans h9
                subst hN
                clear hbC hb q1 q2 h9 hsl hl4
                go_wp2
                go_ret
                exact ⟨rfl, HC.out⟩
            | true =>
              obtain ⟨r1, r2⟩ := resh_ok hl4 HK.out hsl
              rw [HCN.out.1] at r2
              rw [HCN.out.2] at r1
              subst r1
              have HCC := Lib.hid r2
              obtain ⟨g1, g2, g3⟩ := shB_iff.1 hsl
              have HSL := Lib.hid (And.intro g1 g2)
              have HHL := Lib.hid (HL.out.fr HC.out)
              clear r2 g1 g2 g3 hl4 hsl
              go_wp2
              go_loopw [16, 102] (fun vn vi wr => wr = wc ∧ ∃ j : Nat, j ≤ l.length ∧ vi = .int .i64 j ∧ vn = .int .i64 (prodL (l.take j))) (fun _ vi _ => l.length - (intOf vi).toNat)
              case atStart => exact ⟨rfl, 0, Nat.zero_le _, rfl, rfl⟩
              case round =>
                obtain ⟨hwc, j, hj, rfl, rfl⟩ := hrel
                obtain rfl : wc = wr := hwc.symm
                by_cases hlt : j < l.length
                · have hj2 : (j : Int) < (l.length : Int) := by omega
                  have hj0 : (0 : Int) ≤ (j : Int) := by omega
                  have hkw : IntKind.i64.wrap ((j : Int) + 1) = (j : Int) + 1 := IntWalk.i64_in _ (by have := HSL.out.1; omega)
                  obtain ⟨bb, o, cc, e1, hx⟩ := HHL.out.at hlt
                  injection e1 with e1 e2 e3
                  clear e2 e3
                  subst e1
                  obtain ⟨X, hX⟩ : ∃ X, l[j] = X := ⟨_, rfl⟩
                  obtain ⟨P, hP⟩ : ∃ P, prodL (l.take j) = P := ⟨_, rfl⟩
                  have hnext : prodL (l.take (j + 1)) = P * X := by rw [prodL_take l j hlt, hP, hX]
                  have hb4 := prod4 (s := l.take (j + 1)) (by rw [List.length_take]; have := HSL.out.1; omega) (fun x hx => HSL.out.2 x (List.mem_of_mem_take hx))
                  rw [hnext] at hb4
                  rw [hX] at hx
                  rw [hP]
                  have hw : IntKind.i64.wrap (P * X) = P * X := IntWalk.i64_in _ (by omega)
                  have hv : wrap64 (P * X) = P * X := mwrap (by omega)
                  have HNX := Lib.hid hnext
                  have hm1 : l.length - (j + 1) < l.length - j := by omega
                  have HM := Lib.hid hm1
                  clear hnext hX hP hm1 hb4
                  go_wp2
                  go_roundw
                  case rel => exact ⟨by first | rfl | trivial, j + 1, hlt, rfl, by rw [HNX.out]⟩
                  case measure => exact HM.out
                · have hj2 : ¬ (j : Int) < (l.length : Int) := by omega
                  obtain rfl : j = l.length := by omega
                  rw [List.take_length]
                  obtain ⟨sa, cs, sb, cb, ⟨y0, y1, y2⟩, hb1⟩ := id hb
                  obtain ⟨sa2, cs2, sb2, cb2, ⟨p0, p1, p2⟩, hb2⟩ := id hbC
                  have hCL : (CC.e.length : Int) = prodL l := by rw [HCC.out]; simp only [List.length_map, List.length_range]; have := (prod4 HSL.out.1 HSL.out.2).1; omega
                  have hCK : CC.k = A.k := by rw [HCC.out]
                  rw [← hCL]
                  rw [hCK] at p0
                  have hCE : ∀ i (h : i < CC.e.length), 0 < A.e.length → CC.e[i] = A.e.getD (i % A.e.length) 0 := fun i h h0 => by
                    have h2 : CC.e.getD i 0 = CC.e[i] := getD_at h
                    rw [← h2, HCC.out]
                    simp only [List.getD, List.getElem?_map]
                    rw [List.getElem?_range (by rw [HCC.out] at h; simpa using h)]
                    exact resh_at h0
                  have hwl2 : IntKind.i64.wrap (CC.e.length : Int) = (CC.e.length : Int) := IntWalk.i64_in _ (by have := prod4 HSL.out.1 HSL.out.2; omega)
                  have HCE := Lib.hid hCE
                  have HB1 := Lib.hid hb1
                  have HB2 := Lib.hid hb2
                  clear hCL hCK hCE hb hbC hb1 hb2
                  go_wp2
                  by_cases hA0 : 0 < A.e.length
                  · have hA1 : decide ((0 : Int) < (A.e.length : Int)) = true := decide_eq_true (by omega)
                    have hA2 : ¬ (A.e.length : Int) = 0 := by omega
                    have hA3 : decide (0 < A.e.length) = true := decide_eq_true hA0
                    have hA5 : ¬ A.e = [] := fun h => by rw [h] at hA0; exact absurd hA0 (by decide)
                    have HA0 := Lib.hid hA0
                    go_loopw [127] (fun vi wr => Chg (fun _ => False) wc wr ∧ ∃ j : Nat, j ≤ CC.e.length ∧ vi = .int .i64 j) (fun vi _ => CC.e.length - (intOf vi).toNat)
                    case atStart => exact ⟨Chg.refl _ _, 0, Nat.zero_le _, rfl⟩
                    case round =>
                      obtain ⟨hCw, j, hj, rfl⟩ := hrel
                      replace y0 := hCw.cell y0 id
                      replace y1 := hCw.cell y1 id
                      replace y2 := hCw.cell y2 id
                      replace p0 := hCw.cell p0 id
                      replace p1 := hCw.cell p1 id
                      replace p2 := hCw.cell p2 id
                      by_cases hlt : j < CC.e.length
                      · have hj2 : (j : Int) < (CC.e.length : Int) := by omega
                        have hj0 : (0 : Int) ≤ (j : Int) := by omega
                        have hjb : (CC.e.length : Int) ≤ 281474976710656 := by have := prod4 HSL.out.1 HSL.out.2; rw [HCC.out]; simp only [List.length_map, List.length_range]; omega
                        have hkw : IntKind.i64.wrap ((j : Int) + 1) = (j : Int) + 1 := IntWalk.i64_in _ (by omega)
                        obtain ⟨r, hr⟩ : ∃ r, j % A.e.length = r := ⟨_, rfl⟩
                        have hrl : r < A.e.length := by rw [← hr]; exact Nat.mod_lt _ HA0.out
                        have hr2 : (r : Int) < (A.e.length : Int) := by omega
                        have hr0 : (0 : Int) ≤ (r : Int) := by omega
                        have ht : Int.tmod (j : Int) (A.e.length : Int) = (r : Int) := by rw [Int.tmod_eq_emod_of_nonneg hj0, ← Int.natCast_emod, hr]
                        have hrw : IntKind.i64.wrap (r : Int) = (r : Int) := IntWalk.i64_in _ (by have := HLE.out; omega)
                        obtain ⟨bb, o, cc, e1, hx⟩ := ((ara_e HB2.out).fr hCw).at hlt
                        injection e1 with e1 e2 e3
                        clear e2 e3
                        subst e1
                        obtain ⟨bc, oc, cd, e1, hz⟩ := ((ara_e HB1.out).fr hCw).at hrl
                        injection e1 with e1 e2 e3
                        clear e2 e3
                        subst e1
                        have hce := HCE.out j hlt HA0.out
                        rw [hr, getD_at hrl] at hce
                        rw [hce] at hx
                        obtain ⟨X, hX⟩ : ∃ X, A.e[r] = X := ⟨_, rfl⟩
                        rw [hX] at hx hz
                        have HCw := Lib.hid hCw
                        have hm1 : CC.e.length - (j + 1) < CC.e.length - j := by omega
                        have HM := Lib.hid hm1
                        clear hm1 hce hX hr hCw
                        go_wp2
                        go_region_held3 (fun w' => w' = wr.drew) (rfl) (fail)
                        go_wp2
                        go_roundw
                        case rel => exact ⟨by first | exact HCw.out.drewN _ | exact HCw.out.drew, j + 1, hlt, rfl⟩
                        case measure => exact HM.out
                      · have hj2 : ¬ (j : Int) < (CC.e.length : Int) := by omega
                        go_wp2
                        go_ret
                        exact ⟨rfl, HC.out.tr hCw⟩
                  · have hA1 : decide ((0 : Int) < (A.e.length : Int)) = false := decide_eq_false (by omega)
                    have hA9 : A.e.length = 0 := by omega
                    rw [hA9] at y2
                    clear hA9 hA1
                    go_loopw [127] (fun vi wr => Chg (fun _ => False) wc wr ∧ ∃ j : Nat, j ≤ CC.e.length ∧ vi = .int .i64 j) (fun vi _ => CC.e.length - (intOf vi).toNat)
                    case atStart => exact ⟨Chg.refl _ _, 0, Nat.zero_le _, rfl⟩
                    case round =>
                      obtain ⟨hCw, j, hj, rfl⟩ := hrel
                      replace y0 := hCw.cell y0 id
                      replace y1 := hCw.cell y1 id
                      replace y2 := hCw.cell y2 id
                      replace p0 := hCw.cell p0 id
                      replace p1 := hCw.cell p1 id
                      replace p2 := hCw.cell p2 id
                      by_cases hlt : j < CC.e.length
                      · have hj2 : (j : Int) < (CC.e.length : Int) := by omega
                        have hj0 : (0 : Int) ≤ (j : Int) := by omega
                        have hjb : (CC.e.length : Int) ≤ 281474976710656 := by have := prod4 HSL.out.1 HSL.out.2; rw [HCC.out]; simp only [List.length_map, List.length_range]; omega
                        have hkw : IntKind.i64.wrap ((j : Int) + 1) = (j : Int) + 1 := IntWalk.i64_in _ (by omega)
                        have HCw := Lib.hid hCw
                        have hm1 : CC.e.length - (j + 1) < CC.e.length - j := by omega
                        have HM := Lib.hid hm1
                        clear hm1 hCw
                        go_wp2
                        refine wp_region_held_drew (S := fun w' => w' = wr.drew) (by kernel_rfl) rfl (fun hHeld => ?_)
                        clear hHeld
                        refine' wpAnyH_take (i := 0) (oi := _) (v := .pointer (some ⟨x3, 2, none⟩)) ?hiz0 (by kernel_rfl) (by kernel_rfl) (by kernel_rfl) ?hqz0 (Or.inl ⟨?hwz0, fun w hSw => ?hyz0⟩) rfl ?hkz0
                        case hiz0 => (simp only [List.getElem?_toArray, List.getElem?_cons_zero]; rfl)
                        case hqz0 => exact fun _ _ _ h => h
                        case hwz0 => rfl
                        case hyz0 => (subst hSw; first | (go_simp; done) | (go_simp; with_reducible rfl))
                        simp only [Act.put, List.setIfInBounds_toArray, List.set_cons_zero, List.set_cons_succ]
                        refine' wpAnyH_take (i := 1) (oi := _) (v := .slice sb 0 cb) ?hiz1 (by kernel_rfl) (by kernel_rfl) (by kernel_rfl) ?hqz1 (Or.inl ⟨?hwz1, fun w hSw => ?hyz1⟩) rfl ?hkz1
                        case hiz1 => (simp only [List.getElem?_toArray, List.getElem?_cons_succ, List.getElem?_cons_zero]; rfl)
                        case hqz1 => exact fun _ _ _ h => h
                        case hwz1 => rfl
                        case hyz1 => (subst hSw; first | (go_simp; done) | (go_simp; with_reducible rfl))
                        simp only [Act.put, List.setIfInBounds_toArray, List.set_cons_zero, List.set_cons_succ]
                        refine' wpAnyH_take (i := 2) (oi := _) (v := .int .i64 0) ?hiz2 (by kernel_rfl) (by kernel_rfl) (by kernel_rfl) ?hqz2 (Or.inl ⟨?hwz2, fun w hSw => ?hyz2⟩) rfl ?hkz2
                        case hiz2 => (simp only [List.getElem?_toArray, List.getElem?_cons_succ, List.getElem?_cons_zero]; rfl)
                        case hqz2 => exact fun _ _ _ h => h
                        case hwz2 => rfl
                        case hyz2 => (subst hSw; first | (go_simp; done) | (go_simp; with_reducible rfl))
                        simp only [Act.put, List.setIfInBounds_toArray, List.set_cons_zero, List.set_cons_succ]
                        refine' wpAnyH_take (i := 3) (oi := _) (v := .bool false) ?hiz3 (by kernel_rfl) (by kernel_rfl) (by kernel_rfl) ?hqz3 (Or.inl ⟨?hwz3, fun w hSw => ?hyz3⟩) rfl ?hkz3
                        case hiz3 => (simp only [List.getElem?_toArray, List.getElem?_cons_succ, List.getElem?_cons_zero]; rfl)
                        case hqz3 => exact fun _ _ _ h => h
                        case hwz3 => rfl
                        case hyz3 => (subst hSw; first | (go_simp; done) | (go_simp; with_reducible rfl))
                        simp only [Act.put, List.setIfInBounds_toArray, List.set_cons_zero, List.set_cons_succ]
                        refine' wpAnyH_take (i := 4) (oi := _) (v := .bool false) ?hiz4 (by kernel_rfl) (by kernel_rfl) (by kernel_rfl) ?hqz4 (Or.inl ⟨?hwz4, fun w hSw => ?hyz4⟩) rfl ?hkz4
                        case hiz4 => (simp only [List.getElem?_toArray, List.getElem?_cons_succ, List.getElem?_cons_zero]; rfl)
                        case hqz4 => exact fun _ _ _ h => h
                        case hwz4 => rfl
                        case hyz4 => (subst hSw; first | (go_simp; done) | (go_simp; with_reducible rfl))
                        simp only [Act.put, List.setIfInBounds_toArray, List.set_cons_zero, List.set_cons_succ]
                        refine' wpAnyH_take (i := 5) (oi := _) (v := undef) ?hiz5 (by kernel_rfl) (by kernel_rfl) (by kernel_rfl) ?hqz5 (Or.inr ⟨?hwz5, rfl⟩) rfl ?hkz5
                        case hiz5 => (simp only [List.getElem?_toArray, List.getElem?_cons_succ, List.getElem?_cons_zero]; rfl)
                        case hqz5 => exact fun _ _ _ h => h
                        case hwz5 => rfl
                        simp only [Act.put, List.setIfInBounds_toArray, List.set_cons_zero, List.set_cons_succ]
                        refine' wpAnyH_take (i := 6) (oi := _) (v := undef) ?hiz6 (by kernel_rfl) (by kernel_rfl) (by kernel_rfl) ?hqz6 (Or.inr ⟨?hwz6, rfl⟩) rfl ?hkz6
                        case hiz6 => (simp only [List.getElem?_toArray, List.getElem?_cons_succ, List.getElem?_cons_zero]; rfl)
                        case hqz6 => exact fun _ _ _ h => h
                        case hwz6 => rfl
                        simp only [Act.put, List.setIfInBounds_toArray, List.set_cons_zero, List.set_cons_succ]
                        refine' wpAnyH_take (i := 7) (oi := _) (v := undef) ?hiz7 (by kernel_rfl) (by kernel_rfl) (by kernel_rfl) ?hqz7 (Or.inr ⟨?hwz7, rfl⟩) rfl ?hkz7
                        case hiz7 => (simp only [List.getElem?_toArray, List.getElem?_cons_succ, List.getElem?_cons_zero]; rfl)
                        case hqz7 => exact fun _ _ _ h => h
                        case hwz7 => rfl
                        simp only [Act.put, List.setIfInBounds_toArray, List.set_cons_zero, List.set_cons_succ]
                        refine' wpAnyH_take (i := 8) (oi := _) (v := undef) ?hiz8 (by kernel_rfl) (by kernel_rfl) (by kernel_rfl) ?hqz8 (Or.inr ⟨?hwz8, rfl⟩) rfl ?hkz8
                        case hiz8 => (simp only [List.getElem?_toArray, List.getElem?_cons_succ, List.getElem?_cons_zero]; rfl)
                        case hqz8 => exact fun _ _ _ h => h
                        case hwz8 => rfl
                        simp only [Act.put, List.setIfInBounds_toArray, List.set_cons_zero, List.set_cons_succ]
                        refine' wpAnyH_take (i := 9) (oi := _) (v := undef) ?hiz9 (by kernel_rfl) (by kernel_rfl) (by kernel_rfl) ?hqz9 (Or.inr ⟨?hwz9, rfl⟩) rfl ?hkz9
                        case hiz9 => (simp only [List.getElem?_toArray, List.getElem?_cons_succ, List.getElem?_cons_zero]; rfl)
                        case hqz9 => exact fun _ _ _ h => h
                        case hwz9 => rfl
                        simp only [Act.put, List.setIfInBounds_toArray, List.set_cons_zero, List.set_cons_succ]
                        refine' wpAnyH_take (i := 10) (oi := _) (v := undef) ?hiz10 (by kernel_rfl) (by kernel_rfl) (by kernel_rfl) ?hqz10 (Or.inr ⟨?hwz10, rfl⟩) rfl ?hkz10
                        case hiz10 => (simp only [List.getElem?_toArray, List.getElem?_cons_succ, List.getElem?_cons_zero]; rfl)
                        case hqz10 => exact fun _ _ _ h => h
                        case hwz10 => rfl
                        simp only [Act.put, List.setIfInBounds_toArray, List.set_cons_zero, List.set_cons_succ]
                        refine' wpAnyH_take (i := 11) (oi := _) (v := undef) ?hiz11 (by kernel_rfl) (by kernel_rfl) (by kernel_rfl) ?hqz11 (Or.inr ⟨?hwz11, rfl⟩) rfl ?hkz11
                        case hiz11 => (simp only [List.getElem?_toArray, List.getElem?_cons_succ, List.getElem?_cons_zero]; rfl)
                        case hqz11 => exact fun _ _ _ h => h
                        case hwz11 => rfl
                        simp only [Act.put, List.setIfInBounds_toArray, List.set_cons_zero, List.set_cons_succ]
                        refine' wpAnyH_take (i := 12) (oi := _) (v := undef) ?hiz12 (by kernel_rfl) (by kernel_rfl) (by kernel_rfl) ?hqz12 (Or.inr ⟨?hwz12, rfl⟩) rfl ?hkz12
                        case hiz12 => (simp only [List.getElem?_toArray, List.getElem?_cons_succ, List.getElem?_cons_zero]; rfl)
                        case hqz12 => exact fun _ _ _ h => h
                        case hwz12 => rfl
                        simp only [Act.put, List.setIfInBounds_toArray, List.set_cons_zero, List.set_cons_succ]
                        refine' wpAnyH_take (i := 13) (oi := _) (v := undef) ?hiz13 (by kernel_rfl) (by kernel_rfl) (by kernel_rfl) ?hqz13 (Or.inr ⟨?hwz13, rfl⟩) rfl ?hkz13
                        case hiz13 => (simp only [List.getElem?_toArray, List.getElem?_cons_succ, List.getElem?_cons_zero]; rfl)
                        case hqz13 => exact fun _ _ _ h => h
                        case hwz13 => rfl
                        simp only [Act.put, List.setIfInBounds_toArray, List.set_cons_zero, List.set_cons_succ]
                        refine' wpAnyH_take (i := 14) (oi := _) (v := undef) ?hiz14 (by kernel_rfl) (by kernel_rfl) (by kernel_rfl) ?hqz14 (Or.inr ⟨?hwz14, rfl⟩) rfl ?hkz14
                        case hiz14 => (simp only [List.getElem?_toArray, List.getElem?_cons_succ, List.getElem?_cons_zero]; rfl)
                        case hqz14 => exact fun _ _ _ h => h
                        case hwz14 => rfl
                        simp only [Act.put, List.setIfInBounds_toArray, List.set_cons_zero, List.set_cons_succ]
                        refine' wpAnyH_take (i := 15) (oi := _) (v := undef) ?hiz15 (by kernel_rfl) (by kernel_rfl) (by kernel_rfl) ?hqz15 (Or.inr ⟨?hwz15, rfl⟩) rfl ?hkz15
                        case hiz15 => (simp only [List.getElem?_toArray, List.getElem?_cons_succ, List.getElem?_cons_zero]; rfl)
                        case hqz15 => exact fun _ _ _ h => h
                        case hwz15 => rfl
                        simp only [Act.put, List.setIfInBounds_toArray, List.set_cons_zero, List.set_cons_succ]
                        refine' wpAnyH_take (i := 16) (oi := _) (v := undef) ?hiz16 (by kernel_rfl) (by kernel_rfl) (by kernel_rfl) ?hqz16 (Or.inr ⟨?hwz16, rfl⟩) rfl ?hkz16
                        case hiz16 => (simp only [List.getElem?_toArray, List.getElem?_cons_succ, List.getElem?_cons_zero]; rfl)
                        case hqz16 => exact fun _ _ _ h => h
                        case hwz16 => rfl
                        simp only [Act.put, List.setIfInBounds_toArray, List.set_cons_zero, List.set_cons_succ]
                        refine' wpAnyH_take (i := 17) (oi := _) (v := undef) ?hiz17 (by kernel_rfl) (by kernel_rfl) (by kernel_rfl) ?hqz17 (Or.inr ⟨?hwz17, rfl⟩) rfl ?hkz17
                        case hiz17 => (simp only [List.getElem?_toArray, List.getElem?_cons_succ, List.getElem?_cons_zero]; rfl)
                        case hqz17 => exact fun _ _ _ h => h
                        case hwz17 => rfl
                        simp only [Act.put, List.setIfInBounds_toArray, List.set_cons_zero, List.set_cons_succ]
                        refine' wpAnyH_take (i := 18) (oi := _) (v := undef) ?hiz18 (by kernel_rfl) (by kernel_rfl) (by kernel_rfl) ?hqz18 (Or.inr ⟨?hwz18, rfl⟩) rfl ?hkz18
                        case hiz18 => (simp only [List.getElem?_toArray, List.getElem?_cons_succ, List.getElem?_cons_zero]; rfl)
                        case hqz18 => exact fun _ _ _ h => h
                        case hwz18 => rfl
                        simp only [Act.put, List.setIfInBounds_toArray, List.set_cons_zero, List.set_cons_succ]
                        refine' wpAnyH_take (i := 19) (oi := _) (v := undef) ?hiz19 (by kernel_rfl) (by kernel_rfl) (by kernel_rfl) ?hqz19 (Or.inr ⟨?hwz19, rfl⟩) rfl ?hkz19
                        case hiz19 => (simp only [List.getElem?_toArray, List.getElem?_cons_succ, List.getElem?_cons_zero]; rfl)
                        case hqz19 => exact fun _ _ _ h => h
                        case hwz19 => rfl
                        simp only [Act.put, List.setIfInBounds_toArray, List.set_cons_zero, List.set_cons_succ]
                        refine' wpAnyH_take (i := 20) (oi := _) (v := .bool false) ?hiz20 (by kernel_rfl) (by kernel_rfl) (by kernel_rfl) ?hqz20 (Or.inl ⟨?hwz20, fun w hSw => ?hyz20⟩) rfl ?hkz20
                        case hiz20 => (simp only [List.getElem?_toArray, List.getElem?_cons_succ, List.getElem?_cons_zero]; rfl)
                        case hqz20 => exact fun _ _ _ h => h
                        case hwz20 => rfl
                        case hyz20 => (subst hSw; first | (go_simp; done) | (go_simp; with_reducible rfl))
                        simp only [Act.put, List.setIfInBounds_toArray, List.set_cons_zero, List.set_cons_succ]
                        refine wpAnyH_done (by kernel_rfl) ?_ _
                        go_wp2
                        go_roundw
                        case rel => exact ⟨by first | exact HCw.out.drewN _ | exact HCw.out.drew, j + 1, hlt, rfl⟩
                        case measure => exact HM.out
                      · have hj2 : ¬ (j : Int) < (CC.e.length : Int) := by omega
                        go_wp2
                        go_ret
                        exact ⟨rfl, HC.out.tr hCw⟩
end Go.Proofs.Ytceooipljhjpaaa
