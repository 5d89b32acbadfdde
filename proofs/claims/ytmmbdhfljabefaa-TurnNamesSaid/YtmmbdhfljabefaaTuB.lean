/- turn: the chapter's first examples. -/
import Derived.Test.YtmmbdhfljabefaaTrS
import Derived.Test.YtmmbdhfljabefaaTuA
namespace Go.Proofs.Ytmmbdhfljabefaa
open Go.RowKit Go.Shelf

def True_ (w : World) (e : Ending) (w' : World) : Prop := e = .returned (.bool true) ∧ Chg (fun _ => False) w w'
/-- The array A, in the box x. -/
def BoxA (w : World) (x : Nat) (A : Ar) : Prop := ∃ sa cs ae ce, (w.cell? ⟨x, 0, none⟩ = some (.int .i64 A.k) ∧ w.cell? ⟨x, 1, none⟩ = some (.slice sa A.s.length cs) ∧ w.cell? ⟨x, 2, none⟩ = some (.slice ae A.e.length ce)) ∧ Ara w (.agg #[.int .i64 A.k, .slice sa A.s.length cs, .slice ae A.e.length ce]) A
theorem BoxA.fr {w w' : World} {x : Nat} {A : Ar} (h : BoxA w x A) (hC : Chg (fun _ => False) w w') : BoxA w' x A := by
  obtain ⟨sa, cs, ae, ce, ⟨h0, h1, h2⟩, h⟩ := h
  exact ⟨sa, cs, ae, ce, ⟨hC.cell h0 id, hC.cell h1 id, hC.cell h2 id⟩, h.fr hC⟩
theorem BoxA.new {w : World} {A : Ar} {sa ae : Option Addr} {ns ne cs ce : Nat} (t : TypeId) (h : Ara w (.agg #[.int .i64 A.k, .slice sa ns cs, .slice ae ne ce]) A) : BoxA (w.alloc (.cells #[.int .i64 A.k, .slice sa ns cs, .slice ae ne ce] t)) w.heap.size A := by
  obtain ⟨vs, ve, e, h1, h2⟩ := id h
  injection e with e
  injection e with e
  injection e with _ e
  injection e with e3 e
  injection e with e4 _
  subst e3 e4
  obtain ⟨_, _, e5, _⟩ := h1.form
  obtain ⟨_, _, e6, _⟩ := h2.form
  injection e5 with _ e5 _
  injection e6 with _ e6 _
  subst e5 e6
  exact ⟨sa, cs, ae, ce, cell_two _ _ _ _ _, h.fr ((Chg.refl _ _).alloc _)⟩
theorem BoxA.set {w : World} {x base : Nat} {A : Ar} {v0 v1 v2 : Value} {sa ae : Option Addr} {ns ne cs ce : Nat} (hb : Bx w x v0 v1 v2) (h : OwnA w base (.agg #[.int .i64 A.k, .slice sa ns cs, .slice ae ne ce]) A) (hx : x < base) : BoxA (((w.setCell ⟨x, 0, none⟩ (.int .i64 A.k)).setCell ⟨x, 1, none⟩ (.slice sa ns cs)).setCell ⟨x, 2, none⟩ (.slice ae ne ce)) x A := by
  obtain ⟨z0, z1, z2, _, _, _⟩ := hb
  obtain ⟨vs, ve, e, h1, h2⟩ := id h
  injection e with e
  injection e with e
  injection e with _ e
  injection e with e3 e
  injection e with e4 _
  subst e3 e4
  obtain ⟨_, _, e5, _⟩ := h1.ls.form
  obtain ⟨_, _, e6, _⟩ := h2.ls.form
  injection e5 with _ e5 _
  injection e6 with _ e6 _
  subst e5 e6
  obtain ⟨⟨g0, g1⟩, g2⟩ := set3_cells (.int .i64 A.k) (.slice sa A.s.length cs) (.slice ae A.e.length ce) z0 z1 z2
  exact ⟨sa, cs, ae, ce, ⟨g0, g1, g2⟩, _, _, rfl, (own_set3 h1 hx _ _ _).ls, (own_set3 h2 hx _ _ _).ls⟩
theorem vec_lit (W : World) (xs : List Int) (n : Nat) (hn : xs.length = n) (cs : Array Value) (hc : cs = (xs.map I).toArray) (hm : xs.length ≤ 1000000) : Calls Try.prog 39 #[.slice (some ⟨W.heap.size, 0, none⟩) n n] (W.alloc (.cells cs 2)) (GaveA (W.alloc (.cells cs 2)) ⟨1, [(n : Int)], xs⟩) := by
  have h := avector_any _ xs _ (own_lit W 2 xs n hn cs hc hm).ls hm
  rw [hn] at h
  exact h
theorem vec_litD (W : World) (xs : List Int) (n : Nat) (hn : xs.length = n) (cs : Array Value) (hc : cs = (xs.map I).toArray) (hm : xs.length ≤ 1000000) : Calls Try.prog 39 #[.slice (some ⟨W.heap.size, 0, none⟩) n n] ((W.alloc (.cells cs 2)).drew) (GaveA ((W.alloc (.cells cs 2)).drew) ⟨1, [(n : Int)], xs⟩) := by
  have h := avector_any _ xs _ ((own_lit W 2 xs n hn cs hc hm).ls.fr ((Chg.refl _ _).drew)) hm
  rw [hn] at h
  exact h
def GaveM (w : World) (A : Ar) (r : Ending) (w' : World) : Prop := ∃ v', r = .returned v' ∧ Ara w' v' A ∧ Chg (fun _ => False) w w'
theorem matrix_lit (W : World) (m : Int) (xs : List Int) (n : Nat) (hn : xs.length = n) (cs : Array Value) (hc : cs = (xs.map I).toArray) (hm : 0 < m) (hl : xs.length ≤ 1000000) : Calls Try.prog 41 #[.int .i64 m, .slice (some ⟨W.heap.size, 0, none⟩) n n] (W.alloc (.cells cs 2)) (GaveM (W.alloc (.cells cs 2)) (matA m xs)) :=
  matrix_any _ m xs _ hm (own_lit W 2 xs n hn cs hc hl).ls hl
theorem matrix_litD (W : World) (m : Int) (xs : List Int) (n : Nat) (hn : xs.length = n) (cs : Array Value) (hc : cs = (xs.map I).toArray) (hm : 0 < m) (hl : xs.length ≤ 1000000) : Calls Try.prog 41 #[.int .i64 m, .slice (some ⟨W.heap.size, 0, none⟩) n n] ((W.alloc (.cells cs 2)).drew) (GaveM ((W.alloc (.cells cs 2)).drew) (matA m xs)) :=
  matrix_any _ m xs _ hm ((own_lit W 2 xs n hn cs hc hl).ls.fr ((Chg.refl _ _).drew)) hl
theorem alive_rev : tgA (revW [3]) ⟨1, [3], [1, 2, 3]⟩ = ⟨1, [3], [3, 2, 1]⟩ ∧ tgN (revW [3]) ⟨1, [3], [1, 2, 3]⟩ = 0 := by
  constructor <;> rfl
theorem alive_rot : tgA (rotW ⟨1, [], [1]⟩ [3]) ⟨1, [3], [1, 2, 3]⟩ = ⟨1, [3], [2, 3, 1]⟩ ∧ tgN (rotW ⟨1, [], [1]⟩ [3]) ⟨1, [3], [1, 2, 3]⟩ = 0 := by
  constructor <;> rfl
theorem alive_rot' (w' : World) (u v : Value) (h1 : Ara w' u ⟨1, [], [1]⟩) (h2 : Ara w' v ⟨1, [3], [1, 2, 3]⟩) : Calls Try.prog 30 #[u, v] w' (GaveAE w' ⟨1, [3], [2, 3, 1]⟩ 0) := by
  have h := trot_any u v ⟨1, [], [1]⟩ ⟨1, [3], [1, 2, 3]⟩ w' h1 h2 (by simp) (by simp) (by simp) (by simp)
  rw [alive_rot.1, alive_rot.2] at h
  exact h
theorem alive_mat : matA 3 [1, 2, 3, 4, 5, 6] = ⟨1, [2, 3], [1, 2, 3, 4, 5, 6]⟩ ∧ matA 2 [1, 4, 2, 5, 3, 6] = ⟨1, [3, 2], [1, 4, 2, 5, 3, 6]⟩ := by
  constructor <;> rfl
theorem alive_tra : tgA (toldW [2, 3] (traW [2, 3])) ⟨1, [2, 3], [1, 2, 3, 4, 5, 6]⟩ = ⟨1, [3, 2], [1, 4, 2, 5, 3, 6]⟩ ∧ tgN (toldW [2, 3] (traW [2, 3])) ⟨1, [2, 3], [1, 2, 3, 4, 5, 6]⟩ = 0 := by
  constructor <;> rfl
set_option maxRecDepth 100000 in
set_option maxHeartbeats 2000000 in
theorem alive_any (w : World) : Calls Try.prog 24 #[] w (True_ w) := by
  have h0 : Calls Try.prog 39 _ _ (GaveA _ ⟨1, [3], [1, 2, 3]⟩) := vec_lit w [1, 2, 3] 3 rfl #[.int .i64 1, .int .i64 2, .int .i64 3] rfl (by decide)
  have hC0 := (Chg.refl (fun _ => False) w).alloc (.cells #[.int .i64 1, .int .i64 2, .int .i64 3] 2)
  go_enter Try.func24, Try.ntmps24
  go_wp2_with fail
  refine h0.mono ?_
  clear h0
  rintro e9 w1 ⟨v1, rfl, ho1, hC1⟩
  obtain ⟨a1, c1, a2, c2, rfl, _, _⟩ := ara_new ho1
  simp only [List.length_cons, List.length_nil, Nat.reduceAdd] at ho1 ⊢
  have hb1 := BoxA.new (A := ⟨1, [3], [1, 2, 3]⟩) 25 ho1.ara
  have hC2 := hC0.tr (hC1.alloc (.cells #[.int .i64 1, .slice a1 1 c1, .slice a2 3 c2] 25))
  have h1 := trev_any _ ⟨1, [3], [1, 2, 3]⟩ _ (ho1.ara.fr ((Chg.refl _ _).alloc (.cells #[.int .i64 1, .slice a1 1 c1, .slice a2 3 c2] 25))) (by simp) (by simp)
  rw [alive_rev.1, alive_rev.2] at h1
  clear ho1 hC1 hC0
  obtain ⟨x1, hx1⟩ : ∃ x1, w1.heap.size = x1 := ⟨_, rfl⟩
  go_wp2_with fail
  rw [hx1] at hb1
  refine h1.mono ?_
  clear h1 hx1
  rintro e9 w2 ⟨v2, rfl, ho2, hC3⟩
  obtain ⟨a3, c3, a4, c4, rfl, _, _⟩ := ara_new ho2
  simp only [List.length_cons, List.length_nil, Nat.reduceAdd] at ho2 ⊢
  have hb2 := BoxA.new (A := ⟨1, [3], [3, 2, 1]⟩) 25 ho2.ara
  replace hb1 := hb1.fr (hC3.alloc (.cells #[.int .i64 1, .slice a3 1 c3, .slice a4 3 c4] 25))
  replace hC2 := hC2.tr (hC3.alloc (.cells #[.int .i64 1, .slice a3 1 c3, .slice a4 3 c4] 25))
  clear ho2 hC3
  obtain ⟨x2, hx2⟩ : ∃ x2, w2.heap.size = x2 := ⟨_, rfl⟩
  rw [hx2] at hb2
  go_wp2_with fail
  clear hx2
  generalize w2.alloc (.cells #[.int .i64 1, .slice a3 1 c3, .slice a4 3 c4] 25) = w3 at *
  obtain ⟨sa, cs, sb, cb, ⟨y0, y1, y2⟩, hb1⟩ := hb1
  simp only at y0 y1 y2 hb1
  go_cut [4, 5] (fun s4 s5 wx => ∃ x, s4 = .pointer (some ⟨x, 0, none⟩) ∧ s5 = .int .i64 0 ∧ BoxA wx x ⟨1, [3], [2, 3, 1]⟩ ∧ Chg (fun _ => False) w3 wx)
  case first =>
    have HR := Lib.hid alive_rot'
    have KP := Lib.hid (show ∀ w', Chg (fun _ => False) w3 w' → (Chg (fun _ => False) w3 w' ∧ w'.cell? ⟨x1, 0, none⟩ = some (.int .i64 1) ∧ w'.cell? ⟨x1, 1, none⟩ = some (.slice sa 1 cs) ∧ w'.cell? ⟨x1, 2, none⟩ = some (.slice sb 3 cb)) from fun w' h => ⟨h, h.cell y0 id, h.cell y1 id, h.cell y2 id⟩)
    have HA := Lib.hid (show ∀ w', Chg (fun _ => False) w3 w' → Ara w' (.agg #[.int .i64 1, .slice sa 1 cs, .slice sb 3 cb]) ⟨1, [3], [1, 2, 3]⟩ from fun w' h => hb1.fr h)
    go_region_held3 (fun w' => Chg (fun _ => False) w3 w' ∧ w'.cell? ⟨x1, 0, none⟩ = some (.int .i64 1) ∧ w'.cell? ⟨x1, 1, none⟩ = some (.slice sa 1 cs) ∧ w'.cell? ⟨x1, 2, none⟩ = some (.slice sb 3 cb)) ((refine KP.out _ ?_; repeat (first | (with_reducible exact Chg.refl _ _) | assumption | (with_reducible refine chg_drew' ?_) | (with_reducible refine chg_alloc' ?_) | (with_reducible refine Chg.tr ?_ hC6) | (with_reducible refine Chg.tr ?_ hC5) | (with_reducible refine Chg.setCell ?_ (.inr hs5) _) | (refine Chg.setCell ?_ (.inr (by simp only []; omega)) _)))) (first
      | (go_at_call 31
         (with_reducible refine (ascalar_any 1 _).mono ?_)
         rintro e9 w5 ⟨v5, rfl, ho5, hC5⟩
         obtain ⟨a5, c5, a6, c6, rfl, _, _⟩ := ara_new ho5
         simp only [List.length_cons, List.length_nil, Nat.reduceAdd] at ho5 ⊢
         have hs5 : w3.heap.size ≤ w5.heap.size := (by have := hC5.size; simp at this; omega)
         (first
          | have hB5 := (Bx.new w3 (.int .i64 0) (.slice none 0 0) (.slice none 0 0) 25).fr (((Chg.refl (fun _ => False) _).drew).tr hC5)
          | skip))
      | (go_at_call 30
         with_reducible refine (HR.out _ _ _ ?_ ?_).mono ?_
         · first
           | exact ho5.ara.fr (Chg.refl _ _)
           | exact ho5.ara.fr ((Chg.refl _ _).drew)
           | exact ho5.ara.fr ((Chg.refl _ _).alloc _)
           | exact ho5.ara.fr (((Chg.refl _ _).alloc _).drew)
         · refine HA.out _ ?_
           repeat (first | (with_reducible exact Chg.refl _ _) | assumption | (with_reducible refine chg_drew' ?_) | (with_reducible refine chg_alloc' ?_) | (with_reducible refine Chg.tr ?_ hC5))
         rintro e9 w6 ⟨v6, rfl, ho6, hC6⟩
         obtain ⟨a7, c7, a8, c8, rfl, _, _⟩ := ara_new ho6
         simp only [List.length_cons, List.length_nil, Nat.reduceAdd] at ho6 ⊢
         (first
          | (have hB6 := hB5.fr hC6
             have hl6 := Lib.hid ((hB5.lt : w3.heap.size < _))
             obtain ⟨z0, z1, z2, f0, f1, f2⟩ := id hB6)
          | (have hB6 := (Bx.new w5 (.int .i64 0) (.slice none 0 0) (.slice none 0 0) 25).fr hC6
             have hl6 := Lib.hid (((Bx.new w5 (.int .i64 0) (.slice none 0 0) (.slice none 0 0) 25).lt : w5.heap.size < _))
             obtain ⟨z0, z1, z2, f0, f1, f2⟩ := id hB6)
          | skip)))
    all_goals
      rename_i hHd
      go_wp2_with fail
      go_meet
      refine ⟨_, rfl, rfl, ?_, hHd.1⟩
      first
      | exact BoxA.new (A := ⟨1, [3], [2, 3, 1]⟩) 25 ho6.ara
      | exact BoxA.set (A := ⟨1, [3], [2, 3, 1]⟩) hB6 ho6 hl6.out
  case rest =>
    obtain ⟨x4, rfl, rfl, hb4, hCc⟩ := hcut
    replace hb2 := hb2.fr hCc
    have hC2c := hC2.tr hCc
    clear hb1 y0 y1 y2 hC2 hCc
    have hm := matrix_lit wc 3 [1, 2, 3, 4, 5, 6] 6 rfl #[.int .i64 1, .int .i64 2, .int .i64 3, .int .i64 4, .int .i64 5, .int .i64 6] rfl (by decide) (by decide)
    rw [alive_mat.1] at hm
    have hCm := (Chg.refl (fun _ => False) wc).alloc (.cells #[.int .i64 1, .int .i64 2, .int .i64 3, .int .i64 4, .int .i64 5, .int .i64 6] 2)
    go_wp2_with fail
    refine hm.mono ?_
    clear hm
    rintro e9 w5 ⟨v5, rfl, ho5, hC5⟩
    have h3 := ttra_any _ ⟨1, [2, 3], [1, 2, 3, 4, 5, 6]⟩ _ ho5 (by simp) (by simp)
    simp only at h3
    rw [alive_tra.1, alive_tra.2] at h3
    replace hb2 := hb2.fr (hCm.tr hC5)
    replace hb4 := hb4.fr (hCm.tr hC5)
    have hC2d := hC2c.tr (hCm.tr hC5)
    clear ho5 hC5 hCm hC2c
    go_wp2_with fail
    refine h3.mono ?_
    clear h3
    rintro e9 w6 ⟨v6, rfl, ho6, hC6⟩
    obtain ⟨a7, c7, a8, c8, rfl, _, _⟩ := ara_new ho6
    simp only [List.length_cons, List.length_nil, Nat.reduceAdd] at ho6 ⊢
    have hb6 := BoxA.new (A := ⟨1, [3, 2], [1, 4, 2, 5, 3, 6]⟩) 25 ho6.ara
    replace hb2 := hb2.fr (hC6.alloc (.cells #[.int .i64 1, .slice a7 2 c7, .slice a8 6 c8] 25))
    replace hb4 := hb4.fr (hC6.alloc (.cells #[.int .i64 1, .slice a7 2 c7, .slice a8 6 c8] 25))
    have hC2e := hC2d.tr (hC6.alloc (.cells #[.int .i64 1, .slice a7 2 c7, .slice a8 6 c8] 25))
    clear ho6 hC6 hC2d
    obtain ⟨x6, hx6⟩ : ∃ x6, w6.heap.size = x6 := ⟨_, rfl⟩
    rw [hx6] at hb6
    go_wp2_with fail
    clear hx6
    generalize w6.alloc (.cells #[.int .i64 1, .slice a7 2 c7, .slice a8 6 c8] 25) = w9 at *
    obtain ⟨sa, cs, sb, cb, ⟨y0, y1, y2⟩, hb2⟩ := hb2
    obtain ⟨ta, ct, tb, cu, ⟨z0, z1, z2⟩, hb4⟩ := hb4
    obtain ⟨pa, cp, pb, cq, ⟨p0, p1, p2⟩, hb6⟩ := hb6
    simp only [List.length_cons, List.length_nil, Nat.reduceAdd] at y0 y1 y2 hb2 z0 z1 z2 hb4 p0 p1 p2 hb6
    have KP := Lib.hid (show ∀ w', Chg (fun _ => False) w9 w' → (Chg (fun _ => False) w9 w' ∧ w'.cell? ⟨x2, 0, none⟩ = some (.int .i64 1) ∧ w'.cell? ⟨x2, 1, none⟩ = some (.slice sa 1 cs) ∧ w'.cell? ⟨x2, 2, none⟩ = some (.slice sb 3 cb) ∧ w'.cell? ⟨x4, 0, none⟩ = some (.int .i64 1) ∧ w'.cell? ⟨x4, 1, none⟩ = some (.slice ta 1 ct) ∧ w'.cell? ⟨x4, 2, none⟩ = some (.slice tb 3 cu) ∧ w'.cell? ⟨x6, 0, none⟩ = some (.int .i64 1) ∧ w'.cell? ⟨x6, 1, none⟩ = some (.slice pa 2 cp) ∧ w'.cell? ⟨x6, 2, none⟩ = some (.slice pb 6 cq)) from fun w' h => ⟨h, h.cell y0 id, h.cell y1 id, h.cell y2 id, h.cell z0 id, h.cell z1 id, h.cell z2 id, h.cell p0 id, h.cell p1 id, h.cell p2 id⟩)
    have H1 := Lib.hid (show ∀ w' v, Chg (fun _ => False) w9 w' → Ara w' v ⟨1, [3], [3, 2, 1]⟩ → Calls Try.prog 29 #[.agg #[.int .i64 1, .slice sa 1 cs, .slice sb 3 cb], .int .i64 0, v] w' (GaveBo w' true) from fun w' v h hv => by have h2 := is_any _ _ ⟨1, [3], [3, 2, 1]⟩ ⟨1, [3], [3, 2, 1]⟩ 0 w' (hb2.fr h) hv (by simp) (by simp); rw [isB_iff.2 ⟨rfl, rfl⟩] at h2; exact h2)
    have H2 := Lib.hid (show ∀ w' v, Chg (fun _ => False) w9 w' → Ara w' v ⟨1, [3], [2, 3, 1]⟩ → Calls Try.prog 29 #[.agg #[.int .i64 1, .slice ta 1 ct, .slice tb 3 cu], .int .i64 0, v] w' (GaveBo w' true) from fun w' v h hv => by have h2 := is_any _ _ ⟨1, [3], [2, 3, 1]⟩ ⟨1, [3], [2, 3, 1]⟩ 0 w' (hb4.fr h) hv (by simp) (by simp); rw [isB_iff.2 ⟨rfl, rfl⟩] at h2; exact h2)
    have H3 := Lib.hid (show ∀ w' v, Chg (fun _ => False) w9 w' → Ara w' v ⟨1, [3, 2], [1, 4, 2, 5, 3, 6]⟩ → Calls Try.prog 29 #[.agg #[.int .i64 1, .slice pa 2 cp, .slice pb 6 cq], .int .i64 0, v] w' (GaveBo w' true) from fun w' v h hv => by have h2 := is_any _ _ ⟨1, [3, 2], [1, 4, 2, 5, 3, 6]⟩ ⟨1, [3, 2], [1, 4, 2, 5, 3, 6]⟩ 0 w' (hb6.fr h) hv (by simp) (by simp); rw [isB_iff.2 ⟨rfl, rfl⟩] at h2; exact h2)
    have HV1 := Lib.hid (fun W => vec_litD W [3, 2, 1] 3 rfl #[.int .i64 3, .int .i64 2, .int .i64 1] rfl (by decide))
    have HV2 := Lib.hid (fun W => vec_litD W [2, 3, 1] 3 rfl #[.int .i64 2, .int .i64 3, .int .i64 1] rfl (by decide))
    have HV3 := Lib.hid (fun W => (alive_mat.2 ▸ matrix_litD W 2 [1, 4, 2, 5, 3, 6] 6 rfl #[.int .i64 1, .int .i64 4, .int .i64 2, .int .i64 5, .int .i64 3, .int .i64 6] rfl (by decide) (by decide)))
    have HW2 := Lib.hid (fun W => vec_lit W [2, 3, 1] 3 rfl #[.int .i64 2, .int .i64 3, .int .i64 1] rfl (by decide))
    have HW3 := Lib.hid (fun W => (alive_mat.2 ▸ matrix_lit W 2 [1, 4, 2, 5, 3, 6] 6 rfl #[.int .i64 1, .int .i64 4, .int .i64 2, .int .i64 5, .int .i64 3, .int .i64 6] rfl (by decide) (by decide)))
    have HC := Lib.hid hC2e
    clear hC2e
    go_region_held3 (fun w' => (Chg (fun _ => False) w9 w' ∧ w'.cell? ⟨x2, 0, none⟩ = some (.int .i64 1) ∧ w'.cell? ⟨x2, 1, none⟩ = some (.slice sa 1 cs) ∧ w'.cell? ⟨x2, 2, none⟩ = some (.slice sb 3 cb) ∧ w'.cell? ⟨x4, 0, none⟩ = some (.int .i64 1) ∧ w'.cell? ⟨x4, 1, none⟩ = some (.slice ta 1 ct) ∧ w'.cell? ⟨x4, 2, none⟩ = some (.slice tb 3 cu) ∧ w'.cell? ⟨x6, 0, none⟩ = some (.int .i64 1) ∧ w'.cell? ⟨x6, 1, none⟩ = some (.slice pa 2 cp) ∧ w'.cell? ⟨x6, 2, none⟩ = some (.slice pb 6 cq))) ((refine KP.out _ ?_; repeat (first | (with_reducible exact Chg.refl _ _) | (with_reducible assumption) | (with_reducible refine chg_drew' ?_) | (with_reducible refine chg_alloc' ?_) | (with_reducible refine Chg.tr ?_ hq6) | (with_reducible refine Chg.tr ?_ hq5) | (with_reducible refine Chg.tr ?_ hq4) | (with_reducible refine Chg.tr ?_ hq3) | (with_reducible refine Chg.tr ?_ hq2) | (with_reducible refine Chg.tr ?_ hq1)))) (first
      | (go_at_call 39
         (with_reducible refine (HV1.out _).mono ?_)
         rintro e9 q1 ⟨u1, rfl, hu1, hq1⟩
         have hu1a := Lib.hid hu1.ara)
      | (go_at_call 29
         with_reducible refine (H1.out _ _ ?_ ?_).mono ?_
         · repeat (first | (with_reducible exact Chg.refl _ _) | (with_reducible assumption) | (with_reducible refine chg_drew' ?_) | (with_reducible refine chg_alloc' ?_) | (with_reducible refine Chg.tr ?_ hq1))
         · first | exact hu1a.out | exact hu1a.out.fr ((Chg.refl _ _).drew)
         rintro e9 q2 ⟨rfl, hq2⟩)
      | (go_at_call 39
         (first | (with_reducible refine (HV2.out _).mono ?_) | (with_reducible refine (HW2.out _).mono ?_))
         rintro e9 q3 ⟨u3, rfl, hu3, hq3⟩
         have hu3a := Lib.hid hu3.ara)
      | (go_at_call 29
         with_reducible refine (H2.out _ _ ?_ ?_).mono ?_
         · repeat (first | (with_reducible exact Chg.refl _ _) | (with_reducible assumption) | (with_reducible refine chg_drew' ?_) | (with_reducible refine chg_alloc' ?_) | (with_reducible refine Chg.tr ?_ hq3) | (with_reducible refine Chg.tr ?_ hq2) | (with_reducible refine Chg.tr ?_ hq1))
         · first | exact hu3a.out | exact hu3a.out.fr ((Chg.refl _ _).drew)
         rintro e9 q4 ⟨rfl, hq4⟩)
      | (go_at_call 41
         (first | (with_reducible refine (HV3.out _).mono ?_) | (with_reducible refine (HW3.out _).mono ?_))
         rintro e9 q5 ⟨u5, rfl, hu5, hq5⟩
         have hu5a := Lib.hid hu5)
      | (go_at_call 29
         with_reducible refine (H3.out _ _ ?_ ?_).mono ?_
         · repeat (first | (with_reducible exact Chg.refl _ _) | (with_reducible assumption) | (with_reducible refine chg_drew' ?_) | (with_reducible refine chg_alloc' ?_) | (with_reducible refine Chg.tr ?_ hq5) | (with_reducible refine Chg.tr ?_ hq4) | (with_reducible refine Chg.tr ?_ hq3) | (with_reducible refine Chg.tr ?_ hq2) | (with_reducible refine Chg.tr ?_ hq1))
         · first | exact hu5a.out | exact hu5a.out.fr ((Chg.refl _ _).drew)
         rintro e9 q6 ⟨rfl, hq6⟩))
    all_goals
      rename_i hHd
      go_wp2
      go_ret
      exact ⟨rfl, HC.out.tr hHd.1⟩
end Go.Proofs.Ytmmbdhfljabefaa
