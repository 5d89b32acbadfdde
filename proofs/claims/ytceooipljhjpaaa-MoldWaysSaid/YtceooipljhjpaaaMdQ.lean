/- mold: the chapter's first examples. -/
import Derived.Test.YtceooipljhjpaaaMdO
import Derived.Test.YtceooipljhjpaaaMdP
import Derived.Test.YtceooipljhjpaaaMdE
import Derived.Test.YtceooipljhjpaaaArT
namespace Go.Proofs.Ytceooipljhjpaaa
open Go.RowKit Go.Shelf

def True_ (w : World) (e : Ending) (w' : World) : Prop := e = .returned (.bool true) ∧ Chg (fun _ => False) w w'
/-- The array A, in the box x. -/
def BoxA (w : World) (x : Nat) (A : Ar) : Prop := ∃ sa cs ae ce, (w.cell? ⟨x, 0, none⟩ = some (.int .i64 A.k) ∧ w.cell? ⟨x, 1, none⟩ = some (.slice sa A.s.length cs) ∧ w.cell? ⟨x, 2, none⟩ = some (.slice ae A.e.length ce)) ∧ Ara w (.agg #[.int .i64 A.k, .slice sa A.s.length cs, .slice ae A.e.length ce]) A
theorem BoxA.fr {w w' : World} {x : Nat} {A : Ar} (h : BoxA w x A) (hC : Chg (fun _ => False) w w') : BoxA w' x A := by
  obtain ⟨sa, cs, ae, ce, ⟨h0, h1, h2⟩, h⟩ := h
  exact ⟨sa, cs, ae, ce, ⟨hC.cell h0 id, hC.cell h1 id, hC.cell h2 id⟩, h.fr hC⟩
theorem BoxA.new {w : World} {A : Ar} {sa ae : Option Addr} {ns ne cs ce : Nat} (t : TypeId) (h : Ara w (.agg #[.int .i64 A.k, .slice sa ns cs, .slice ae ne ce]) A) : BoxA (w.alloc (.cells #[.int .i64 A.k, .slice sa ns cs, .slice ae ne ce] t)) w.heap.size A := by
  obtain ⟨vs, ve, e, h1, h2⟩ := id h
  injection e with e
  injection e with e
  injection e with _ e
  injection e with e3 e
  injection e with e4 _
  subst e3 e4
  obtain ⟨_, _, e5, _⟩ := h1.form
  obtain ⟨_, _, e6, _⟩ := h2.form
  injection e5 with _ e5 _
  injection e6 with _ e6 _
  subst e5 e6
  exact ⟨sa, cs, ae, ce, cell_two _ _ _ _ _, h.fr ((Chg.refl _ _).alloc _)⟩
theorem BoxA.set {w : World} {x base : Nat} {A : Ar} {v0 v1 v2 : Value} {sa ae : Option Addr} {ns ne cs ce : Nat} (hb : Bx w x v0 v1 v2) (h : OwnA w base (.agg #[.int .i64 A.k, .slice sa ns cs, .slice ae ne ce]) A) (hx : x < base) : BoxA (((w.setCell ⟨x, 0, none⟩ (.int .i64 A.k)).setCell ⟨x, 1, none⟩ (.slice sa ns cs)).setCell ⟨x, 2, none⟩ (.slice ae ne ce)) x A := by
  obtain ⟨z0, z1, z2, _, _, _⟩ := hb
  obtain ⟨vs, ve, e, h1, h2⟩ := id h
  injection e with e
  injection e with e
  injection e with _ e
  injection e with e3 e
  injection e with e4 _
  subst e3 e4
  obtain ⟨_, _, e5, _⟩ := h1.ls.form
  obtain ⟨_, _, e6, _⟩ := h2.ls.form
  injection e5 with _ e5 _
  injection e6 with _ e6 _
  subst e5 e6
  obtain ⟨⟨g0, g1⟩, g2⟩ := set3_cells (.int .i64 A.k) (.slice sa A.s.length cs) (.slice ae A.e.length ce) z0 z1 z2
  exact ⟨sa, cs, ae, ce, ⟨g0, g1, g2⟩, _, _, rfl, (own_set3 h1 hx _ _ _).ls, (own_set3 h2 hx _ _ _).ls⟩
theorem vec_lit (W : World) (xs : List Int) (n : Nat) (hn : xs.length = n) (cs : Array Value) (hc : cs = (xs.map I).toArray) (hm : xs.length ≤ 1000000) : Calls Try.prog 25 #[.slice (some ⟨W.heap.size, 0, none⟩) n n] (W.alloc (.cells cs 2)) (GaveA (W.alloc (.cells cs 2)) ⟨1, [(n : Int)], xs⟩) := by
  have h := avector_any _ xs _ (own_lit W 2 xs n hn cs hc hm).ls hm
  rw [hn] at h
  exact h
theorem vec_litD (W : World) (xs : List Int) (n : Nat) (hn : xs.length = n) (cs : Array Value) (hc : cs = (xs.map I).toArray) (hm : xs.length ≤ 1000000) : Calls Try.prog 25 #[.slice (some ⟨W.heap.size, 0, none⟩) n n] ((W.alloc (.cells cs 2)).drew) (GaveA ((W.alloc (.cells cs 2)).drew) ⟨1, [(n : Int)], xs⟩) := by
  have h := avector_any _ xs _ ((own_lit W 2 xs n hn cs hc hm).ls.fr ((Chg.refl _ _).drew)) hm
  rw [hn] at h
  exact h
def GaveM (w : World) (A : Ar) (r : Ending) (w' : World) : Prop := ∃ v', r = .returned v' ∧ Ara w' v' A ∧ Chg (fun _ => False) w w'
theorem matrix_lit (W : World) (m : Int) (xs : List Int) (n : Nat) (hn : xs.length = n) (cs : Array Value) (hc : cs = (xs.map I).toArray) (hm : 0 < m) (hl : xs.length ≤ 1000000) : Calls Try.prog 31 #[.int .i64 m, .slice (some ⟨W.heap.size, 0, none⟩) n n] (W.alloc (.cells cs 2)) (GaveM (W.alloc (.cells cs 2)) (matA m xs)) :=
  matrix_any _ m xs _ hm (own_lit W 2 xs n hn cs hc hl).ls hl
theorem matrix_litD (W : World) (m : Int) (xs : List Int) (n : Nat) (hn : xs.length = n) (cs : Array Value) (hc : cs = (xs.map I).toArray) (hm : 0 < m) (hl : xs.length ≤ 1000000) : Calls Try.prog 31 #[.int .i64 m, .slice (some ⟨W.heap.size, 0, none⟩) n n] ((W.alloc (.cells cs 2)).drew) (GaveM ((W.alloc (.cells cs 2)).drew) (matA m xs)) :=
  matrix_any _ m xs _ hm ((own_lit W 2 xs n hn cs hc hl).ls.fr ((Chg.refl _ _).drew)) hl
theorem chg_alloc' {w w' : World} {o : Obj} (h : Chg (fun _ => False) w w') : Chg (fun _ => False) w (w'.alloc o) := h.alloc o
theorem chg_drew' {w w' : World} (h : Chg (fun _ => False) w w') : Chg (fun _ => False) w w'.drew := h.drew
theorem al_resh : mgA (rsW ⟨1, [2], [2, 3]⟩ [2]) ⟨1, [2], [2, 3]⟩ ⟨1, [2], [1, 2]⟩ = ⟨1, [2, 3], [1, 2, 1, 2, 1, 2]⟩ ∧ mgN (rsW ⟨1, [2], [2, 3]⟩ [2]) ⟨1, [2], [2, 3]⟩ ⟨1, [2], [1, 2]⟩ = 0 := by
  constructor <;> rfl
theorem al_take : mgA (tkW ⟨1, [], [-3]⟩ [2]) ⟨1, [], [-3]⟩ ⟨1, [2], [1, 2]⟩ = ⟨1, [3], [0, 1, 2]⟩ ∧ mgN (tkW ⟨1, [], [-3]⟩ [2]) ⟨1, [], [-3]⟩ ⟨1, [2], [1, 2]⟩ = 0 := by
  constructor <;> rfl
theorem al_cat : catA ⟨1, [2], [1, 2]⟩ ⟨1, [], [3]⟩ = ⟨1, [3], [1, 2, 3]⟩ ∧ catE ⟨1, [2], [1, 2]⟩ ⟨1, [], [3]⟩ = 0 := by
  constructor <;> rfl
theorem al_mat : matA 3 [1, 2, 1, 2, 1, 2] = ⟨1, [2, 3], [1, 2, 1, 2, 1, 2]⟩ := rfl
set_option maxRecDepth 100000 in
set_option maxHeartbeats 4000000 in
theorem alive_any (w : World) : Calls Try.prog 24 #[] w (True_ w) := by
  have h0 : Calls Try.prog 25 _ _ (GaveA _ ⟨1, [2], [2, 3]⟩) := vec_lit w [2, 3] 2 rfl #[.int .i64 2, .int .i64 3] rfl (by decide)
  have hC0 := (Chg.refl (fun _ => False) w).alloc (.cells #[.int .i64 2, .int .i64 3] 2)
  go_enter Try.func24, Try.ntmps24
  go_wp2_with fail
  refine h0.mono ?_
  clear h0
  rintro e9 w1 ⟨v1, rfl, ho1, hC1⟩
  obtain ⟨a1, c1, a2, c2, rfl, _, _⟩ := ara_new ho1
  simp only [List.length_cons, List.length_nil, Nat.reduceAdd] at ho1 ⊢
  replace hC0 := hC0.tr hC1
  clear hC1
  have h0 : Calls Try.prog 25 _ _ (GaveA _ ⟨1, [2], [1, 2]⟩) := vec_lit w1 [1, 2] 2 rfl #[.int .i64 1, .int .i64 2] rfl (by decide)
  have hCl := (Chg.refl (fun _ => False) w1).alloc (.cells #[.int .i64 1, .int .i64 2] 2)
  go_wp2_with fail
  refine h0.mono ?_
  clear h0
  rintro e9 w2 ⟨v2, rfl, ho2, hC1⟩
  obtain ⟨a1, c1, a2, c2, rfl, _, _⟩ := ara_new ho2
  simp only [List.length_cons, List.length_nil, Nat.reduceAdd] at ho2 ⊢
  replace hC0 := hC0.tr (hCl.tr hC1)
  replace ho1 := ho1.ara.fr (hCl.tr hC1)
  have hr := reshape_any _ _ ⟨1, [2], [2, 3]⟩ ⟨1, [2], [1, 2]⟩ w2 ho1 ho2.ara (by simp) (by simp)
  simp only at hr
  rw [al_resh.1, al_resh.2] at hr
  clear ho1 ho2 hCl hC1
  go_wp2_with fail
  refine hr.mono ?_
  clear hr
  rintro e9 w3 ⟨v3, rfl, ho3, hC1⟩
  obtain ⟨a1, c1, a2, c2, rfl, _, _⟩ := ara_new ho3
  simp only [List.length_cons, List.length_nil, Nat.reduceAdd] at ho3 ⊢
  have hb1 := BoxA.new (A := ⟨1, [2, 3], [1, 2, 1, 2, 1, 2]⟩) 25 ho3.ara
  replace hC0 := hC0.tr (hC1.alloc (.cells #[.int .i64 1, .slice a1 2 c1, .slice a2 6 c2] 25))
  clear ho3 hC1
  have hsc := ascalar_any (-3) (w3.alloc (.cells #[.int .i64 1, .slice a1 2 c1, .slice a2 6 c2] 25))
  obtain ⟨x1, hx1⟩ : ∃ x1, w3.heap.size = x1 := ⟨_, rfl⟩
  rw [hx1] at hb1
  go_wp2_with fail
  clear hx1
  generalize w3.alloc (.cells #[.int .i64 1, .slice a1 2 c1, .slice a2 6 c2] 25) = w4 at *
  refine hsc.mono ?_
  clear hsc
  rintro e9 w5 ⟨v5, rfl, ho5, hC1⟩
  obtain ⟨a1, c1, a2, c2, rfl, _, _⟩ := ara_new ho5
  simp only [List.length_cons, List.length_nil, Nat.reduceAdd] at ho5 ⊢
  replace hb1 := hb1.fr hC1
  replace hC0 := hC0.tr hC1
  clear hC1
  have h0 : Calls Try.prog 25 _ _ (GaveA _ ⟨1, [2], [1, 2]⟩) := vec_lit w5 [1, 2] 2 rfl #[.int .i64 1, .int .i64 2] rfl (by decide)
  have hCl := (Chg.refl (fun _ => False) w5).alloc (.cells #[.int .i64 1, .int .i64 2] 2)
  go_wp2_with fail
  refine h0.mono ?_
  clear h0
  rintro e9 w6 ⟨v6, rfl, ho6, hC1⟩
  obtain ⟨a1, c1, a2, c2, rfl, _, _⟩ := ara_new ho6
  simp only [List.length_cons, List.length_nil, Nat.reduceAdd] at ho6 ⊢
  replace hC0 := hC0.tr (hCl.tr hC1)
  replace ho5 := ho5.ara.fr (hCl.tr hC1)
  replace hb1 := hb1.fr (hCl.tr hC1)
  have hr := take_any _ _ ⟨1, [], [-3]⟩ ⟨1, [2], [1, 2]⟩ w6 ho5 ho6.ara (by simp) (by simp)
  simp only at hr
  rw [al_take.1, al_take.2] at hr
  clear ho5 ho6 hCl hC1
  go_wp2_with fail
  refine hr.mono ?_
  clear hr
  rintro e9 w7 ⟨v7, rfl, ho7, hC1⟩
  obtain ⟨a1, c1, a2, c2, rfl, _, _⟩ := ara_new ho7
  simp only [List.length_cons, List.length_nil, Nat.reduceAdd] at ho7 ⊢
  have hb2 := BoxA.new (A := ⟨1, [3], [0, 1, 2]⟩) 25 ho7.ara
  replace hb1 := hb1.fr (hC1.alloc (.cells #[.int .i64 1, .slice a1 1 c1, .slice a2 3 c2] 25))
  replace hC0 := hC0.tr (hC1.alloc (.cells #[.int .i64 1, .slice a1 1 c1, .slice a2 3 c2] 25))
  clear ho7 hC1
  obtain ⟨x2, hx2⟩ : ∃ x2, w7.heap.size = x2 := ⟨_, rfl⟩
  rw [hx2] at hb2
  have hvl : Calls Try.prog 25 _ _ (GaveA _ ⟨1, [2], [1, 2]⟩) := vec_lit (w7.alloc (.cells #[.int .i64 1, .slice a1 1 c1, .slice a2 3 c2] 25)) [1, 2] 2 rfl #[.int .i64 1, .int .i64 2] rfl (by decide)
  have hsz : (w7.alloc (.cells #[.int .i64 1, .slice a1 1 c1, .slice a2 3 c2] 25)).heap.size = x2 + 1 := by rw [← hx2]; simp
  rw [hsz] at hvl
  go_wp2_with fail
  refine hvl.mono ?_
  clear hvl
  have hCl := (Chg.refl (fun _ => False) (w7.alloc (.cells #[.int .i64 1, .slice a1 1 c1, .slice a2 3 c2] 25))).alloc (.cells #[.int .i64 1, .int .i64 2] 2)
  rintro e9 w8 ⟨v8, rfl, ho8, hC1⟩
  replace hb1 := hb1.fr (hCl.tr hC1)
  replace hb2 := hb2.fr (hCl.tr hC1)
  replace hC0 := hC0.tr (hCl.tr hC1)
  obtain ⟨a3, c3, a4, c4, rfl, _, _⟩ := ara_new ho8
  simp only [List.length_cons, List.length_nil, Nat.reduceAdd] at ho8 ⊢
  clear hC1 hCl hsz hx2
  have hsc := ascalar_any 3 w8
  go_wp2_with fail
  refine hsc.mono ?_
  clear hsc
  rintro e9 w9 ⟨v9, rfl, ho9, hC1⟩
  obtain ⟨a1, c1, a2, c2, rfl, _, _⟩ := ara_new ho9
  simp only [List.length_cons, List.length_nil, Nat.reduceAdd] at ho9 ⊢
  replace hb1 := hb1.fr hC1
  replace hb2 := hb2.fr hC1
  replace hC0 := hC0.tr hC1
  replace ho8 := ho8.ara.fr hC1
  clear hC1
  have hr := cat_any _ _ ⟨1, [2], [1, 2]⟩ ⟨1, [], [3]⟩ w9 ho8 ho9.ara (by simp) (by simp)
  rw [al_cat.1, al_cat.2] at hr
  clear ho8 ho9
  go_wp2_with fail
  refine hr.mono ?_
  clear hr
  rintro e9 w10 ⟨v10, rfl, ho10, hC1⟩
  obtain ⟨a1, c1, a2, c2, rfl, _, _⟩ := ara_new ho10
  simp only [List.length_cons, List.length_nil, Nat.reduceAdd] at ho10 ⊢
  have hb3 := BoxA.new (A := ⟨1, [3], [1, 2, 3]⟩) 25 ho10.ara
  replace hb1 := hb1.fr (hC1.alloc (.cells #[.int .i64 1, .slice a1 1 c1, .slice a2 3 c2] 25))
  replace hb2 := hb2.fr (hC1.alloc (.cells #[.int .i64 1, .slice a1 1 c1, .slice a2 3 c2] 25))
  replace hC0 := hC0.tr (hC1.alloc (.cells #[.int .i64 1, .slice a1 1 c1, .slice a2 3 c2] 25))
  clear ho10 hC1
  obtain ⟨x3, hx3⟩ : ∃ x3, w10.heap.size = x3 := ⟨_, rfl⟩
  rw [hx3] at hb3
  go_wp2_with fail
  clear hx3
  generalize w10.alloc (.cells #[.int .i64 1, .slice a1 1 c1, .slice a2 3 c2] 25) = w11 at *
  obtain ⟨sa, cs, sb, cb, ⟨y0, y1, y2⟩, hb1⟩ := hb1
  obtain ⟨ta, ct, tb, cu, ⟨z0, z1, z2⟩, hb2⟩ := hb2
  obtain ⟨pa, cp, pb, cq, ⟨p0, p1, p2⟩, hb3⟩ := hb3
  simp only [List.length_cons, List.length_nil, Nat.reduceAdd] at y0 y1 y2 hb1 z0 z1 z2 hb2 p0 p1 p2 hb3
  have KP := Lib.hid (show ∀ w', Chg (fun _ => False) w11 w' → (Chg (fun _ => False) w11 w' ∧ w'.cell? ⟨x1, 0, none⟩ = some (.int .i64 1) ∧ w'.cell? ⟨x1, 1, none⟩ = some (.slice sa 2 cs) ∧ w'.cell? ⟨x1, 2, none⟩ = some (.slice sb 6 cb) ∧ w'.cell? ⟨x2, 0, none⟩ = some (.int .i64 1) ∧ w'.cell? ⟨x2, 1, none⟩ = some (.slice ta 1 ct) ∧ w'.cell? ⟨x2, 2, none⟩ = some (.slice tb 3 cu) ∧ w'.cell? ⟨x3, 0, none⟩ = some (.int .i64 1) ∧ w'.cell? ⟨x3, 1, none⟩ = some (.slice pa 1 cp) ∧ w'.cell? ⟨x3, 2, none⟩ = some (.slice pb 3 cq)) from fun w' h => ⟨h, h.cell y0 id, h.cell y1 id, h.cell y2 id, h.cell z0 id, h.cell z1 id, h.cell z2 id, h.cell p0 id, h.cell p1 id, h.cell p2 id⟩)
  have H1 := Lib.hid (show ∀ w' v, Chg (fun _ => False) w11 w' → Ara w' v ⟨1, [2, 3], [1, 2, 1, 2, 1, 2]⟩ → Calls Try.prog 30 #[.agg #[.int .i64 1, .slice sa 2 cs, .slice sb 6 cb], .int .i64 0, v] w' (GaveBo w' true) from fun w' v h hv => by have h2 := is_any _ _ ⟨1, [2, 3], [1, 2, 1, 2, 1, 2]⟩ ⟨1, [2, 3], [1, 2, 1, 2, 1, 2]⟩ 0 w' (hb1.fr h) hv (by simp) (by simp); rw [isB_iff.2 ⟨rfl, rfl⟩] at h2; exact h2)
  have H2 := Lib.hid (show ∀ w' v, Chg (fun _ => False) w11 w' → Ara w' v ⟨1, [3], [0, 1, 2]⟩ → Calls Try.prog 30 #[.agg #[.int .i64 1, .slice ta 1 ct, .slice tb 3 cu], .int .i64 0, v] w' (GaveBo w' true) from fun w' v h hv => by have h2 := is_any _ _ ⟨1, [3], [0, 1, 2]⟩ ⟨1, [3], [0, 1, 2]⟩ 0 w' (hb2.fr h) hv (by simp) (by simp); rw [isB_iff.2 ⟨rfl, rfl⟩] at h2; exact h2)
  have H3 := Lib.hid (show ∀ w' v, Chg (fun _ => False) w11 w' → Ara w' v ⟨1, [3], [1, 2, 3]⟩ → Calls Try.prog 30 #[.agg #[.int .i64 1, .slice pa 1 cp, .slice pb 3 cq], .int .i64 0, v] w' (GaveBo w' true) from fun w' v h hv => by have h2 := is_any _ _ ⟨1, [3], [1, 2, 3]⟩ ⟨1, [3], [1, 2, 3]⟩ 0 w' (hb3.fr h) hv (by simp) (by simp); rw [isB_iff.2 ⟨rfl, rfl⟩] at h2; exact h2)
  have HV1 := Lib.hid (fun W => (al_mat ▸ matrix_litD W 3 [1, 2, 1, 2, 1, 2] 6 rfl #[.int .i64 1, .int .i64 2, .int .i64 1, .int .i64 2, .int .i64 1, .int .i64 2] rfl (by decide) (by decide)))
  have HW1 := Lib.hid (fun W => (al_mat ▸ matrix_lit W 3 [1, 2, 1, 2, 1, 2] 6 rfl #[.int .i64 1, .int .i64 2, .int .i64 1, .int .i64 2, .int .i64 1, .int .i64 2] rfl (by decide) (by decide)))
  have HV2 := Lib.hid (fun W => vec_litD W [0, 1, 2] 3 rfl #[.int .i64 0, .int .i64 1, .int .i64 2] rfl (by decide))
  have HV3 := Lib.hid (fun W => vec_litD W [1, 2, 3] 3 rfl #[.int .i64 1, .int .i64 2, .int .i64 3] rfl (by decide))
  have HW2 := Lib.hid (fun W => vec_lit W [0, 1, 2] 3 rfl #[.int .i64 0, .int .i64 1, .int .i64 2] rfl (by decide))
  have HW3 := Lib.hid (fun W => vec_lit W [1, 2, 3] 3 rfl #[.int .i64 1, .int .i64 2, .int .i64 3] rfl (by decide))
  have HC := Lib.hid hC0
  clear hC0
  go_region_held3 (fun w' => (Chg (fun _ => False) w11 w' ∧ w'.cell? ⟨x1, 0, none⟩ = some (.int .i64 1) ∧ w'.cell? ⟨x1, 1, none⟩ = some (.slice sa 2 cs) ∧ w'.cell? ⟨x1, 2, none⟩ = some (.slice sb 6 cb) ∧ w'.cell? ⟨x2, 0, none⟩ = some (.int .i64 1) ∧ w'.cell? ⟨x2, 1, none⟩ = some (.slice ta 1 ct) ∧ w'.cell? ⟨x2, 2, none⟩ = some (.slice tb 3 cu) ∧ w'.cell? ⟨x3, 0, none⟩ = some (.int .i64 1) ∧ w'.cell? ⟨x3, 1, none⟩ = some (.slice pa 1 cp) ∧ w'.cell? ⟨x3, 2, none⟩ = some (.slice pb 3 cq))) ((refine KP.out _ ?_; repeat (first | (with_reducible exact Chg.refl _ _) | (with_reducible assumption) | (with_reducible refine chg_drew' ?_) | (with_reducible refine chg_alloc' ?_) | (with_reducible refine Chg.tr ?_ hq6) | (with_reducible refine Chg.tr ?_ hq5) | (with_reducible refine Chg.tr ?_ hq4) | (with_reducible refine Chg.tr ?_ hq3) | (with_reducible refine Chg.tr ?_ hq2) | (with_reducible refine Chg.tr ?_ hq1)))) (first
    | (go_at_call 31
       (first | (with_reducible refine (HV1.out _).mono ?_) | (with_reducible refine (HW1.out _).mono ?_))
       rintro e9 q1 ⟨u1, rfl, hu1, hq1⟩
       have hu1a := Lib.hid hu1)
    | (go_at_call 30
       with_reducible refine (H1.out _ _ ?_ ?_).mono ?_
       · repeat (first | (with_reducible exact Chg.refl _ _) | (with_reducible assumption) | (with_reducible refine chg_drew' ?_) | (with_reducible refine chg_alloc' ?_) | (with_reducible refine Chg.tr ?_ hq1))
       · first | exact hu1a.out | exact hu1a.out.fr ((Chg.refl _ _).drew)
       rintro e9 q2 ⟨rfl, hq2⟩)
    | (go_at_call 25
       (first | (with_reducible refine (HV2.out _).mono ?_) | (with_reducible refine (HW2.out _).mono ?_))
       rintro e9 q3 ⟨u3, rfl, hu3, hq3⟩
       have hu3a := Lib.hid hu3.ara)
    | (go_at_call 30
       with_reducible refine (H2.out _ _ ?_ ?_).mono ?_
       · repeat (first | (with_reducible exact Chg.refl _ _) | (with_reducible assumption) | (with_reducible refine chg_drew' ?_) | (with_reducible refine chg_alloc' ?_) | (with_reducible refine Chg.tr ?_ hq3) | (with_reducible refine Chg.tr ?_ hq2) | (with_reducible refine Chg.tr ?_ hq1))
       · first | exact hu3a.out | exact hu3a.out.fr ((Chg.refl _ _).drew)
       rintro e9 q4 ⟨rfl, hq4⟩)
    | (go_at_call 25
       (first | (with_reducible refine (HV3.out _).mono ?_) | (with_reducible refine (HW3.out _).mono ?_))
       rintro e9 q5 ⟨u5, rfl, hu5, hq5⟩
       have hu5a := Lib.hid hu5.ara)
    | (go_at_call 30
       with_reducible refine (H3.out _ _ ?_ ?_).mono ?_
       · repeat (first | (with_reducible exact Chg.refl _ _) | (with_reducible assumption) | (with_reducible refine chg_drew' ?_) | (with_reducible refine chg_alloc' ?_) | (with_reducible refine Chg.tr ?_ hq5) | (with_reducible refine Chg.tr ?_ hq4) | (with_reducible refine Chg.tr ?_ hq3) | (with_reducible refine Chg.tr ?_ hq2) | (with_reducible refine Chg.tr ?_ hq1))
       · first | exact hu5a.out | exact hu5a.out.fr ((Chg.refl _ _).drew)
       rintro e9 q6 ⟨rfl, hq6⟩))
  all_goals
    rename_i hHd
    go_wp2
    go_ret
    exact ⟨rfl, HC.out.tr hHd.1⟩
end Go.Proofs.Ytceooipljhjpaaa
