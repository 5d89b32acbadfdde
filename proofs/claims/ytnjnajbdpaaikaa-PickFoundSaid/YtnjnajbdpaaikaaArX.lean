/- The document's way under way: a box of three slices, each the call's own. -/
import Derived.Test.YtnjnajbdpaaikaaArG
namespace Go.Proofs.Ytnjnajbdpaaikaa
open Go.RowKit Go.Shelf

theorem gx_snoc {w2 : World} {base t : Nat} {v2 : Value} {xs : List Int} {x : Int} {n : Nat} (h2 : w2.ownsRow base t 1 v2 n (xs.map I ++ [.int .i64 x])) (hn : n = xs.length + 1) : Own w2 base t v2 (xs ++ [x]) := by
  subst hn
  unfold Own
  rw [List.length_append, List.map_append]
  exact h2
theorem gx_off {w : World} {base t b : Nat} {v : Value} {xs : List Int} (h : Own w base t v xs) (i : Nat) (u : Value) (hb : ∀ q, v.ownBlock = some q → q ≠ b) : Own (w.setCell ⟨b, i, none⟩ u) base t v xs := h.chg (chg_at w b i u) (fun q hq e => hb q hq e)
theorem gx_off3 {w : World} {base t b : Nat} {v : Value} {xs : List Int} (h : Own w base t v xs) (u0 u1 u2 : Value) (hb : ∀ q, v.ownBlock = some q → q ≠ b) : Own (((w.setCell ⟨b, 0, none⟩ u0).setCell ⟨b, 1, none⟩ u1).setCell ⟨b, 2, none⟩ u2) base t v xs :=
  gx_off (gx_off (gx_off h 0 u0 hb) 1 u1 hb) 2 u2 hb
theorem Bx.set0 {W : World} {b : Nat} {v0 v1 v2 : Value} (h : Bx W b v0 v1 v2) (u : Value) : Bx (W.setCell ⟨b, 0, none⟩ u) b u v1 v2 :=
  ⟨World.cell?_setCell_same' _ _ _ (by rw [h.c0]; rfl), by rw [World.cell?_setCell_other _ _ _ _ (by simp)]; exact h.c1, by rw [World.cell?_setCell_other _ _ _ _ (by simp)]; exact h.c2,
   by rw [World.frozen?_setCell]; exact h.f0, by rw [World.frozen?_setCell]; exact h.f1, by rw [World.frozen?_setCell]; exact h.f2⟩
theorem Bx.set1 {W : World} {b : Nat} {v0 v1 v2 : Value} (h : Bx W b v0 v1 v2) (u : Value) : Bx (W.setCell ⟨b, 1, none⟩ u) b v0 u v2 :=
  ⟨by rw [World.cell?_setCell_other _ _ _ _ (by simp)]; exact h.c0, World.cell?_setCell_same' _ _ _ (by rw [h.c1]; rfl), by rw [World.cell?_setCell_other _ _ _ _ (by simp)]; exact h.c2,
   by rw [World.frozen?_setCell]; exact h.f0, by rw [World.frozen?_setCell]; exact h.f1, by rw [World.frozen?_setCell]; exact h.f2⟩
/-- A way of the document's under way, in the box gb. -/
structure Gx (w0 W : World) (base gb : Nat) (vs vo vp : Value) (ss os ps : List Int) : Prop where
  bx : Bx W gb vs vo vp
  s : Own W base 3 vs ss
  o : Own W base 3 vo os
  p : Own W base 3 vp ps
  d1 : ∀ q, vs.ownBlock = some q → ¬ vo.ownBlock = some q
  d2 : ∀ q, vs.ownBlock = some q → ¬ vp.ownBlock = some q
  d3 : ∀ q, vo.ownBlock = some q → ¬ vp.ownBlock = some q
  n1 : ∀ q, vs.ownBlock = some q → q ≠ gb
  n2 : ∀ q, vo.ownBlock = some q → q ≠ gb
  n3 : ∀ q, vp.ownBlock = some q → q ≠ gb
  ch : Chg (fun _ => False) w0 W
  lb : w0.heap.size ≤ base
  lg : w0.heap.size ≤ gb
theorem Gx.fr {w0 W W' : World} {base gb : Nat} {vs vo vp : Value} {ss os ps : List Int} (h : Gx w0 W base gb vs vo vp ss os ps) (hC : Chg (fun _ => False) W W') : Gx w0 W' base gb vs vo vp ss os ps :=
  ⟨h.bx.fr hC, h.s.fr hC, h.o.fr hC, h.p.fr hC, h.d1, h.d2, h.d3, h.n1, h.n2, h.n3, h.ch.tr hC, h.lb, h.lg⟩
theorem Gx.start {w0 w1 : World} {base : Nat} {vs : Value} {s : List Int} (t : TypeId) (h : Own w1 base 3 vs s) (hC : Chg (fun _ => False) w0 w1) (hb : w0.heap.size ≤ base) : Gx w0 (w1.alloc (.cells #[vs, .slice none 0 0, .slice none 0 0] t)) base w1.heap.size vs (.slice none 0 0) (.slice none 0 0) s [] [] where
  bx := Bx.new w1 _ _ _ t
  s := h.alloc _
  o := Own.nil _ _ _
  p := Own.nil _ _ _
  d1 := fun q _ hq => by simp [Value.ownBlock] at hq
  d2 := fun q _ hq => by simp [Value.ownBlock] at hq
  d3 := fun q hq => by simp [Value.ownBlock] at hq
  n1 := fun q hq => by have := (h.lt q hq).2; omega
  n2 := fun q hq => by simp [Value.ownBlock] at hq
  n3 := fun q hq => by simp [Value.ownBlock] at hq
  ch := hC.alloc _
  lb := hb
  lg := hC.size
section
variable {w0 W Wa w2 : World} {base gb : Nat} {vs vo vp v2 : Value} {ss os ps : List Int} {x : Int} {n : Nat}
theorem Gx.put0 (h : Gx w0 W base gb vs vo vp ss os ps) (hA : Chg (fun _ => False) W Wa) (hg : Wa.grownBy w2 vs.ownBlock) (h2 : w2.ownsRow base 3 1 v2 n (ss.map I ++ [.int .i64 x])) (hn : n = ss.length + 1)
    (hO : ∀ k, v2.ownBlock = some k → vs.ownBlock = some k ∨ Wa.heap.size ≤ k) : (w2.cell? ⟨gb, 0, none⟩ = some vs ∧ w2.frozen? ⟨gb, 0, none⟩ = false) ∧ Gx w0 (w2.setCell ⟨gb, 0, none⟩ v2) base gb v2 vo vp (ss ++ [x]) os ps := by
  have X : Chg (fun k => vs.ownBlock = some k) W w2 := (Chg.mono hA (fun _ _ h => h.elim)).grown hg (fun k e => .inl e)
  have hb := h.bx.chg X (fun e => h.n1 _ e rfl)
  have hl := h.bx.lt
  have ha := hA.size
  have n1' : ∀ q, v2.ownBlock = some q → q ≠ gb := fun q hq => by
    rcases hO q hq with e | e
    · exact h.n1 q e
    · omega
  exact ⟨⟨hb.c0, hb.f0⟩, hb.set0 v2, gx_off (gx_snoc h2 hn) 0 v2 n1', gx_off (h.o.chg X (fun q hq e => h.d1 q e hq)) 0 v2 h.n2, gx_off (h.p.chg X (fun q hq e => h.d2 q e hq)) 0 v2 h.n3,
    fun q hq e => by
      rcases hO q hq with f | f
      · exact h.d1 q f e
      · have := (h.o.lt q e).2; omega,
    fun q hq e => by
      rcases hO q hq with f | f
      · exact h.d2 q f e
      · have := (h.p.lt q e).2; omega,
    h.d3, n1', h.n2, h.n3, (h.ch.trans X (fun _ _ h => h) (fun i hi e => by have := (h.s.lt i e).1; have := h.lb; omega)).setCell (p := ⟨gb, 0, none⟩) (.inr h.lg) v2, h.lb, h.lg⟩
theorem Gx.put1 (h : Gx w0 W base gb vs vo vp ss os ps) (hA : Chg (fun _ => False) W Wa) (hg : Wa.grownBy w2 vo.ownBlock) (h2 : w2.ownsRow base 3 1 v2 n (os.map I ++ [.int .i64 x])) (hn : n = os.length + 1)
    (hO : ∀ k, v2.ownBlock = some k → vo.ownBlock = some k ∨ Wa.heap.size ≤ k) : (w2.cell? ⟨gb, 1, none⟩ = some vo ∧ w2.frozen? ⟨gb, 1, none⟩ = false) ∧ Gx w0 (w2.setCell ⟨gb, 1, none⟩ v2) base gb vs v2 vp ss (os ++ [x]) ps := by
  have X : Chg (fun k => vo.ownBlock = some k) W w2 := (Chg.mono hA (fun _ _ h => h.elim)).grown hg (fun k e => .inl e)
  have hb := h.bx.chg X (fun e => h.n2 _ e rfl)
  have hl := h.bx.lt
  have ha := hA.size
  have n1' : ∀ q, v2.ownBlock = some q → q ≠ gb := fun q hq => by
    rcases hO q hq with e | e
    · exact h.n2 q e
    · omega
  exact ⟨⟨hb.c1, hb.f1⟩, hb.set1 v2, gx_off (h.s.chg X (fun q hq e => h.d1 q hq e)) 1 v2 h.n1, gx_off (gx_snoc h2 hn) 1 v2 n1', gx_off (h.p.chg X (fun q hq e => h.d3 q e hq)) 1 v2 h.n3,
    fun q hq e => by
      rcases hO q e with f | f
      · exact h.d1 q hq f
      · have := (h.s.lt q hq).2; omega,
    h.d2,
    fun q hq e => by
      rcases hO q hq with f | f
      · exact h.d3 q f e
      · have := (h.p.lt q e).2; omega,
    h.n1, n1', h.n3, (h.ch.trans X (fun _ _ h => h) (fun i hi e => by have := (h.o.lt i e).1; have := h.lb; omega)).setCell (p := ⟨gb, 1, none⟩) (.inr h.lg) v2, h.lb, h.lg⟩
theorem Gx.put2 (h : Gx w0 W base gb vs vo vp ss os ps) (hA : Chg (fun _ => False) W Wa) (hg : Wa.grownBy w2 vp.ownBlock) (h2 : w2.ownsRow base 3 1 v2 n (ps.map I ++ [.int .i64 x])) (hn : n = ps.length + 1)
    (hO : ∀ k, v2.ownBlock = some k → vp.ownBlock = some k ∨ Wa.heap.size ≤ k) : (w2.cell? ⟨gb, 2, none⟩ = some vp ∧ w2.frozen? ⟨gb, 2, none⟩ = false) ∧ Gx w0 (w2.setCell ⟨gb, 2, none⟩ v2) base gb vs vo v2 ss os (ps ++ [x]) := by
  have X : Chg (fun k => vp.ownBlock = some k) W w2 := (Chg.mono hA (fun _ _ h => h.elim)).grown hg (fun k e => .inl e)
  have hb := h.bx.chg X (fun e => h.n3 _ e rfl)
  have hl := h.bx.lt
  have ha := hA.size
  have n1' : ∀ q, v2.ownBlock = some q → q ≠ gb := fun q hq => by
    rcases hO q hq with e | e
    · exact h.n3 q e
    · omega
  exact ⟨⟨hb.c2, hb.f2⟩, hb.set2 v2, gx_off (h.s.chg X (fun q hq e => h.d2 q hq e)) 2 v2 h.n1, gx_off (h.o.chg X (fun q hq e => h.d3 q hq e)) 2 v2 h.n2, gx_off (gx_snoc h2 hn) 2 v2 n1',
    h.d1,
    fun q hq e => by
      rcases hO q e with f | f
      · exact h.d2 q hq f
      · have := (h.s.lt q hq).2; omega,
    fun q hq e => by
      rcases hO q e with f | f
      · exact h.d3 q hq f
      · have := (h.o.lt q hq).2; omega,
    h.n1, h.n2, n1', (h.ch.trans X (fun _ _ h => h) (fun i hi e => by have := (h.p.lt i e).1; have := h.lb; omega)).setCell (p := ⟨gb, 2, none⟩) (.inr h.lg) v2, h.lb, h.lg⟩
end
/-- The document's way in new memory. -/
def GaveGO (w : World) (W : Wy) (e : Ending) (w' : World) : Prop := ∃ vs vo vp, e = .returned (.tuple #[.agg #[vs, vo, vp], .int .i64 W.n]) ∧ (Own w' w.heap.size 3 vs W.s ∧ Own w' w.heap.size 3 vo (W.g.map (·.1)) ∧ Own w' w.heap.size 3 vp (W.g.map (·.2))) ∧ Chg (fun _ => False) w w'
theorem GaveGO.gave {w w' : World} {W : Wy} {e : Ending} (h : GaveGO w W e w') : GaveG w W e w' := by
  obtain ⟨vs, vo, vp, rfl, ⟨h1, h2, h3⟩, hC⟩ := h
  exact ⟨_, rfl, ⟨vs, vo, vp, rfl, h1.ls, h2.ls, h3.ls⟩, hC⟩
/-- It is handed back, through the box of the result. -/
theorem Gx.leave {w0 W : World} {base gb rb : Nat} {vs vo vp : Value} {ss os ps : List Int} {g : List (Int × Int)} {n : Int} (h : Gx w0 W base gb vs vo vp ss os ps) (hr : w0.heap.size ≤ rb) (hr2 : rb < base) (ho : os = g.map (·.1)) (hp : ps = g.map (·.2)) :
    GaveGO w0 ⟨ss, g, n⟩ (.returned (.tuple #[.agg #[vs, vo, vp], .int .i64 n])) (((W.setCell ⟨rb, 0, none⟩ vs).setCell ⟨rb, 1, none⟩ vo).setCell ⟨rb, 2, none⟩ vp) := by
  subst ho hp
  exact ⟨vs, vo, vp, rfl, ⟨(own_set3 h.s hr2 _ _ _).mono h.lb, (own_set3 h.o hr2 _ _ _).mono h.lb, (own_set3 h.p hr2 _ _ _).mono h.lb⟩, chg_set3 h.ch hr _ _ _⟩
theorem gx_no {w W : World} {rb : Nat} {n : Int} (hr : w.heap.size ≤ rb) (hC : Chg (fun _ => False) w W) :
    GaveGO w (noW n) (.returned (.tuple #[.agg #[.slice none 0 0, .slice none 0 0, .slice none 0 0], .int .i64 n])) (((W.setCell ⟨rb, 0, none⟩ (.slice none 0 0)).setCell ⟨rb, 1, none⟩ (.slice none 0 0)).setCell ⟨rb, 2, none⟩ (.slice none 0 0)) :=
  ⟨_, _, _, rfl, ⟨Own.nil _ _ _, Own.nil _ _ _, Own.nil _ _ _⟩, chg_set3 hC hr _ _ _⟩
theorem gx_no0 {w W : World} {n : Int} (hC : Chg (fun _ => False) w W) : GaveGO w (noW n) (.returned (.tuple #[.agg #[.slice none 0 0, .slice none 0 0, .slice none 0 0], .int .i64 n])) W :=
  ⟨_, _, _, rfl, ⟨Own.nil _ _ _, Own.nil _ _ _, Own.nil _ _ _⟩, hC⟩
/-- Another one's answer, handed on. -/
theorem gx_pass {w w1 W : World} {rb : Nat} {vs vo vp : Value} {Y : Wy} (h1 : Own W w1.heap.size 3 vs Y.s) (h2 : Own W w1.heap.size 3 vo (Y.g.map (·.1))) (h3 : Own W w1.heap.size 3 vp (Y.g.map (·.2))) (hr : w.heap.size ≤ rb) (hr2 : rb < w1.heap.size) (hC : Chg (fun _ => False) w W) :
    GaveGO w Y (.returned (.tuple #[.agg #[vs, vo, vp], .int .i64 Y.n])) (((W.setCell ⟨rb, 0, none⟩ vs).setCell ⟨rb, 1, none⟩ vo).setCell ⟨rb, 2, none⟩ vp) :=
  ⟨vs, vo, vp, rfl, ⟨(own_set3 h1 hr2 _ _ _).mono (by omega), (own_set3 h2 hr2 _ _ _).mono (by omega), (own_set3 h3 hr2 _ _ _).mono (by omega)⟩, chg_set3 hC hr _ _ _⟩
theorem Gx.up {w0 w1 W : World} {base gb : Nat} {vs vo vp : Value} {ss os ps : List Int} (h : Gx w1 W base gb vs vo vp ss os ps) (hC : Chg (fun _ => False) w0 w1) : Gx w0 W base gb vs vo vp ss os ps :=
  ⟨h.bx, h.s, h.o, h.p, h.d1, h.d2, h.d3, h.n1, h.n2, h.n3, hC.tr h.ch, Nat.le_trans hC.size h.lb, Nat.le_trans hC.size h.lg⟩
theorem le_al {w : World} {b : Nat} (h : b ≤ w.heap.size) (o : Obj) : b ≤ (w.alloc o).heap.size := by simp; omega
theorem le_ald {w : World} {b : Nat} (h : b ≤ w.heap.size) (o : Obj) : b ≤ (w.alloc o).drew.heap.size := by simp; omega
theorem le_dal {w : World} {b : Nat} (h : b ≤ w.heap.size) (o : Obj) : b ≤ (w.drew.alloc o).heap.size := by simp; omega
theorem app_fit {n : Nat} (h : n ≤ 1000000) : n + 1 ≤ maxLen ∧ (n + 1) * 8 ≤ 140737488355328 := by unfold maxLen; omega
theorem lsx_set {w : World} {b o n c : Nat} {xs : List Int} (h : Ls w (.slice (some ⟨b, o, none⟩) n c) xs) (j : Nat) (y : Int) : Ls (w.setCell ⟨b, o + j, none⟩ (.int .i64 y)) (.slice (some ⟨b, o, none⟩) n c) (xs.set j y) := by
  have hl : ((xs.set j y).map I).length = (xs.map I).length := by simp
  refine ⟨?_, fun i u hu => ?_⟩
  · obtain ⟨ao, c', e, h1, h2, h3⟩ := Sl.form h
    exact ⟨ao, c', by rw [hl]; exact e, by rw [hl]; exact h1, h2, h3⟩
  · have hi : i < xs.length := by have := (List.getElem?_eq_some_iff.1 hu).1; simpa using this
    obtain ⟨b', o', c', e, hc⟩ := Sl.cells h i (I xs[i]) (by simp [hi])
    rw [hl]
    refine ⟨b', o', c', e, ?_⟩
    injection e with e _ _
    injection e with e
    injection e with e1 e2 _
    subst e1 e2
    rw [List.getElem?_map, List.getElem?_set] at hu
    by_cases hij : j = i
    · subst hij
      rw [if_pos rfl, if_pos hi] at hu
      have := Option.some.inj hu
      subst this
      exact World.cell?_setCell_same' _ _ _ (by rw [hc]; rfl)
    · rw [if_neg hij, List.getElem?_eq_getElem hi] at hu
      have := Option.some.inj hu
      subst this
      rw [World.cell?_setCell_other _ _ _ _ (by simp only [ne_eq, Addr.mk.injEq]; omega)]
      exact hc
/-- Two lists of the call's own. -/
structure Two (w0 W : World) (base : Nat) (v1 v2 : Value) (xs ys : List Int) : Prop where
  o1 : Own W base 3 v1 xs
  o2 : Own W base 3 v2 ys
  d : ∀ q, v1.ownBlock = some q → ¬ v2.ownBlock = some q
  ch : Chg (fun _ => False) w0 W
  lb : w0.heap.size ≤ base
theorem Two.zero {w0 : World} : Two w0 w0 w0.heap.size (.slice none 0 0) (.slice none 0 0) [] [] := ⟨Own.nil _ _ _, Own.nil _ _ _, fun q hq => by simp [Value.ownBlock] at hq, Chg.refl _ _, Nat.le_refl _⟩
section
variable {w0 W Wa w2 : World} {base : Nat} {v1 v2 v : Value} {xs ys : List Int} {x : Int} {n : Nat}
theorem Two.one (h : Two w0 W base v1 v2 xs ys) (hA : Chg (fun _ => False) W Wa) (hg : Wa.grownBy w2 v1.ownBlock) (h2 : w2.ownsRow base 3 1 v n (xs.map I ++ [.int .i64 x])) (hn : n = xs.length + 1)
    (hO : ∀ k, v.ownBlock = some k → v1.ownBlock = some k ∨ Wa.heap.size ≤ k) : Two w0 w2 base v v2 (xs ++ [x]) ys := by
  have X : Chg (fun k => v1.ownBlock = some k) W w2 := (Chg.mono hA (fun _ _ h => h.elim)).grown hg (fun k e => .inl e)
  have ha := hA.size
  exact ⟨gx_snoc h2 hn, h.o2.chg X (fun q hq e => h.d q e hq),
    fun q hq e => by
      rcases hO q hq with f | f
      · exact h.d q f e
      · have := (h.o2.lt q e).2; omega,
    h.ch.trans X (fun _ _ h => h) (fun i hi e => by have := (h.o1.lt i e).1; have := h.lb; omega), h.lb⟩
theorem Two.two (h : Two w0 W base v1 v2 xs ys) (hA : Chg (fun _ => False) W Wa) (hg : Wa.grownBy w2 v2.ownBlock) (h2 : w2.ownsRow base 3 1 v n (ys.map I ++ [.int .i64 x])) (hn : n = ys.length + 1)
    (hO : ∀ k, v.ownBlock = some k → v2.ownBlock = some k ∨ Wa.heap.size ≤ k) : Two w0 w2 base v1 v xs (ys ++ [x]) := by
  have X : Chg (fun k => v2.ownBlock = some k) W w2 := (Chg.mono hA (fun _ _ h => h.elim)).grown hg (fun k e => .inl e)
  have ha := hA.size
  exact ⟨h.o1.chg X (fun q hq e => h.d q hq e), gx_snoc h2 hn,
    fun q hq e => by
      rcases hO q e with f | f
      · exact h.d q hq f
      · have := (h.o1.lt q hq).2; omega,
    h.ch.trans X (fun _ _ h => h) (fun i hi e => by have := (h.o2.lt i e).1; have := h.lb; omega), h.lb⟩
end
/-- A list to whose first ones others are added. -/
def addT (xs fr : List Int) (q : Nat) : List Int := (List.zipWith (· + ·) xs fr).take q ++ xs.drop q
theorem addT_zero (xs fr : List Int) : addT xs fr 0 = xs := by simp [addT]
theorem addT_len {xs fr : List Int} (h : fr.length = xs.length) {q : Nat} (hq : q ≤ xs.length) : (addT xs fr q).length = xs.length := by
  simp [addT, h]
  omega
theorem addT_full {xs fr : List Int} (_ : fr.length = xs.length) : addT xs fr xs.length = List.zipWith (· + ·) xs fr := by
  unfold addT
  rw [List.drop_length, List.append_nil, List.take_of_length_le (by rw [List.length_zipWith]; exact Nat.min_le_left _ _)]
theorem addT_get {xs fr : List Int} (h : fr.length = xs.length) {q : Nat} (hq : q < xs.length) (h2 : q < (addT xs fr q).length) : (addT xs fr q)[q] = xs[q] := by
  have e : (addT xs fr q)[q]? = some xs[q] := by
    unfold addT
    have hl : ((List.zipWith (· + ·) xs fr).take q).length = q := by simp; omega
    rw [List.getElem?_append_right (by rw [hl]; exact Nat.le_refl _), hl, Nat.sub_self, List.getElem?_drop, Nat.add_zero, List.getElem?_eq_getElem hq]
  exact (List.getElem?_eq_some_iff.1 e).2
theorem addT_next {xs fr : List Int} (h : fr.length = xs.length) {q : Nat} (hq : q < xs.length) : addT xs fr (q + 1) = (addT xs fr q).set q (xs[q] + fr[q]) := by
  unfold addT
  have hz : q < (List.zipWith (· + ·) xs fr).length := by simp; omega
  have hl : ((List.zipWith (· + ·) xs fr).take q).length = q := by simp; omega
  rw [List.set_append_right _ _ (by rw [hl]; exact Nat.le_refl _), hl, Nat.sub_self, List.drop_eq_getElem_cons hq, List.set_cons_zero, List.take_succ_eq_append_getElem hz]
  simp
def tabW (n : Nat) (f : Nat → Int × Int) : List (Int × Int) := (List.range n).map f
theorem tabW_length (n : Nat) (f : Nat → Int × Int) : (tabW n f).length = n := by simp [tabW]
theorem tabW_succ (j : Nat) (f : Nat → Int × Int) : tabW (j + 1) f = tabW j f ++ [f j] := by simp [tabW, List.range_succ]
theorem tabW_1 (j : Nat) (f : Nat → Int × Int) : (tabW (j + 1) f).map (·.1) = (tabW j f).map (·.1) ++ [(f j).1] := by rw [tabW_succ, List.map_append]; rfl
theorem tabW_2 (j : Nat) (f : Nat → Int × Int) : (tabW (j + 1) f).map (·.2) = (tabW j f).map (·.2) ++ [(f j).2] := by rw [tabW_succ, List.map_append]; rfl
end Go.Proofs.Ytnjnajbdpaaikaa
