/- An owned list of which one number is turned. -/
import Derived.Test.YtnjnajbdpaaikaaArX
import Derived.Test.YtnjnajbdpaaikaaArI
namespace Go.Proofs.Ytnjnajbdpaaikaa
open Go.RowKit Go.Shelf

theorem own_ptr {w : World} {base t : Nat} {v : Value} {xs : List Int} (h : Own w base t v xs) (hx : 0 < xs.length) : ∃ g c, v = .slice (some ⟨g, 0, none⟩) xs.length c ∧ base ≤ g ∧ g < w.heap.size := by
  rcases h.2 with ⟨_, h0⟩ | ⟨g, cap, cur, e, hb, hg, _⟩
  · rw [h0] at hx
    exact absurd hx (Nat.lt_irrefl 0)
  · exact ⟨g, cap, e, hb, (Array.getElem?_eq_some_iff.1 hg).1⟩
theorem own_put {w : World} {base t g n c : Nat} {xs : List Int} (h : Own w base t (.slice (some ⟨g, 0, none⟩) n c) xs) (j : Nat) (y : Int) : Own (w.setCell ⟨g, j, none⟩ (.int .i64 y)) base t (.slice (some ⟨g, 0, none⟩) n c) (xs.set j y) := by
  refine ⟨by simp, ?_⟩
  rcases h.2 with ⟨h0, _⟩ | ⟨g', cap, cur, e, hb, hg, hn, hm, hs, ht⟩
  · cases h0
  · injection e with e1 e2 e3
    injection e1 with e1
    injection e1 with e1 _ _
    subst e1
    refine .inr ⟨g, cap, _, by rw [e2, e3]; simp, hb, heap_setCell_same w g j _ _ _ hg, by simpa using hn, hm, ?_, ?_⟩
    · simp [hs]
    · rw [List.length_set, Array.toList_setIfInBounds, List.take_set, ht, List.map_set]
      rfl
theorem own_cell {w : World} {base t g n c : Nat} {xs : List Int} (h : Own w base t (.slice (some ⟨g, 0, none⟩) n c) xs) {j : Nat} (hj : j < xs.length) : w.cell? ⟨g, j, none⟩ = some (.int .i64 xs[j]) ∧ w.frozen? ⟨g, j, none⟩ = false := by
  obtain ⟨b, o, c', x, e, hc, hf⟩ := Wrt.of h j hj
  injection e with e1 e2 e3
  injection e1 with e1
  injection e1 with e1 e4 _
  subst e1 e4
  rw [Nat.zero_add] at hc hf
  obtain ⟨b, o, c', e, hc'⟩ := h.ls.at hj
  injection e with e1 e2 e3
  injection e1 with e1
  injection e1 with e1 e4 _
  subst e1 e4
  rw [Nat.zero_add] at hc'
  exact ⟨hc', hf⟩
theorem own_away {w : World} {base t b : Nat} {v : Value} {xs : List Int} (h : Own w base t v xs) (i : Nat) (u : Value) (hb : ¬ v.ownBlock = some b) : Own (w.setCell ⟨b, i, none⟩ u) base t v xs := h.chg (chg_at w b i u) (fun q hq e => hb (by rw [hq, e]))
/-- A number of the shape is turned. -/
theorem Gx.putS {w0 W : World} {base gb g n c : Nat} {vo vp : Value} {ss os ps : List Int} (h : Gx w0 W base gb (.slice (some ⟨g, 0, none⟩) n c) vo vp ss os ps) (j : Nat) (y : Int) : Gx w0 (W.setCell ⟨g, j, none⟩ (.int .i64 y)) base gb (.slice (some ⟨g, 0, none⟩) n c) vo vp (ss.set j y) os ps := by
  have hne : g ≠ gb := h.n1 g rfl
  have hC : Chg (fun k => k = g) W (W.setCell ⟨g, j, none⟩ (.int .i64 y)) := chg_at W g j _
  exact ⟨h.bx.chg hC (fun e => hne e.symm), own_put h.s j y, own_away h.o j _ (h.d1 g rfl), own_away h.p j _ (h.d2 g rfl), h.d1, h.d2, h.d3, h.n1, h.n2, h.n3,
    h.ch.setCell (p := ⟨g, j, none⟩) (.inr (Nat.le_trans h.lb (h.s.lt g rfl).1)) _, h.lb, h.lg⟩
theorem Two.fr {w0 W W' : World} {base : Nat} {v1 v2 : Value} {xs ys : List Int} (h : Two w0 W base v1 v2 xs ys) (hC : Chg (fun _ => False) W W') : Two w0 W' base v1 v2 xs ys :=
  ⟨h.o1.fr hC, h.o2.fr hC, h.d, h.ch.tr hC, h.lb⟩
end Go.Proofs.Ytnjnajbdpaaikaa
