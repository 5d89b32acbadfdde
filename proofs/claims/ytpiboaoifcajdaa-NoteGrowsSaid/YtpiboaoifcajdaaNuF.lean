/- Rows of the call's own, each in memory of its own, and what becomes of them. -/
import Derived.Test.YtpiboaoifcajdaaNuE
namespace Go.Proofs.Ytpiboaoifcajdaa
open Go.RowKit Go.Shelf

structure OwnR (W : World) (B0 : Nat) (us : List Value) (ps : List (List UInt8)) : Prop where
  len : us.length = ps.length
  row : ∀ (j : Nat) u xs, us[j]? = some u → ps[j]? = some xs → W.ownsRow B0 5 1 u xs.length (xs.map B)
  apart : ∀ (i j : Nat) u u', us[i]? = some u → us[j]? = some u' → i ≠ j → ∀ q, u.ownBlock = some q → u'.ownBlock ≠ some q
theorem OwnR.nil (W : World) (B0 : Nat) : OwnR W B0 [] [] := ⟨rfl, fun j u xs h => by simp at h, fun i j u u' h => by simp at h⟩
theorem OwnR.lt {W : World} {B0 : Nat} {us : List Value} {ps : List (List UInt8)} (h : OwnR W B0 us ps) {u : Value} (hu : u ∈ us) {q : Nat} (hq : u.ownBlock = some q) : B0 ≤ q ∧ q < W.heap.size := by
  obtain ⟨j, hj, rfl⟩ := List.getElem_of_mem hu
  have h2 : j < ps.length := by have := h.len; omega
  exact (h.row j _ _ (List.getElem?_eq_getElem hj) (List.getElem?_eq_getElem h2)).lt q hq
theorem get_snoc {α : Type} {l : List α} {x u : α} {j : Nat} (h : (l ++ [x])[j]? = some u) : (j < l.length ∧ l[j]? = some u) ∨ (j = l.length ∧ x = u) := by
  by_cases hj : j < l.length
  · rw [List.getElem?_append_left hj] at h; exact .inl ⟨hj, h⟩
  · rw [List.getElem?_append_right (by omega)] at h
    have h0 : j - l.length = 0 := by
      rcases Nat.eq_zero_or_pos (j - l.length) with e | e
      · exact e
      · rw [List.getElem?_eq_none (by simp; omega)] at h; cases h
    rw [h0] at h
    exact .inr ⟨by omega, by simpa using h⟩
/-- One row more. -/
theorem OwnR.more {wr wa w2 wb w3 : World} {B0 : Nat} {us : List Value} {ps : List (List UInt8)} {xs : List UInt8} {v9 v9' v2 : Value} (r : OwnR wr B0 us ps) (ap : ∀ u ∈ us, ∀ q, u.ownBlock = some q → v9.ownBlock ≠ some q)
    (b9 : ∀ q, v9.ownBlock = some q → q < wr.heap.size) (h1 : Chg (fun _ => False) wr wa) (g1 : wa.grownBy w2 (some wr.heap.size)) (h2 : Chg (fun _ => False) w2 wb) (g2 : wb.grownBy w3 v9.ownBlock)
    (o2 : w2.ownsRow B0 5 1 v2 xs.length (xs.map B)) (b2 : ∀ q, v2.ownBlock = some q → wr.heap.size ≤ q) (b9' : ∀ q, v9'.ownBlock = some q → v9.ownBlock = some q ∨ wb.heap.size ≤ q) :
    OwnR w3 B0 (us ++ [v2]) (ps ++ [xs]) ∧ (∀ u ∈ us ++ [v2], ∀ q, u.ownBlock = some q → v9'.ownBlock ≠ some q) := by
  have c1 : Chg (fun q => q = wr.heap.size) wa w2 := (Chg.refl _ _).grown g1 (fun k e => .inl (by cases e; rfl))
  have c2 : Chg (fun q => v9.ownBlock = some q) wb w3 := (Chg.refl _ _).grown g2 (fun k e => .inl e)
  have cA : Chg (fun q => q = wr.heap.size ∨ v9.ownBlock = some q) wr w3 := ((h1.trans c1 (T := fun q => q = wr.heap.size) (fun _ _ h => h.elim) (fun _ _ h => h)).trans h2 (T := fun q => q = wr.heap.size) (fun _ _ h => h) (fun _ _ h => h.elim)).trans c2 (fun _ _ h => .inl h) (fun _ _ h => .inr h)
  have cB : Chg (fun q => v9.ownBlock = some q) w2 w3 := h2.trans c2 (fun _ _ h => h.elim) (fun _ _ h => h)
  have lt2 := fun q (h : v2.ownBlock = some q) => (o2.lt q h).2
  have hz : w2.heap.size ≤ wb.heap.size := h2.size
  have hlt := fun u (hu : u ∈ us) q (hq : u.ownBlock = some q) => (r.lt hu hq).2
  have hsz : wr.heap.size ≤ wb.heap.size := Nat.le_trans h1.size (Nat.le_trans c1.size hz)
  refine ⟨⟨by rw [List.length_append, List.length_append, r.len]; rfl, ?_, ?_⟩, ?_⟩
  · intro j u ys hu hy
    rcases get_snoc hu with ⟨hj, hu⟩ | ⟨hj, rfl⟩
    · rcases get_snoc hy with ⟨_, hy⟩ | ⟨hj2, _⟩
      · refine cA.owns (r.row j u ys hu hy) (fun k hk e => ?_)
        have hm := List.mem_of_getElem? hu
        rcases e with e | e
        · have := hlt u hm k hk; omega
        · exact ap u hm k hk e
      · have := r.len; omega
    · rcases get_snoc hy with ⟨hj2, _⟩ | ⟨_, rfl⟩
      · have := r.len; omega
      · exact cB.owns o2 (fun k hk e => by have := b2 k hk; have := b9 k e; omega)
  · intro i j u u' hu hu' hij q hq
    rcases get_snoc hu with ⟨_, hu⟩ | ⟨hi, rfl⟩
    · rcases get_snoc hu' with ⟨_, hu'⟩ | ⟨_, rfl⟩
      · exact r.apart i j u u' hu hu' hij q hq
      · intro e
        have := b2 q e
        have := hlt u (List.mem_of_getElem? hu) q hq
        omega
    · rcases get_snoc hu' with ⟨_, hu'⟩ | ⟨hj, rfl⟩
      · intro e
        have := b2 q hq
        have := hlt u' (List.mem_of_getElem? hu') q e
        omega
      · omega
  · intro u hu q hq e
    rcases List.mem_append.1 hu with hu | hu
    · rcases b9' q e with e | e
      · exact ap u hu q hq e
      · have := hlt u hu q hq; omega
    · rw [List.mem_singleton] at hu
      subst hu
      have h5 := lt2 q hq
      have h6 := b2 q hq
      rcases b9' q e with e | e
      · have := b9 q e; omega
      · omega
theorem OwnR.pay {W : World} {B0 : Nat} {us : List Value} {ps : List (List UInt8)} {v : Value} {n : Nat} (h : OwnR W B0 us ps) (ho : W.ownsRow B0 24 1 v n us) : Pay W v ps :=
  ⟨us, Sl.of_owns ho, h.len, fun j u xs hu hx => Sl.of_owns (h.row j u xs hu hx)⟩
/-- Bytes that may be written. -/
def Wrt8 (w : World) (v : Value) (n : Nat) : Prop := ∀ j, j < n → ∃ b o c x, v = .slice (some ⟨b, o, none⟩) n c ∧ w.cell? ⟨b, o + j, none⟩ = some (.int .u8 x) ∧ w.frozen? ⟨b, o + j, none⟩ = false
theorem Wrt8.of {w : World} {base t : Nat} {v : Value} {xs : List UInt8} (h : w.ownsRow base t 1 v xs.length (xs.map B)) : Wrt8 w v xs.length := by
  intro j hj
  obtain ⟨b, o, c, e, hc⟩ := (Sl.of_owns h).cells j _ (List.getElem?_eq_getElem (by simpa using hj))
  rw [List.getElem_map] at hc
  rw [List.length_map] at e
  refine ⟨b, o, c, _, e, hc, ?_⟩
  rcases h.2 with ⟨h0, h1⟩ | ⟨g, cap, cur, h0, _, hg, _⟩
  · omega
  · rw [h0] at e
    injection e with e _ _
    injection e with e
    injection e with e e2 _
    subst e e2
    unfold World.frozen?
    simp only
    rw [hg]
    simp
theorem Wrt8.chg {S : Nat → Prop} {w w' : World} {v : Value} {n : Nat} (h : Wrt8 w v n) (hC : Chg S w w') (hn : ∀ k, v.ownBlock = some k → ¬ S k) : Wrt8 w' v n := by
  intro j hj
  obtain ⟨b, o, c, x, e, hc, hf⟩ := h j hj
  have hb : ¬ S b := hn b (by rw [e]; rfl)
  exact ⟨b, o, c, x, e, hC.cell hc hb, hC.frozen hc hf hb⟩
theorem Wrt8.set {w : World} {v : Value} {n : Nat} (h : Wrt8 w v n) (p : Addr) (y : Int) : Wrt8 (w.setCell p (.int .u8 y)) v n := by
  intro j hj
  obtain ⟨b, o, c, x, e, hc, hf⟩ := h j hj
  by_cases hp : p = ⟨b, o + j, none⟩
  · subst hp
    exact ⟨b, o, c, y, e, World.cell?_setCell_same' _ _ _ (by rw [hc]; rfl), by rw [World.frozen?_setCell]; exact hf⟩
  · exact ⟨b, o, c, x, e, by rw [World.cell?_setCell_other _ _ _ _ hp]; exact hc, by rw [World.frozen?_setCell]; exact hf⟩
/-- The blocks of rows. -/
def RowsB (us : List Value) (q : Nat) : Prop := ∃ u ∈ us, u.ownBlock = some q
end Go.Proofs.Ytpiboaoifcajdaa
