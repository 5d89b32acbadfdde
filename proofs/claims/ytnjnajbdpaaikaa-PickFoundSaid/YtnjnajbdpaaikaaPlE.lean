/- pick: what is picked. -/
import Derived.Test.YtnjnajbdpaaikaaPlD
import Derived.Deep.RegionHeld3
namespace Go.Proofs.Ytnjnajbdpaaikaa
open Go.RowKit Go.Shelf

def flatP (R : List (Px × Value)) : List Value := R.flatMap (fun p => [.int .i64 p.1.l, .bool p.1.all, p.2])
theorem flatP_snoc (R : List (Px × Value)) (p : Px × Value) : flatP (R ++ [p]) = flatP R ++ [.int .i64 p.1.l, .bool p.1.all, p.2] := by simp [flatP]
theorem flatP_length (R : List (Px × Value)) : (flatP R).length = R.length * 3 := by
  induction R with
  | nil => rfl
  | cons p r ih =>
    unfold flatP at ih ⊢
    rw [List.flatMap_cons, List.length_append, ih, List.length_cons]
    simp
    omega
theorem flatP_at : ∀ (R : List (Px × Value)) (j i : Nat) (h : j < R.length), i < 3 → (flatP R)[j * 3 + i]? = ([.int .i64 (R[j]).1.l, .bool (R[j]).1.all, (R[j]).2] : List Value)[i]?
  | p :: r, 0, i, _, hi => by
    rw [flatP, List.flatMap_cons, List.getElem?_append_left (by simp; omega)]
    simp
  | p :: r, j + 1, i, h, hi => by
    rw [flatP, List.flatMap_cons, List.getElem?_append_right (by simp; omega)]
    have := flatP_at r j i (by simpa using h) hi
    rw [flatP] at this
    rw [show (j + 1) * 3 + i - ([.int .i64 p.1.l, .bool p.1.all, p.2] : List Value).length = j * 3 + i by simp; omega, this]
    simp
/-- The program's axes in memory from 'base' on, each with its places. -/
structure OwnP (W : World) (base : Nat) (v : Value) (R : List (Px × Value)) : Prop where
  row : W.ownsRow base 102 3 v R.length (flatP R)
  each : ∀ p ∈ R, Own W base 2 p.2 p.1.e
theorem OwnP.nil (W : World) (base : Nat) : OwnP W base (.slice none 0 0) [] := ⟨World.ownsRow_nil W base 102 3, fun p hp => by cases hp⟩
theorem OwnP.lt {w : World} {base : Nat} {v : Value} {R : List (Px × Value)} (h : OwnP w base v R) : ∀ k, v.ownBlock = some k → base ≤ k ∧ k < w.heap.size := fun k hk => World.ownsRow.lt h.row k hk
theorem OwnP.fr {w w' : World} {base : Nat} {v : Value} {R : List (Px × Value)} (h : OwnP w base v R) (hC : Chg (fun _ => False) w w') : OwnP w' base v R := ⟨hC.owns h.row (fun _ _ => id), fun p hp => (h.each p hp).fr hC⟩
theorem OwnP.pxs {W : World} {base : Nat} {v : Value} {R : List (Px × Value)} (h : OwnP W base v R) : Pxs W v (R.map Prod.fst) := by
  rcases h.row.2 with ⟨rfl, h0⟩ | ⟨g, cap, cur, rfl, _⟩
  · have : R = [] := List.eq_nil_of_length_eq_zero h0
    subst this
    exact ⟨⟨none, 0, rfl⟩, fun j hj => (by simp at hj)⟩
  · refine ⟨⟨_, _, by rw [List.length_map]⟩, fun j hj => ⟨g, 0, cap, by rw [List.length_map], ?_⟩⟩
    have hj2 : j < R.length := by simpa using hj
    have q (i : Nat) (u : Value) (hi : i < 3) (hu : ([.int .i64 (R[j]).1.l, .bool (R[j]).1.all, (R[j]).2] : List Value)[i]? = some u) : W.cell? ⟨g, 0 + j * 3 + i, none⟩ = some u := by
      have hc := h.row.cells (g := g) rfl (j * 3 + i) u ((flatP_at R j i hj2 hi).trans hu)
      rw [Addr.add_lit] at hc
      rw [← hc]
      congr 2
      omega
    rw [List.getElem_map]
    exact ⟨(R[j]).2, ⟨q 0 _ (by omega) rfl, q 1 _ (by omega) rfl, q 2 _ (by omega) rfl⟩, (h.each _ (List.getElem_mem hj2)).ls⟩
/-- Rows of two types do not lie in one block. -/
theorem rows_apart {w : World} {b1 b2 e1 e2 z1 z2 n1 n2 : Nat} {v1 v2 : Value} {xs ys : List Value} (h1 : w.ownsRow b1 e1 z1 v1 n1 xs) (h2 : w.ownsRow b2 e2 z2 v2 n2 ys) (hne : e1 ≠ e2) : ∀ q, v1.ownBlock = some q → ¬ v2.ownBlock = some q := by
  intro q hq hq2
  rcases h1.2 with ⟨rfl, _⟩ | ⟨g, cap, cur, rfl, _, hg, _⟩
  · simp [Value.ownBlock] at hq
  · rcases h2.2 with ⟨rfl, _⟩ | ⟨g', cap', cur', rfl, _, hg', _⟩
    · simp [Value.ownBlock] at hq2
    · have e1 : g = q := by simpa [Value.ownBlock] using hq
      have e2 : g' = q := by simpa [Value.ownBlock] using hq2
      subst e1
      subst e2
      rw [hg] at hg'
      cases hg'
      exact hne rfl
theorem info_axis : (Try.prog.info? 102).map (fun i => (i.zero, i.size, i.bytes)) = some (some (.agg #[.int .i64 0, .bool false, .slice none 0 0]), 3, 40) := by kernel_rfl
theorem ixS_snoc : ∀ {s : List Int} {L : List Ax} (l : Int) (x : Ax), L.length = s.length → ixS (s ++ [l]) (L ++ [x]) = ixS s L ++ shp l x
  | [], [], l, x, _ => by simp [ixS]
  | m :: s, [], _, _, h => by simp at h
  | [], y :: r, _, _, h => by simp at h
  | m :: s, y :: r, l, x, h => by
    rw [List.cons_append, List.cons_append, ixS, ixS, ixS_snoc l x (by simpa using h), List.append_assoc]
theorem pxL_snoc : ∀ {s : List Int} {L : List Ax} (l : Int) (x : Ax), L.length = s.length → pxL (s ++ [l]) (L ++ [x]) = pxL s L ++ [⟨l, x.all, x.a.e⟩]
  | [], [], l, x, _ => by simp [pxL]
  | m :: s, [], _, _, h => by simp at h
  | [], y :: r, _, _, h => by simp at h
  | m :: s, y :: r, l, x, h => by
    rw [List.cons_append, List.cons_append, pxL, pxL, pxL_snoc l x (by simpa using h), List.cons_append]
def isCh (x : Ax) : Bool := !x.all && decide (x.a.k = 2)
def pkE (s : List Int) (L : List Ax) : Int := if L.length = s.length then (if L.any isCh then 5 else 0) else 3
def GavePk (w : World) (s : List Int) (L : List Ax) (e : Ending) (w' : World) : Prop := ∃ v4 v5, e = .returned (.tuple #[v4, v5, .int .i64 (pkE s L)]) ∧ (pkE s L = 0 → (∃ R, R.map Prod.fst = pxL s L ∧ OwnP w' w.heap.size v4 R) ∧ Own w' w.heap.size 3 v5 (ixS s L)) ∧ (pkE s L ≠ 0 → v4 = .slice none 0 0 ∧ v5 = .slice none 0 0) ∧ Chg (fun _ => False) w w'
theorem pk_no {w W : World} {s : List Int} {L : List Ax} {n : Int} (h : pkE s L = n) (hn : n ≠ 0) (hC : Chg (fun _ => False) w W) : GavePk w s L (.returned (.tuple #[.slice none 0 0, .slice none 0 0, .int .i64 n])) W :=
  ⟨_, _, by rw [h], fun e => absurd (h.symm.trans e) hn, fun _ => ⟨rfl, rfl⟩, hC⟩
/-- Behind some axes. -/
structure PkI (w wr : World) (s : List Int) (L : List Ax) (j : Nat) (v4 v5 : Value) (R : List (Px × Value)) (T : List Int) : Prop where
  r : R.map Prod.fst = pxL (s.take j) (L.take j)
  t : T = ixS (s.take j) (L.take j)
  o4 : OwnP wr w.heap.size v4 R
  o5 : Own wr w.heap.size 3 v5 T
  ch : (L.take j).any isCh = false
  c : Chg (fun _ => False) w wr
theorem PkI.len {w wr : World} {s : List Int} {L : List Ax} {j : Nat} {v4 v5 : Value} {R : List (Px × Value)} {T : List Int} (h : PkI w wr s L j v4 v5 R T) (hl : L.length = s.length) (hj : j ≤ s.length) : R.length = j := by
  have := congrArg List.length h.r
  rw [List.length_map, pxL_length (by rw [List.length_take, List.length_take]; omega), List.length_take] at this
  omega
/-- The shape more long. -/
theorem PkI.more5 {w wr wa w2 : World} {s : List Int} {L : List Ax} {j : Nat} {v4 v5 v : Value} {R : List (Px × Value)} {T X : List Int} {n : Nat} (h : PkI w wr s L j v4 v5 R T) (hA : Chg (fun _ => False) wr wa) (hg : wa.grownBy w2 v5.ownBlock) (h2 : w2.ownsRow w.heap.size 3 1 v n (T.map I ++ X.map I)) (hn : n = T.length + X.length) :
    Own w2 w.heap.size 3 v (T ++ X) ∧ OwnP w2 w.heap.size v4 R ∧ Chg (fun _ => False) w w2 ∧ Chg (fun q => v5.ownBlock = some q) wr w2 := by
  have X5 : Chg (fun q => v5.ownBlock = some q) wr w2 := (Chg.mono hA (fun _ _ h => h.elim)).grown hg (fun k e => .inl e)
  refine ⟨?_, ⟨X5.owns h.o4.row (fun k hk => rows_apart h.o4.row h.o5 (by decide) k hk), fun p hp => (h.o4.each p hp).chg X5 (fun k hk => rows_apart (h.o4.each p hp) h.o5 (by decide) k hk)⟩, h.c.trans X5 (fun _ _ h => h) (fun i hi e => by have := (h.o5.lt i e).1; omega), X5⟩
  subst hn
  unfold Own
  rw [List.length_append, List.map_append]
  exact h2
/-- An axis more. -/
theorem more4 {w wr wa w2 : World} {v4 v5 v u : Value} {R : List (Px × Value)} {T : List Int} {p : Px} {n : Nat} (o4 : OwnP wr w.heap.size v4 R) (o5 : Own wr w.heap.size 3 v5 T) (hc : Chg (fun _ => False) w wr) (hA : Chg (fun _ => False) wr wa) (hu : Own wa w.heap.size 2 u p.e) (hg : wa.grownBy w2 v4.ownBlock)
    (h2 : w2.ownsRow w.heap.size 102 3 v n (flatP R ++ [.int .i64 p.l, .bool p.all, u])) (hn : n = R.length + 1) :
    OwnP w2 w.heap.size v (R ++ [(p, u)]) ∧ Own w2 w.heap.size 3 v5 T ∧ Chg (fun _ => False) w w2 ∧ Chg (fun q => v4.ownBlock = some q) wr w2 := by
  have Xa : Chg (fun q => v4.ownBlock = some q) wa w2 := (Chg.refl _ wa).grown hg (fun k e => .inl e)
  have X4 : Chg (fun q => v4.ownBlock = some q) wr w2 := (Chg.mono hA (fun _ _ h => h.elim)).trans Xa (fun _ _ h => h) (fun _ _ h => h)
  refine ⟨⟨?_, fun q hq => ?_⟩, o5.chg X4 (fun k hk e => rows_apart o4.row o5 (by decide) k e hk), hc.trans X4 (fun _ _ h => h) (fun i hi e => by have := (o4.lt i e).1; omega), X4⟩
  · subst hn
    rw [List.length_append, flatP_snoc]
    exact h2
  · rcases List.mem_append.1 hq with hq | hq
    · exact (o4.each q hq).chg X4 (fun k hk e => rows_apart o4.row (o4.each q hq) (by decide) k e hk)
    · rw [List.mem_singleton.1 hq]
      exact hu.chg Xa (fun k hk e => rows_apart (o4.fr hA).row hu (by decide) k e hk)
end Go.Proofs.Ytnjnajbdpaaikaa
