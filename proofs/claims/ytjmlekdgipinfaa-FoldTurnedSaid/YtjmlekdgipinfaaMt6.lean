/- Ways, and what goes them. -/
import Derived.Test.YtjmlekdgipinfaaMt5
import Derived.Deep.RegionHeld3
import Derived.Shelf.Abstract
import Derived.Deep.RegionLaw
namespace Go.Proofs.Ytjmlekdgipinfaa
open Go.RowKit Go.Shelf

/-- A way: the shape, and of each place's number from which array, and which element; or an error. -/
structure Wy where
  s : List Int
  g : List (Int × Int)
  n : Int
def noW (n : Int) : Wy := ⟨[], [], n⟩
/-- Changes of other memory than D. -/
def OldC (D : Nat → Prop) (w w' : World) : Prop := Chg (fun k => ¬ D k) w w'
theorem OldC.refl (D : Nat → Prop) (w : World) : OldC D w w := Chg.refl _ _
theorem OldC.trans {D : Nat → Prop} {a b c : World} (h : OldC D a b) (k : OldC D b c) : OldC D a c := Chg.trans h k (fun _ _ h => h) (fun _ _ h => h)
theorem OldC.of {D : Nat → Prop} {a b : World} (h : Chg (fun _ => False) a b) : OldC D a b := Chg.mono h (fun _ _ h => h.elim)
theorem OldC.cell {D : Nat → Prop} {w w' : World} (h : OldC D w w') {p : Addr} {v : Value} (hc : w.cell? p = some v) (hn : D p.block) : w'.cell? p = some v := Chg.cell h hc (fun h => h hn)
theorem OldC.sub {D E : Nat → Prop} {w w' : World} (h : OldC D w w') (hE : ∀ k, E k → D k) : OldC E w w' := Chg.mono h (fun i _ h k => h (hE i k))
/-- The function gf tells the way's places, whatever becomes of other memory. -/
def FnAt (w : World) (D : Nat → Prop) (gf : Nat) (lb : Array Value) (g : List (Int × Int)) : Prop :=
  (∀ args w, (callFunc gf args).run Try.prog w = .ok (.enter gf args) w) ∧ ∀ (i : Nat) x, g[i]? = some x → ∀ w', OldC D w w' → Calls Try.prog gf (#[.int .i64 i] ++ lb) w' (GaveII w' x.1 x.2)
def WayAt (w : World) (D : Nat → Prop) (v : Value) (W : Wy) : Prop :=
  (W.n = 0 ∧ ∃ vs gf lb, v = .agg #[vs, .func (.func gf) #[] lb] ∧ Ls w vs W.s ∧ (∀ q, vs.ownBlock = some q → D q) ∧ FnAt w D gf lb W.g) ∨ (W.n ≠ 0 ∧ W.s = [] ∧ W.g = [] ∧ v = .agg #[.slice none 0 0, .nilFunc])
theorem FnAt.old {w w' : World} {D : Nat → Prop} {gf : Nat} {lb : Array Value} {g : List (Int × Int)} (h : FnAt w D gf lb g) (hC : OldC D w w') : FnAt w' D gf lb g := ⟨h.1, fun i x hx w2 h2 => h.2 i x hx w2 (hC.trans h2)⟩
theorem WayAt.old {w w' : World} {D : Nat → Prop} {v : Value} {W : Wy} (h : WayAt w D v W) (hC : OldC D w w') : WayAt w' D v W := by
  rcases h with ⟨h0, vs, gf, lb, e, ho, hd, hf⟩ | h
  · exact .inl ⟨h0, vs, gf, lb, e, ho.chg hC (fun k hk hs => hs (hd k hk)), hd, hf.old hC⟩
  · exact .inr h
theorem WayAt.fr {w w' : World} {D : Nat → Prop} {v : Value} {W : Wy} (h : WayAt w D v W) (hC : Chg (fun _ => False) w w') : WayAt w' D v W := h.old (.of hC)
/-- A way that hangs on D0, and on new memory. -/
def GaveWD (D0 : Nat → Prop) (w : World) (W : Wy) (e : Ending) (w' : World) : Prop := ∃ v' D, e = .returned (.tuple #[v', .int .i64 W.n]) ∧ WayAt w' D v' W ∧ (∀ k, D k → D0 k ∨ w.heap.size ≤ k) ∧ Chg (fun _ => False) w w'
def GaveW (w : World) (W : Wy) (e : Ending) (w' : World) : Prop := GaveWD (fun _ => False) w W e w'
theorem func_nil (k : Nat) (lb : Array Value) (w : World) : (binOp .eql 131 (.func (.func k) #[] lb) .nilFunc).run Try.prog w = .ok (.bool false) w := by
  kernel_rfl
theorem nil_nil (w : World) : (binOp .eql 131 .nilFunc .nilFunc).run Try.prog w = .ok (.bool true) w := by
  kernel_rfl
/-- The document's way. -/
def GatAt (w : World) (v : Value) (W : Wy) : Prop := ∃ vs vo vp, v = .agg #[vs, vo, vp] ∧ Ls w vs W.s ∧ Ls w vo (W.g.map (·.1)) ∧ Ls w vp (W.g.map (·.2))
theorem GatAt.fr {w w' : World} {v : Value} {W : Wy} (h : GatAt w v W) (hC : Chg (fun _ => False) w w') : GatAt w' v W := by
  obtain ⟨vs, vo, vp, e, h1, h2, h3⟩ := h
  exact ⟨vs, vo, vp, e, h1.fr hC, h2.fr hC, h3.fr hC⟩
def GaveG (w : World) (W : Wy) (e : Ending) (w' : World) : Prop := ∃ v', e = .returned (.tuple #[v', .int .i64 W.n]) ∧ GatAt w' v' W ∧ Chg (fun _ => False) w w'
def fillN (k : Int) : Int := if k = 2 then 32 else 0
theorem fill_any (k : Int) (w : World) : Calls Try.prog 136 #[.int .i64 k] w (fun e w' => e = .returned (.int .i64 (fillN k)) ∧ w' = w) := by
  by_cases h : k = 2
  · subst h
    go_enter Try.func136, Try.ntmps136
    go_wp2
    go_ret
    exact ⟨rfl, rfl⟩
  · have b : (k == 2) = false := beq_eq_false_iff_ne.2 h
    have HR := Lib.hid (show fillN k = 0 from if_neg h)
    clear h
    go_enter Try.func136, Try.ntmps136
    go_wp2
    go_ret
    exact ⟨by rw [HR.out]; rfl, rfl⟩
/-- A list's numbers, or an error. -/
def lstE (A : Ar) : Int := if chkB A then (if 1 < A.s.length then 3 else if A.k = 2 then 5 else 0) else 110
def lstL (A : Ar) : List Int := if lstE A = 0 then A.e else []
def GaveLE (w : World) (xs : List Int) (n : Int) (e : Ending) (w' : World) : Prop := ∃ v', e = .returned (.tuple #[v', .int .i64 n]) ∧ Own w' w.heap.size 2 v' xs ∧ Chg (fun _ => False) w w'
/-- A slice of the call's own, one number longer. -/
theorem own_more {w0 wr wa w2 : World} {base t : Nat} {v v2 : Value} {xs : List Int} {x : Int} {n : Nat} (hb : w0.heap.size ≤ base) (hC : Chg (fun _ => False) w0 wr) (hown : Own wr base t v xs) (hA : Chg (fun _ => False) wr wa) (hg : wa.grownBy w2 v.ownBlock)
    (h2 : w2.ownsRow base t 1 v2 n (xs.map I ++ [.int .i64 x])) (hn : n = xs.length + 1) : Own w2 base t v2 (xs ++ [x]) ∧ Chg (fun _ => False) w0 w2 ∧ Chg (fun k => v.ownBlock = some k) wr w2 := by
  subst hn
  have h3 : Chg (fun k => v.ownBlock = some k) wr w2 := (Chg.mono hA (fun _ _ h => h.elim)).grown hg (fun k e => .inl e)
  refine ⟨?_, hC.trans h3 (fun _ _ h => h) (fun i hi h => by have := (hown.lt i h).1; omega), h3⟩
  unfold Own
  rw [List.length_append, List.map_append]
  exact h2
end Go.Proofs.Ytjmlekdgipinfaa
/- The document's going of a way. -/
namespace Go.Proofs.Ytjmlekdgipinfaa
open Go.RowKit Go.Shelf

/-- The element that a way brings, of two arrays. -/
def pickG (k : Int) (A B : Ar) (x : Int × Int) : Int := if x.1 = 0 then A.e.getD x.2.toNat 0 else if x.1 = 1 then B.e.getD x.2.toNat 0 else fillN k
/-- The places are there. -/
def GoodG (g : List (Int × Int)) (A B : Ar) : Prop := ∀ x ∈ g, (x.1 = 0 → 0 ≤ x.2 ∧ x.2 < A.e.length) ∧ (x.1 = 1 → 0 ≤ x.2 ∧ x.2 < B.e.length)
theorem take_map {α β : Type} (f : α → β) (g : List α) (k : Nat) (h : k < g.length) : (g.take (k + 1)).map f = (g.take k).map f ++ [f g[k]] := by
  rw [List.take_succ_eq_append_getElem h, List.map_append]
  rfl
theorem cell_two (W : World) (v0 v1 v2 : Value) (t : TypeId) : (W.alloc (.cells #[v0, v1, v2] t)).cell? ⟨W.heap.size, 0, none⟩ = some v0 ∧ (W.alloc (.cells #[v0, v1, v2] t)).cell? ⟨W.heap.size, 1, none⟩ = some v1 ∧ (W.alloc (.cells #[v0, v1, v2] t)).cell? ⟨W.heap.size, 2, none⟩ = some v2 :=
  ⟨new_cell W _ _ rfl, new_cell W _ _ rfl, new_cell W _ _ rfl⟩
end Go.Proofs.Ytjmlekdgipinfaa
/- mold's Go: what comes of arrays by a way. -/
namespace Go.Proofs.Ytjmlekdgipinfaa
open Go.RowKit Go.Shelf

/-- The slice v holds the arrays L. -/
def LsA (w : World) (v : Value) (L : List Ar) : Prop := ∃ ao c, v = .slice ao L.length c ∧ ∀ j (h : j < L.length), ∃ b o, ao = some ⟨b, o, none⟩ ∧ ∃ ve, w.cell? ⟨b, o + j * 3 + 2, none⟩ = some ve ∧ Ls w ve L[j].e
theorem LsA.fr {w w' : World} {v : Value} {L : List Ar} (h : LsA w v L) (hC : Chg (fun _ => False) w w') : LsA w' v L := by
  obtain ⟨ao, c, e, h⟩ := h
  refine ⟨ao, c, e, fun j hj => ?_⟩
  obtain ⟨b, o, e2, ve, h1, h2⟩ := h j hj
  exact ⟨b, o, e2, ve, hC.cell h1 id, h2.fr hC⟩
def badL (L : List Ar) (x : Int × Int) : Bool := !(x.1 == -1) && (decide (x.1 < 0) || (decide ((L.length : Int) ≤ x.1) || (decide (x.2 < 0) || decide (((L.getD x.1.toNat noA).e.length : Int) ≤ x.2))))
def pickL (k : Int) (L : List Ar) (x : Int × Int) : Int := if x.1 = -1 then fillN k else (L.getD x.1.toNat noA).e.getD x.2.toNat 0
/-- What comes of arrays by a way: the error, and the array. -/
def goN (k : Int) (s : List Int) (g : List (Int × Int)) (L : List Ar) : Int := if k = 1 ∨ k = 2 then (if g.any (badL L) then 130 else chkE ⟨k, s, g.map (pickL k L)⟩) else 130
def goA (k : Int) (s : List Int) (g : List (Int × Int)) (L : List Ar) : Ar := if goN k s g L = 0 then ⟨k, s, g.map (pickL k L)⟩ else noA
theorem goA_no {k : Int} {s : List Int} {g : List (Int × Int)} {L : List Ar} {n : Int} (h : goN k s g L = n) (hn : n ≠ 0) : goA k s g L = noA := if_neg (by rw [h]; exact hn)
theorem goA_ok {k : Int} {s : List Int} {g : List (Int × Int)} {L : List Ar} (h : goN k s g L = 0) : goA k s g L = ⟨k, s, g.map (pickL k L)⟩ := if_pos h
theorem goN_bad {k : Int} {s : List Int} {g : List (Int × Int)} {L : List Ar} (x : Int × Int) (h : x ∈ g) (hx : badL L x = true) : goN k s g L = 130 := by
  unfold goN
  split
  · rw [if_pos (List.any_eq_true.2 ⟨x, h, hx⟩)]
  · rfl
theorem Bx.set2 {W : World} {b : Nat} {v0 v1 v2 : Value} (h : Bx W b v0 v1 v2) (u : Value) : Bx (W.setCell ⟨b, 2, none⟩ u) b v0 v1 u :=
  ⟨by rw [World.cell?_setCell_other _ _ _ _ (by simp)]; exact h.c0, by rw [World.cell?_setCell_other _ _ _ _ (by simp)]; exact h.c1, World.cell?_setCell_same' _ _ _ (by rw [h.c2]; rfl),
   by rw [World.frozen?_setCell]; exact h.f0, by rw [World.frozen?_setCell]; exact h.f1, by rw [World.frozen?_setCell]; exact h.f2⟩
/-- An array that is made element by element in block b. -/
structure Mak (w W : World) (b sb base : Nat) (k : Int) (vs v : Value) (s xs : List Int) : Prop where
  bx : Bx W b (.int .i64 k) vs v
  sh : Own W sb 3 vs s
  el : Own W base 2 v xs
  ch : Chg (fun _ => False) w W
  lb : w.heap.size ≤ b
  lt : b < base
  nb : ∀ q, vs.ownBlock = some q → q ≠ b ∧ q < base
theorem Mak.fr {w W W' : World} {b sb base : Nat} {k : Int} {vs v : Value} {s xs : List Int} (h : Mak w W b sb base k vs v s xs) (hC : Chg (fun _ => False) W W') : Mak w W' b sb base k vs v s xs :=
  ⟨h.bx.fr hC, h.sh.fr hC, h.el.fr hC, h.ch.tr hC, h.lb, h.lt, h.nb⟩
theorem chg_at (W : World) (b i : Nat) (u : Value) : Chg (fun k => k = b) W (W.setCell ⟨b, i, none⟩ u) := (Chg.refl (fun k => k = b) W).setCell (p := ⟨b, i, none⟩) (.inl rfl) u
/-- An element more. -/
theorem Mak.more {w W Wa w2 : World} {b sb base : Nat} {k x : Int} {vs v v2 : Value} {s xs : List Int} {n : Nat} (h : Mak w W b sb base k vs v s xs) (hA : Chg (fun _ => False) W Wa) (hg : Wa.grownBy w2 v.ownBlock)
    (h2 : w2.ownsRow base 2 1 v2 n (xs.map I ++ [.int .i64 x])) (hn : n = xs.length + 1) :
    (w2.cell? ⟨b, 2, none⟩ = some v ∧ w2.frozen? ⟨b, 2, none⟩ = false) ∧ Mak w (w2.setCell ⟨b, 2, none⟩ v2) b sb base k vs v2 s (xs ++ [x]) := by
  subst hn
  have h3 : Chg (fun q => v.ownBlock = some q) W w2 := (Chg.mono hA (fun _ _ h => h.elim)).grown hg (fun k e => .inl e)
  have hbx := h.bx.chg h3 (fun e => by have := (h.el.lt b e).1; have := h.lt; omega)
  have hsh : Own w2 sb 3 vs s := h.sh.chg h3 (fun q hq e => by have := (h.el.lt q e).1; have := (h.nb q hq).2; omega)
  have hel : Own w2 base 2 v2 (xs ++ [x]) := by
    unfold Own
    rw [List.length_append, List.map_append]
    exact h2
  have hch : Chg (fun _ => False) w w2 := h.ch.trans h3 (fun _ _ h => h) (fun i hi e => by have := (h.el.lt i e).1; have := h.lt; have := h.lb; omega)
  exact ⟨⟨hbx.c2, hbx.f2⟩, hbx.set2 v2, hsh.chg (chg_at w2 b 2 v2) (fun q hq e => (h.nb q hq).1 e), own_set hel (a := ⟨b, 2, none⟩) h.lt v2, hch.setCell (p := ⟨b, 2, none⟩) (.inr h.lb) v2, h.lb, h.lt, h.nb⟩
theorem Mak.leave {w W : World} {b sb base rb : Nat} {k n : Int} {vs v : Value} {s xs : List Int} (h : Mak w W b sb base k vs v s xs) (hr : w.heap.size ≤ rb) (hr2 : rb < base) (hr3 : rb < sb) :
    GaveAE w ⟨k, s, xs⟩ n (.returned (.tuple #[.agg #[.int .i64 k, vs, v], .int .i64 n])) (((W.setCell ⟨rb, 0, none⟩ (.int .i64 k)).setCell ⟨rb, 1, none⟩ vs).setCell ⟨rb, 2, none⟩ v) :=
  leaveAE h.sh h.el hr hr3 hr2 h.ch
end Go.Proofs.Ytjmlekdgipinfaa
