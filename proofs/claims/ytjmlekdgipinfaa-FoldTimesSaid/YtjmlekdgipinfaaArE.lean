/- Ways, and what goes them. -/
import Derived.Test.YtjmlekdgipinfaaArD
import Derived.Deep.RegionHeld3
import Derived.Shelf.Abstract
namespace Go.Proofs.Ytjmlekdgipinfaa
open Go.RowKit Go.Shelf

/-- A way: the shape, and of each place's number from which array, and which element; or an error. -/
structure Wy where
  s : List Int
  g : List (Int × Int)
  n : Int
def noW (n : Int) : Wy := ⟨[], [], n⟩
/-- Changes of other memory than D. -/
def OldC (D : Nat → Prop) (w w' : World) : Prop := Chg (fun k => ¬ D k) w w'
theorem OldC.refl (D : Nat → Prop) (w : World) : OldC D w w := Chg.refl _ _
theorem OldC.trans {D : Nat → Prop} {a b c : World} (h : OldC D a b) (k : OldC D b c) : OldC D a c := Chg.trans h k (fun _ _ h => h) (fun _ _ h => h)
theorem OldC.of {D : Nat → Prop} {a b : World} (h : Chg (fun _ => False) a b) : OldC D a b := Chg.mono h (fun _ _ h => h.elim)
theorem OldC.cell {D : Nat → Prop} {w w' : World} (h : OldC D w w') {p : Addr} {v : Value} (hc : w.cell? p = some v) (hn : D p.block) : w'.cell? p = some v := Chg.cell h hc (fun h => h hn)
theorem OldC.sub {D E : Nat → Prop} {w w' : World} (h : OldC D w w') (hE : ∀ k, E k → D k) : OldC E w w' := Chg.mono h (fun i _ h k => h (hE i k))
/-- The function gf tells the way's places, whatever becomes of other memory. -/
def FnAt (w : World) (D : Nat → Prop) (gf : Nat) (lb : Array Value) (g : List (Int × Int)) : Prop :=
  (∀ args w, (callFunc gf args).run Try.prog w = .ok (.enter gf args) w) ∧ ∀ (i : Nat) x, g[i]? = some x → ∀ w', OldC D w w' → Calls Try.prog gf (#[.int .i64 i] ++ lb) w' (GaveII w' x.1 x.2)
def WayAt (w : World) (D : Nat → Prop) (v : Value) (W : Wy) : Prop :=
  (W.n = 0 ∧ ∃ vs gf lb, v = .agg #[vs, .func (.func gf) #[] lb] ∧ Ls w vs W.s ∧ (∀ q, vs.ownBlock = some q → D q) ∧ FnAt w D gf lb W.g) ∨ (W.n ≠ 0 ∧ W.s = [] ∧ W.g = [] ∧ v = .agg #[.slice none 0 0, .nilFunc])
theorem FnAt.old {w w' : World} {D : Nat → Prop} {gf : Nat} {lb : Array Value} {g : List (Int × Int)} (h : FnAt w D gf lb g) (hC : OldC D w w') : FnAt w' D gf lb g := ⟨h.1, fun i x hx w2 h2 => h.2 i x hx w2 (hC.trans h2)⟩
theorem WayAt.old {w w' : World} {D : Nat → Prop} {v : Value} {W : Wy} (h : WayAt w D v W) (hC : OldC D w w') : WayAt w' D v W := by
  rcases h with ⟨h0, vs, gf, lb, e, ho, hd, hf⟩ | h
  · exact .inl ⟨h0, vs, gf, lb, e, ho.chg hC (fun k hk hs => hs (hd k hk)), hd, hf.old hC⟩
  · exact .inr h
theorem WayAt.fr {w w' : World} {D : Nat → Prop} {v : Value} {W : Wy} (h : WayAt w D v W) (hC : Chg (fun _ => False) w w') : WayAt w' D v W := h.old (.of hC)
/-- A way that hangs on D0, and on new memory. -/
def GaveWD (D0 : Nat → Prop) (w : World) (W : Wy) (e : Ending) (w' : World) : Prop := ∃ v' D, e = .returned (.tuple #[v', .int .i64 W.n]) ∧ WayAt w' D v' W ∧ (∀ k, D k → D0 k ∨ w.heap.size ≤ k) ∧ Chg (fun _ => False) w w'
def GaveW (w : World) (W : Wy) (e : Ending) (w' : World) : Prop := GaveWD (fun _ => False) w W e w'
theorem func_nil (k : Nat) (lb : Array Value) (w : World) : (binOp .eql 131 (.func (.func k) #[] lb) .nilFunc).run Try.prog w = .ok (.bool false) w := by
  kernel_rfl
theorem nil_nil (w : World) : (binOp .eql 131 .nilFunc .nilFunc).run Try.prog w = .ok (.bool true) w := by
  kernel_rfl
/-- The document's way. -/
def GatAt (w : World) (v : Value) (W : Wy) : Prop := ∃ vs vo vp, v = .agg #[vs, vo, vp] ∧ Ls w vs W.s ∧ Ls w vo (W.g.map (·.1)) ∧ Ls w vp (W.g.map (·.2))
theorem GatAt.fr {w w' : World} {v : Value} {W : Wy} (h : GatAt w v W) (hC : Chg (fun _ => False) w w') : GatAt w' v W := by
  obtain ⟨vs, vo, vp, e, h1, h2, h3⟩ := h
  exact ⟨vs, vo, vp, e, h1.fr hC, h2.fr hC, h3.fr hC⟩
def GaveG (w : World) (W : Wy) (e : Ending) (w' : World) : Prop := ∃ v', e = .returned (.tuple #[v', .int .i64 W.n]) ∧ GatAt w' v' W ∧ Chg (fun _ => False) w w'
def fillN (k : Int) : Int := if k = 2 then 32 else 0
theorem fill_any (k : Int) (w : World) : Calls Try.prog 136 #[.int .i64 k] w (fun e w' => e = .returned (.int .i64 (fillN k)) ∧ w' = w) := by
  by_cases h : k = 2
  · subst h
    go_enter Try.func136, Try.ntmps136
    go_wp2
    go_ret
    exact ⟨rfl, rfl⟩
  · have b : (k == 2) = false := beq_eq_false_iff_ne.2 h
    have HR := Lib.hid (show fillN k = 0 from if_neg h)
    clear h
    go_enter Try.func136, Try.ntmps136
    go_wp2
    go_ret
    exact ⟨by rw [HR.out]; rfl, rfl⟩
/-- A list's numbers, or an error. -/
def lstE (A : Ar) : Int := if chkB A then (if 1 < A.s.length then 3 else if A.k = 2 then 5 else 0) else 110
def lstL (A : Ar) : List Int := if lstE A = 0 then A.e else []
def GaveLE (w : World) (xs : List Int) (n : Int) (e : Ending) (w' : World) : Prop := ∃ v', e = .returned (.tuple #[v', .int .i64 n]) ∧ Own w' w.heap.size 2 v' xs ∧ Chg (fun _ => False) w w'
/-- A slice of the call's own, one number longer. -/
theorem own_more {w0 wr wa w2 : World} {base t : Nat} {v v2 : Value} {xs : List Int} {x : Int} {n : Nat} (hb : w0.heap.size ≤ base) (hC : Chg (fun _ => False) w0 wr) (hown : Own wr base t v xs) (hA : Chg (fun _ => False) wr wa) (hg : wa.grownBy w2 v.ownBlock)
    (h2 : w2.ownsRow base t 1 v2 n (xs.map I ++ [.int .i64 x])) (hn : n = xs.length + 1) : Own w2 base t v2 (xs ++ [x]) ∧ Chg (fun _ => False) w0 w2 ∧ Chg (fun k => v.ownBlock = some k) wr w2 := by
  subst hn
  have h3 : Chg (fun k => v.ownBlock = some k) wr w2 := (Chg.mono hA (fun _ _ h => h.elim)).grown hg (fun k e => .inl e)
  refine ⟨?_, hC.trans h3 (fun _ _ h => h) (fun i hi h => by have := (hown.lt i h).1; omega), h3⟩
  unfold Own
  rw [List.length_append, List.map_append]
  exact h2
end Go.Proofs.Ytjmlekdgipinfaa
