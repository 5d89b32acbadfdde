/- mold's Go: what comes of arrays by a way. -/
import Derived.Test.YtnjnajbdpaaikaaArF
import Derived.Deep.RegionLaw
namespace Go.Proofs.Ytnjnajbdpaaikaa
open Go.RowKit Go.Shelf

/-- The slice v holds the arrays L. -/
def LsA (w : World) (v : Value) (L : List Ar) : Prop := ∃ ao c, v = .slice ao L.length c ∧ ∀ j (h : j < L.length), ∃ b o, ao = some ⟨b, o, none⟩ ∧ ∃ ve, w.cell? ⟨b, o + j * 3 + 2, none⟩ = some ve ∧ Ls w ve L[j].e
theorem LsA.fr {w w' : World} {v : Value} {L : List Ar} (h : LsA w v L) (hC : Chg (fun _ => False) w w') : LsA w' v L := by
  obtain ⟨ao, c, e, h⟩ := h
  refine ⟨ao, c, e, fun j hj => ?_⟩
  obtain ⟨b, o, e2, ve, h1, h2⟩ := h j hj
  exact ⟨b, o, e2, ve, hC.cell h1 id, h2.fr hC⟩
def badL (L : List Ar) (x : Int × Int) : Bool := !(x.1 == -1) && (decide (x.1 < 0) || (decide ((L.length : Int) ≤ x.1) || (decide (x.2 < 0) || decide (((L.getD x.1.toNat noA).e.length : Int) ≤ x.2))))
def pickL (k : Int) (L : List Ar) (x : Int × Int) : Int := if x.1 = -1 then fillN k else (L.getD x.1.toNat noA).e.getD x.2.toNat 0
/-- What comes of arrays by a way: the error, and the array. -/
def goN (k : Int) (s : List Int) (g : List (Int × Int)) (L : List Ar) : Int := if k = 1 ∨ k = 2 then (if g.any (badL L) then 130 else chkE ⟨k, s, g.map (pickL k L)⟩) else 130
def goA (k : Int) (s : List Int) (g : List (Int × Int)) (L : List Ar) : Ar := if goN k s g L = 0 then ⟨k, s, g.map (pickL k L)⟩ else noA
theorem goA_no {k : Int} {s : List Int} {g : List (Int × Int)} {L : List Ar} {n : Int} (h : goN k s g L = n) (hn : n ≠ 0) : goA k s g L = noA := if_neg (by rw [h]; exact hn)
theorem goA_ok {k : Int} {s : List Int} {g : List (Int × Int)} {L : List Ar} (h : goN k s g L = 0) : goA k s g L = ⟨k, s, g.map (pickL k L)⟩ := if_pos h
theorem goN_bad {k : Int} {s : List Int} {g : List (Int × Int)} {L : List Ar} (x : Int × Int) (h : x ∈ g) (hx : badL L x = true) : goN k s g L = 130 := by
  unfold goN
  split
  · rw [if_pos (List.any_eq_true.2 ⟨x, h, hx⟩)]
  · rfl
theorem Bx.set2 {W : World} {b : Nat} {v0 v1 v2 : Value} (h : Bx W b v0 v1 v2) (u : Value) : Bx (W.setCell ⟨b, 2, none⟩ u) b v0 v1 u :=
  ⟨by rw [World.cell?_setCell_other _ _ _ _ (by simp)]; exact h.c0, by rw [World.cell?_setCell_other _ _ _ _ (by simp)]; exact h.c1, World.cell?_setCell_same' _ _ _ (by rw [h.c2]; rfl),
   by rw [World.frozen?_setCell]; exact h.f0, by rw [World.frozen?_setCell]; exact h.f1, by rw [World.frozen?_setCell]; exact h.f2⟩
/-- An array that is made element by element in block b. -/
structure Mak (w W : World) (b sb base : Nat) (k : Int) (vs v : Value) (s xs : List Int) : Prop where
  bx : Bx W b (.int .i64 k) vs v
  sh : Own W sb 3 vs s
  el : Own W base 2 v xs
  ch : Chg (fun _ => False) w W
  lb : w.heap.size ≤ b
  lt : b < base
  nb : ∀ q, vs.ownBlock = some q → q ≠ b ∧ q < base
theorem Mak.fr {w W W' : World} {b sb base : Nat} {k : Int} {vs v : Value} {s xs : List Int} (h : Mak w W b sb base k vs v s xs) (hC : Chg (fun _ => False) W W') : Mak w W' b sb base k vs v s xs :=
  ⟨h.bx.fr hC, h.sh.fr hC, h.el.fr hC, h.ch.tr hC, h.lb, h.lt, h.nb⟩
theorem chg_at (W : World) (b i : Nat) (u : Value) : Chg (fun k => k = b) W (W.setCell ⟨b, i, none⟩ u) := (Chg.refl (fun k => k = b) W).setCell (p := ⟨b, i, none⟩) (.inl rfl) u
/-- An element more. -/
theorem Mak.more {w W Wa w2 : World} {b sb base : Nat} {k x : Int} {vs v v2 : Value} {s xs : List Int} {n : Nat} (h : Mak w W b sb base k vs v s xs) (hA : Chg (fun _ => False) W Wa) (hg : Wa.grownBy w2 v.ownBlock)
    (h2 : w2.ownsRow base 2 1 v2 n (xs.map I ++ [.int .i64 x])) (hn : n = xs.length + 1) :
    (w2.cell? ⟨b, 2, none⟩ = some v ∧ w2.frozen? ⟨b, 2, none⟩ = false) ∧ Mak w (w2.setCell ⟨b, 2, none⟩ v2) b sb base k vs v2 s (xs ++ [x]) := by
  subst hn
  have h3 : Chg (fun q => v.ownBlock = some q) W w2 := (Chg.mono hA (fun _ _ h => h.elim)).grown hg (fun k e => .inl e)
  have hbx := h.bx.chg h3 (fun e => by have := (h.el.lt b e).1; have := h.lt; omega)
  have hsh : Own w2 sb 3 vs s := h.sh.chg h3 (fun q hq e => by have := (h.el.lt q e).1; have := (h.nb q hq).2; omega)
  have hel : Own w2 base 2 v2 (xs ++ [x]) := by
    unfold Own
    rw [List.length_append, List.map_append]
    exact h2
  have hch : Chg (fun _ => False) w w2 := h.ch.trans h3 (fun _ _ h => h) (fun i hi e => by have := (h.el.lt i e).1; have := h.lt; have := h.lb; omega)
  exact ⟨⟨hbx.c2, hbx.f2⟩, hbx.set2 v2, hsh.chg (chg_at w2 b 2 v2) (fun q hq e => (h.nb q hq).1 e), own_set hel (a := ⟨b, 2, none⟩) h.lt v2, hch.setCell (p := ⟨b, 2, none⟩) (.inr h.lb) v2, h.lb, h.lt, h.nb⟩
theorem Mak.leave {w W : World} {b sb base rb : Nat} {k n : Int} {vs v : Value} {s xs : List Int} (h : Mak w W b sb base k vs v s xs) (hr : w.heap.size ≤ rb) (hr2 : rb < base) (hr3 : rb < sb) :
    GaveAE w ⟨k, s, xs⟩ n (.returned (.tuple #[.agg #[.int .i64 k, vs, v], .int .i64 n])) (((W.setCell ⟨rb, 0, none⟩ (.int .i64 k)).setCell ⟨rb, 1, none⟩ vs).setCell ⟨rb, 2, none⟩ v) :=
  leaveAE h.sh h.el hr hr3 hr2 h.ch
end Go.Proofs.Ytnjnajbdpaaikaa
