/- Ways, and what goes them. -/
import Derived.Test.YtnjnajbdpaaikaaArD
import Derived.Deep.RegionHeld3
import Derived.Shelf.Abstract
namespace Go.Proofs.Ytnjnajbdpaaikaa
open Go.RowKit Go.Shelf

/-- A way: the shape, and of each place's number from which array, and which element; or an error. -/
structure Wy where
  s : List Int
  g : List (Int × Int)
  n : Int
def noW (n : Int) : Wy := ⟨[], [], n⟩
/-- Changes of other memory than D. -/
def OldC (D : Nat → Prop) (w w' : World) : Prop := Chg (fun k => ¬ D k) w w'
theorem OldC.refl (D : Nat → Prop) (w : World) : OldC D w w := Chg.refl _ _
theorem OldC.trans {D : Nat → Prop} {a b c : World} (h : OldC D a b) (k : OldC D b c) : OldC D a c := Chg.trans h k (fun _ _ h => h) (fun _ _ h => h)
theorem OldC.of {D : Nat → Prop} {a b : World} (h : Chg (fun _ => False) a b) : OldC D a b := Chg.mono h (fun _ _ h => h.elim)
theorem OldC.cell {D : Nat → Prop} {w w' : World} (h : OldC D w w') {p : Addr} {v : Value} (hc : w.cell? p = some v) (hn : D p.block) : w'.cell? p = some v := Chg.cell h hc (fun h => h hn)
theorem OldC.sub {D E : Nat → Prop} {w w' : World} (h : OldC D w w') (hE : ∀ k, E k → D k) : OldC E w w' := Chg.mono h (fun i _ h k => h (hE i k))
/-- The function gf tells the way's places, whatever becomes of other memory. -/
def FnAt (w : World) (D : Nat → Prop) (gf : Nat) (lb : Array Value) (g : List (Int × Int)) : Prop :=
  (∀ args w, (callFunc gf args).run Try.prog w = .ok (.enter gf args) w) ∧ ∀ (i : Nat) x, g[i]? = some x → ∀ w', OldC D w w' → Calls Try.prog gf (#[.int .i64 i] ++ lb) w' (GaveII w' x.1 x.2)
def WayAt (w : World) (D : Nat → Prop) (v : Value) (W : Wy) : Prop :=
  (W.n = 0 ∧ ∃ vs gf lb, v = .agg #[vs, .func (.func gf) #[] lb] ∧ Ls w vs W.s ∧ (∀ q, vs.ownBlock = some q → D q) ∧ FnAt w D gf lb W.g) ∨ (W.n ≠ 0 ∧ W.s = [] ∧ W.g = [] ∧ v = .agg #[.slice none 0 0, .nilFunc])
theorem FnAt.old {w w' : World} {D : Nat → Prop} {gf : Nat} {lb : Array Value} {g : List (Int × Int)} (h : FnAt w D gf lb g) (hC : OldC D w w') : FnAt w' D gf lb g := ⟨h.1, fun i x hx w2 h2 => h.2 i x hx w2 (hC.trans h2)⟩
theorem WayAt.old {w w' : World} {D : Nat → Prop} {v : Value} {W : Wy} (h : WayAt w D v W) (hC : OldC D w w') : WayAt w' D v W := by
  rcases h with ⟨h0, vs, gf, lb, e, ho, hd, hf⟩ | h
  · exact .inl ⟨h0, vs, gf, lb, e, ho.chg hC (fun k hk hs => hs (hd k hk)), hd, hf.old hC⟩
  · exact .inr h
theorem WayAt.fr {w w' : World} {D : Nat → Prop} {v : Value} {W : Wy} (h : WayAt w D v W) (hC : Chg (fun _ => False) w w') : WayAt w' D v W := h.old (.of hC)
/-- A way that hangs on D0, and on new memory. -/
def GaveWD (D0 : Nat → Prop) (w : World) (W : Wy) (e : Ending) (w' : World) : Prop := ∃ v' D, e = .returned (.tuple #[v', .int .i64 W.n]) ∧ WayAt w' D v' W ∧ (∀ k, D k → D0 k ∨ w.heap.size ≤ k) ∧ Chg (fun _ => False) w w'
def GaveW (w : World) (W : Wy) (e : Ending) (w' : World) : Prop := GaveWD (fun _ => False) w W e w'
theorem func_nil (k : Nat) (lb : Array Value) (w : World) : (binOp .eql 50 (.func (.func k) #[] lb) .nilFunc).run Try.prog w = .ok (.bool false) w := by
  kernel_rfl
theorem nil_nil (w : World) : (binOp .eql 50 .nilFunc .nilFunc).run Try.prog w = .ok (.bool true) w := by
  kernel_rfl
/-- The document's way. -/
def GatAt (w : World) (v : Value) (W : Wy) : Prop := ∃ vs vo vp, v = .agg #[vs, vo, vp] ∧ Ls w vs W.s ∧ Ls w vo (W.g.map (·.1)) ∧ Ls w vp (W.g.map (·.2))
theorem GatAt.fr {w w' : World} {v : Value} {W : Wy} (h : GatAt w v W) (hC : Chg (fun _ => False) w w') : GatAt w' v W := by
  obtain ⟨vs, vo, vp, e, h1, h2, h3⟩ := h
  exact ⟨vs, vo, vp, e, h1.fr hC, h2.fr hC, h3.fr hC⟩
def GaveG (w : World) (W : Wy) (e : Ending) (w' : World) : Prop := ∃ v', e = .returned (.tuple #[v', .int .i64 W.n]) ∧ GatAt w' v' W ∧ Chg (fun _ => False) w w'
def fillN (k : Int) : Int := if k = 2 then 32 else 0
theorem fill_any (k : Int) (w : World) : Calls Try.prog 82 #[.int .i64 k] w (fun e w' => e = .returned (.int .i64 (fillN k)) ∧ w' = w) := by
  by_cases h : k = 2
  · subst h
    go_enter Try.func82, Try.ntmps82
    go_wp2
    go_ret
    exact ⟨rfl, rfl⟩
  · have b : (k == 2) = false := beq_eq_false_iff_ne.2 h
    have HR := Lib.hid (show fillN k = 0 from if_neg h)
    clear h
    go_enter Try.func82, Try.ntmps82
    go_wp2
    go_ret
    exact ⟨by rw [HR.out]; rfl, rfl⟩
/-- A list's numbers, or an error. -/
def lstE (A : Ar) : Int := if chkB A then (if 1 < A.s.length then 3 else if A.k = 2 then 5 else 0) else 110
def lstL (A : Ar) : List Int := if lstE A = 0 then A.e else []
def GaveLE (w : World) (xs : List Int) (n : Int) (e : Ending) (w' : World) : Prop := ∃ v', e = .returned (.tuple #[v', .int .i64 n]) ∧ Own w' w.heap.size 2 v' xs ∧ Chg (fun _ => False) w w'
set_option maxHeartbeats 400000 in
theorem mlist_any (v : Value) (A : Ar) (w : World) (hA : Ara w v A) (hl : A.e.length ≤ 1000000) : Calls Try.prog 58 #[v] w (GaveLE w (lstL A) (lstE A)) := by
  obtain ⟨k, s, e⟩ := A
  obtain ⟨vs, ve, hv, hs, he⟩ := hA
  simp only at hs he hv hl
  subst hv
  obtain ⟨sa, cs, rfl, _⟩ := hs.form
  obtain ⟨ae, ce, rfl, _⟩ := he.form
  have hC0 := (Chg.refl (fun _ => False) w).alloc (.cells #[.int .i64 k, .slice sa s.length cs, .slice ae e.length ce] 25)
  have hck := check_any _ ⟨k, s, e⟩ _ (Ara.mk (k := k) (hs.fr hC0) (he.fr hC0)) hl
  have x0 := new_cell w #[.int .i64 k, .slice sa s.length cs, .slice ae e.length ce] 25 (i := 0) rfl
  have x1 := new_cell w #[.int .i64 k, .slice sa s.length cs, .slice ae e.length ce] 25 (i := 1) rfl
  have x2 := new_cell w #[.int .i64 k, .slice sa s.length cs, .slice ae e.length ce] 25 (i := 2) rfl
  have hcl := fun w' h => cloneL_any _ e w' (he.fr (hC0.tr h)) hl
  cases hc : chkB ⟨k, s, e⟩ with
  | false =>
    have hE : lstE ⟨k, s, e⟩ = 110 := by unfold lstE; rw [hc]; rfl
    have hL : lstL ⟨k, s, e⟩ = [] := by unfold lstL; rw [hE]; rfl
    rw [hE, hL]
    rw [show chkE ⟨k, s, e⟩ = 110 by unfold chkE; rw [hc]; rfl] at hck
    clear hs he hc hE hL hcl x0 x1 x2
    go_enter Try.func58, Try.ntmps58
    go_wp2_with fail
    refine hck.mono ?_
    clear hck
    rintro e9 w1 ⟨rfl, hC1⟩
    go_wp2
    go_ret2
    exact ⟨_, rfl, Own.nil _ _ _, hC0.tr hC1⟩
  | true =>
    rw [show chkE ⟨k, s, e⟩ = 0 by unfold chkE; rw [hc]; rfl] at hck
    by_cases h1 : 1 < s.length
    · have hE : lstE ⟨k, s, e⟩ = 3 := by unfold lstE; rw [hc, if_pos rfl, if_pos h1]
      have hL : lstL ⟨k, s, e⟩ = [] := by unfold lstL; rw [hE]; rfl
      rw [hE, hL]
      have h1' : (1 : Int) < (s.length : Int) := by omega
      clear hs he hc hE hL h1 hcl
      go_enter Try.func58, Try.ntmps58
      go_wp2_with fail
      refine hck.mono ?_
      clear hck
      rintro e9 w1 ⟨rfl, hC1⟩
      replace x1 := hC1.cell x1 id
      clear x0 x2
      go_wp2
      go_ret2
      exact ⟨_, rfl, Own.nil _ _ _, hC0.tr hC1⟩
    · have h1' : ¬ (1 : Int) < (s.length : Int) := by omega
      by_cases h2 : k = 2
      · subst h2
        have hE : lstE ⟨2, s, e⟩ = 5 := by unfold lstE; rw [hc, if_pos rfl, if_neg h1, if_pos rfl]
        have hL : lstL ⟨2, s, e⟩ = [] := by unfold lstL; rw [hE]; rfl
        rw [hE, hL]
        clear hs he hc hE hL h1 hcl
        go_enter Try.func58, Try.ntmps58
        go_wp2_with fail
        refine hck.mono ?_
        clear hck
        rintro e9 w1 ⟨rfl, hC1⟩
        replace x1 := hC1.cell x1 id
        replace x0 := hC1.cell x0 id
        clear x2
        go_wp2
        go_ret2
        exact ⟨_, rfl, Own.nil _ _ _, hC0.tr hC1⟩
      · have hE : lstE ⟨k, s, e⟩ = 0 := by unfold lstE; rw [hc, if_pos rfl, if_neg h1, if_neg h2]
        have hL : lstL ⟨k, s, e⟩ = e := by unfold lstL; rw [hE]; rfl
        rw [hE, hL]
        have b2 : (k == 2) = false := beq_eq_false_iff_ne.2 h2
        clear hs he hc hE hL h1 h2
        go_enter Try.func58, Try.ntmps58
        go_wp2_with fail
        refine hck.mono ?_
        clear hck
        rintro e9 w1 ⟨rfl, hC1⟩
        replace x1 := hC1.cell x1 id
        replace x0 := hC1.cell x0 id
        replace x2 := hC1.cell x2 id
        have hcl1 := hcl _ hC1
        clear hcl
        go_wp2_with fail
        refine hcl1.mono ?_
        clear hcl1 x0 x1 x2
        rintro e9 w2 ⟨v2, rfl, ho, hC2⟩
        go_wp2
        go_ret2
        exact ⟨_, rfl, ho.mono (by have := (hC0.tr hC1).size; omega), (hC0.tr hC1).tr hC2⟩
set_option maxHeartbeats 400000 in
theorem r13list_any (v : Value) (A : Ar) (w : World) (hA : Ara w v A) (hl : A.e.length ≤ 1000000) : Calls Try.prog 75 #[v] w (GaveLE w (lstL A) (lstE A)) := by
  obtain ⟨k, s, e⟩ := A
  obtain ⟨vs, ve, hv, hs, he⟩ := hA
  simp only at hs he hv hl
  subst hv
  obtain ⟨sa, cs, rfl, _⟩ := hs.form
  obtain ⟨ae, ce, rfl, _⟩ := he.form
  have hC0 := (Chg.refl (fun _ => False) w).alloc (.cells #[.int .i64 k, .slice sa s.length cs, .slice ae e.length ce] 25)
  have hck := r11check_any _ ⟨k, s, e⟩ _ (Ara.mk (k := k) (hs.fr hC0) (he.fr hC0)) hl
  have x0 := new_cell w #[.int .i64 k, .slice sa s.length cs, .slice ae e.length ce] 25 (i := 0) rfl
  have x1 := new_cell w #[.int .i64 k, .slice sa s.length cs, .slice ae e.length ce] 25 (i := 1) rfl
  have x2 := new_cell w #[.int .i64 k, .slice sa s.length cs, .slice ae e.length ce] 25 (i := 2) rfl
  have hcl := fun w' h => r11longs_any _ e w' (he.fr (hC0.tr h)) hl
  cases hc : chkB ⟨k, s, e⟩ with
  | false =>
    have hE : lstE ⟨k, s, e⟩ = 110 := by unfold lstE; rw [hc]; rfl
    have hL : lstL ⟨k, s, e⟩ = [] := by unfold lstL; rw [hE]; rfl
    rw [hE, hL]
    rw [show chkE ⟨k, s, e⟩ = 110 by unfold chkE; rw [hc]; rfl] at hck
    clear hs he hc hE hL hcl x0 x1 x2
    go_enter Try.func75, Try.ntmps75
    go_wp2_with fail
    refine hck.mono ?_
    clear hck
    rintro e9 w1 ⟨rfl, hC1⟩
    go_wp2
    go_ret2
    exact ⟨_, rfl, Own.nil _ _ _, hC0.tr hC1⟩
  | true =>
    rw [show chkE ⟨k, s, e⟩ = 0 by unfold chkE; rw [hc]; rfl] at hck
    by_cases h1 : 1 < s.length
    · have hE : lstE ⟨k, s, e⟩ = 3 := by unfold lstE; rw [hc, if_pos rfl, if_pos h1]
      have hL : lstL ⟨k, s, e⟩ = [] := by unfold lstL; rw [hE]; rfl
      rw [hE, hL]
      have h1' : (1 : Int) < (s.length : Int) := by omega
      clear hs he hc hE hL h1 hcl
      go_enter Try.func75, Try.ntmps75
      go_wp2_with fail
      refine hck.mono ?_
      clear hck
      rintro e9 w1 ⟨rfl, hC1⟩
      replace x1 := hC1.cell x1 id
      clear x0 x2
      go_wp2
      go_ret2
      exact ⟨_, rfl, Own.nil _ _ _, hC0.tr hC1⟩
    · have h1' : ¬ (1 : Int) < (s.length : Int) := by omega
      by_cases h2 : k = 2
      · subst h2
        have hE : lstE ⟨2, s, e⟩ = 5 := by unfold lstE; rw [hc, if_pos rfl, if_neg h1, if_pos rfl]
        have hL : lstL ⟨2, s, e⟩ = [] := by unfold lstL; rw [hE]; rfl
        rw [hE, hL]
        clear hs he hc hE hL h1 hcl
        go_enter Try.func75, Try.ntmps75
        go_wp2_with fail
        refine hck.mono ?_
        clear hck
        rintro e9 w1 ⟨rfl, hC1⟩
        replace x1 := hC1.cell x1 id
        replace x0 := hC1.cell x0 id
        clear x2
        go_wp2
        go_ret2
        exact ⟨_, rfl, Own.nil _ _ _, hC0.tr hC1⟩
      · have hE : lstE ⟨k, s, e⟩ = 0 := by unfold lstE; rw [hc, if_pos rfl, if_neg h1, if_neg h2]
        have hL : lstL ⟨k, s, e⟩ = e := by unfold lstL; rw [hE]; rfl
        rw [hE, hL]
        have b2 : (k == 2) = false := beq_eq_false_iff_ne.2 h2
        clear hs he hc hE hL h1 h2
        go_enter Try.func75, Try.ntmps75
        go_wp2_with fail
        refine hck.mono ?_
        clear hck
        rintro e9 w1 ⟨rfl, hC1⟩
        replace x1 := hC1.cell x1 id
        replace x0 := hC1.cell x0 id
        replace x2 := hC1.cell x2 id
        have hcl1 := hcl _ hC1
        clear hcl
        go_wp2_with fail
        refine hcl1.mono ?_
        clear hcl1 x0 x1 x2
        rintro e9 w2 ⟨v2, rfl, ho, hC2⟩
        go_wp2
        go_ret2
        exact ⟨_, rfl, ho.mono (by have := (hC0.tr hC1).size; omega), (hC0.tr hC1).tr hC2⟩
/-- A slice of the call's own, one number longer. -/
theorem own_more {w0 wr wa w2 : World} {base t : Nat} {v v2 : Value} {xs : List Int} {x : Int} {n : Nat} (hb : w0.heap.size ≤ base) (hC : Chg (fun _ => False) w0 wr) (hown : Own wr base t v xs) (hA : Chg (fun _ => False) wr wa) (hg : wa.grownBy w2 v.ownBlock)
    (h2 : w2.ownsRow base t 1 v2 n (xs.map I ++ [.int .i64 x])) (hn : n = xs.length + 1) : Own w2 base t v2 (xs ++ [x]) ∧ Chg (fun _ => False) w0 w2 ∧ Chg (fun k => v.ownBlock = some k) wr w2 := by
  subst hn
  have h3 : Chg (fun k => v.ownBlock = some k) wr w2 := (Chg.mono hA (fun _ _ h => h.elim)).grown hg (fun k e => .inl e)
  refine ⟨?_, hC.trans h3 (fun _ _ h => h) (fun i hi h => by have := (hown.lt i h).1; omega), h3⟩
  unfold Own
  rw [List.length_append, List.map_append]
  exact h2
end Go.Proofs.Ytnjnajbdpaaikaa
