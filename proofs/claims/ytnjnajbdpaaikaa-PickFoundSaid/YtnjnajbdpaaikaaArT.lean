/- Two twins in one statement. -/
import Derived.Test.YtnjnajbdpaaikaaArD
namespace Go.Proofs.Ytnjnajbdpaaikaa
open Go.RowKit

theorem twoCall {f t s : Nat} {pos : String} {af : Array Edge} {a : Act} {w : World} {K : Act → World → Prop} {Q : Exit → Act → World → Prop} {v : Value} (hf : ∀ x w, (callFunc f x).run Try.prog w = .ok (.enter f x) w) (he : a.tmps[t]?.getD undef = v)
    (h : Calls Try.prog f #[v] w (fun e w' => ∃ u, e = .returned u ∧ K (a.put (some s) u) w')) :
    Oper.wp Try.prog { dst := some s, op := .call { callee := .value (.func f), args := #[.tmp t], argTypes := #[25] }, type := 25, pos := pos, after := af, guard := none } a w K Q := by
  go_simp
  refine Calls.mono h ?_
  rintro e w' ⟨u, rfl, hu⟩
  exact hu
theorem twoAlloc {s : Nat} {pos : String} {af : Array Edge} {a : Act} {w : World} {K : Act → World → Prop} {Q : Exit → Act → World → Prop}
    (h : K (a.put (some s) (.pointer (some ⟨w.heap.size, 0, none⟩))) (w.alloc (.cells #[.int .i64 0, .slice none 0 0, .slice none 0 0] 25))) :
    Oper.wp Try.prog { dst := some s, op := .alloc 25, type := 0, pos := pos, after := af, guard := none } a w K Q := by
  go_simp
  exact h
theorem twoLoad {s p x : Nat} {pos : String} {af : Array Edge} {a : Act} {w : World} {K : Act → World → Prop} {Q : Exit → Act → World → Prop} {v0 v1 v2 : Value} (he : a.tmps[p]?.getD undef = .pointer (some ⟨x, 0, none⟩))
    (h0 : w.cell? ⟨x, 0, none⟩ = some v0) (h1 : w.cell? ⟨x, 1, none⟩ = some v1) (h2 : w.cell? ⟨x, 2, none⟩ = some v2)
    (h : K (a.put (some s) (.agg #[v0, v1, v2])) w) :
    Oper.wp Try.prog { dst := some s, op := .load 25 (.tmp p), type := 25, pos := pos, after := af, guard := none } a w K Q := by
  go_simp
  exact h
theorem twoStore {p s x : Nat} {pos : String} {af : Array Edge} {a : Act} {w : World} {K : Act → World → Prop} {Q : Exit → Act → World → Prop} {z0 z1 z2 : Value} {k : Int} {sa ae : Option Addr} {n1 k1 n2 k2 : Nat} (he : a.tmps[p]?.getD undef = .pointer (some ⟨x, 0, none⟩)) (hv : a.tmps[s]?.getD undef = .agg #[.int .i64 k, .slice sa n1 k1, .slice ae n2 k2])
    (h0 : Bx w x z0 z1 z2)
    (h : K a (((w.setCell ⟨x, 0, none⟩ (.int .i64 k)).setCell ⟨x, 1, none⟩ (.slice sa n1 k1)).setCell ⟨x, 2, none⟩ (.slice ae n2 k2))) :
    Oper.wp Try.prog { dst := none, op := .store 25 (.tmp p) (.tmp s), type := 0, pos := pos, after := af, guard := none } a w K Q := by
  obtain ⟨c0, c1, c2, f0, f1, f2⟩ := h0
  go_simp
  exact h

theorem any_inv {P : Program} {md : Region.Mode} {ops : Array Oper} {Q : Exit → Act → World → Prop} (J : Nat → Array Bool → Act → World → Prop)
    (hd : ∀ n l a w, J n l a w → Region.ready md ops l = [] → Q .normal a w) (hz : ∀ l a w, J 0 l a w → Region.ready md ops l = [])
    (hs : ∀ n l a w, J (n + 1) l a w → ∀ i ∈ Region.ready md ops l, wpOp P ops Q i (fun a' w' => J n (l.setIfInBounds i true) a' w') a w) :
    ∀ n l a w, J n l a w → wpAny P md ops Q n l a w := by
  intro n
  induction n with
  | zero => exact fun l a w h => ⟨hz l a w h, hd 0 l a w h (hz l a w h)⟩
  | succ n ih => exact fun l a w h => ⟨hd _ l a w h, fun i hi => wpOp_mono (fun a' w' h' => ih _ a' w' h') (hs n l a w h i hi)⟩

def pif (b : Bool) (s : Nat) (v : Value) (a : Act) : Act := if b then a.put (some s) v else a
theorem pif_put {b : Bool} {s t : Nat} {v u : Value} {a : Act} (h : s ≠ t) : (pif b s v a).put (some t) u = pif b s v (a.put (some t) u) := by
  cases b with
  | false => rfl
  | true => exact Act.put_comm a v u (fun d e f => h (Option.some.inj (e.trans f.symm)))
theorem pif_get {b : Bool} {s t : Nat} {v : Value} {a : Act} (h : s ≠ t) : (pif b s v a).tmps[t]? = a.tmps[t]? := by
  cases b with
  | false => rfl
  | true => simp [pif, Act.put, Array.getElem?_setIfInBounds_ne h]
theorem pif_size {b : Bool} {s : Nat} {v : Value} {a : Act} : (pif b s v a).tmps.size = a.tmps.size := by
  cases b with
  | false => rfl
  | true => simp [pif, Act.put]
theorem pif_same {s : Nat} {v : Value} {a : Act} (h : s < a.tmps.size) : (pif true s v a).tmps[s]? = some v := by
  simp [pif, Act.put, h]
theorem pif_false {s : Nat} {v u : Value} {a : Act} : (pif false s v a).put (some s) u = pif true s u a := rfl

def C3 (w : World) (x : Nat) (a b c : Value) : Prop := w.cell? ⟨x, 0, none⟩ = some a ∧ w.cell? ⟨x, 1, none⟩ = some b ∧ w.cell? ⟨x, 2, none⟩ = some c
theorem C3.chg {S : Nat → Prop} {w w' : World} {x : Nat} {a b c : Value} (h : C3 w x a b c) (hC : Chg S w w') (hn : ¬ S x) : C3 w' x a b c := ⟨hC.cell h.1 hn, hC.cell h.2.1 hn, hC.cell h.2.2 hn⟩
theorem chg3 (w : World) (x : Nat) (a b c : Value) : Chg (fun q => q = x) w (((w.setCell ⟨x, 0, none⟩ a).setCell ⟨x, 1, none⟩ b).setCell ⟨x, 2, none⟩ c) := (((Chg.refl (fun q => q = x) w).setCell (p := ⟨x, 0, none⟩) (.inl rfl) _).setCell (p := ⟨x, 1, none⟩) (.inl rfl) _).setCell (p := ⟨x, 2, none⟩) (.inl rfl) _
theorem bx_c3 {w : World} {x : Nat} {z0 z1 z2 : Value} (h : Bx w x z0 z1 z2) (a b c : Value) : C3 (((w.setCell ⟨x, 0, none⟩ a).setCell ⟨x, 1, none⟩ b).setCell ⟨x, 2, none⟩ c) x a b c := by
  obtain ⟨⟨g0, g1⟩, g2⟩ := set3_cells a b c h.c0 h.c1 h.c2
  exact ⟨g0, g1, g2⟩
theorem bx_bx {w : World} {x : Nat} {z0 z1 z2 : Value} (h : Bx w x z0 z1 z2) (a b c : Value) : Bx (((w.setCell ⟨x, 0, none⟩ a).setCell ⟨x, 1, none⟩ b).setCell ⟨x, 2, none⟩ c) x a b c := by
  obtain ⟨⟨g0, g1⟩, g2⟩ := set3_cells a b c h.c0 h.c1 h.c2
  obtain ⟨_, _, _, f0, f1, f2⟩ := h
  exact ⟨g0, g1, g2, by simp [f0], by simp [f1], by simp [f2]⟩

/-- An array whose memory lies in the blocks lo .. hi. -/
def OwnR (w : World) (lo hi : Nat) (v : Value) (A : Ar) : Prop := hi ≤ w.heap.size ∧ ∃ vs ve, v = .agg #[.int .i64 A.k, vs, ve] ∧ Own w lo 3 vs A.s ∧ Own w lo 2 ve A.e ∧ (∀ q, vs.ownBlock = some q → q < hi) ∧ ∀ q, ve.ownBlock = some q → q < hi
theorem OwnR.of {w : World} {lo : Nat} {v : Value} {A : Ar} (h : OwnA w lo v A) : OwnR w lo w.heap.size v A := by
  obtain ⟨vs, ve, e, h1, h2⟩ := h
  exact ⟨Nat.le_refl _, vs, ve, e, h1, h2, fun q hq => (h1.lt q hq).2, fun q hq => (h2.lt q hq).2⟩
theorem OwnR.chg {S : Nat → Prop} {w w' : World} {lo hi : Nat} {v : Value} {A : Ar} (h : OwnR w lo hi v A) (hC : Chg S w w') (hS : ∀ q, lo ≤ q → q < hi → ¬ S q) : OwnR w' lo hi v A := by
  obtain ⟨h0, vs, ve, e, h1, h2, k1, k2⟩ := h
  exact ⟨Nat.le_trans h0 hC.size, vs, ve, e, h1.chg hC (fun q hq => hS q (h1.lt q hq).1 (k1 q hq)), h2.chg hC (fun q hq => hS q (h2.lt q hq).1 (k2 q hq)), k1, k2⟩
theorem OwnR.ara {w : World} {lo hi : Nat} {v : Value} {A : Ar} (h : OwnR w lo hi v A) : Ara w v A := by
  obtain ⟨_, vs, ve, e, h1, h2, _⟩ := h
  exact ⟨vs, ve, e, h1.ls, h2.ls⟩
theorem OwnR.val {w : World} {lo hi : Nat} {v : Value} {A : Ar} (h : OwnR w lo hi v A) : ∃ sa cs ae ce, v = .agg #[.int .i64 A.k, .slice sa A.s.length cs, .slice ae A.e.length ce] := by
  obtain ⟨_, vs, ve, rfl, h1, h2, _⟩ := h
  obtain ⟨sa, cs, rfl⟩ := own_name h1
  obtain ⟨ae, ce, rfl⟩ := own_name h2
  exact ⟨_, _, _, _, rfl⟩

structure TwoM (w : World) (L A : Ar) (c1 c2 d1 d2 e1 e2 : Bool) (v1 v2 u1 u2 : Value) (x5 x6 l1 h1 l2 h2 : Nat) (w' : World) : Prop where
  ch : Chg (fun _ => False) w w'
  o1 : c1 = true → OwnR w' l1 h1 v1 L
  o2 : c2 = true → OwnR w' l2 h2 v2 A
  b1 : d1 = true → u1 = .pointer (some ⟨x5, 0, none⟩) ∧ w.heap.size ≤ x5 ∧ ∃ z0 z1 z2, Bx w' x5 z0 z1 z2
  b2 : d2 = true → u2 = .pointer (some ⟨x6, 0, none⟩) ∧ w.heap.size ≤ x6 ∧ ∃ z0 z1 z2, Bx w' x6 z0 z1 z2
  ne : d1 = true → d2 = true → x5 ≠ x6
  n11 : c1 = true → d1 = true → x5 < l1 ∨ h1 ≤ x5
  n12 : c1 = true → d2 = true → x6 < l1 ∨ h1 ≤ x6
  n21 : c2 = true → d1 = true → x5 < l2 ∨ h2 ≤ x5
  n22 : c2 = true → d2 = true → x6 < l2 ∨ h2 ≤ x6
  s1 : e1 = true → (c1 = true ∧ d1 = true) ∧ ∃ a b c, v1 = .agg #[a, b, c] ∧ C3 w' x5 a b c
  s2 : e2 = true → (c2 = true ∧ d2 = true) ∧ ∃ a b c, v2 = .agg #[a, b, c] ∧ C3 w' x6 a b c
abbrev BoxT (w : World) (x : Nat) (A : Ar) : Prop := ∃ sa cs ae ce, (w.cell? ⟨x, 0, none⟩ = some (.int .i64 A.k) ∧ w.cell? ⟨x, 1, none⟩ = some (.slice sa A.s.length cs) ∧ w.cell? ⟨x, 2, none⟩ = some (.slice ae A.e.length ce)) ∧ Ara w (.agg #[.int .i64 A.k, .slice sa A.s.length cs, .slice ae A.e.length ce]) A
section
variable {w w' w2 : World} {L A : Ar} {c1 c2 d1 d2 e1 e2 : Bool} {v1 v2 u1 u2 : Value} {x5 x6 l1 h1 l2 h2 : Nat}
theorem TwoM.start : TwoM w L A false false false false false false v1 v2 u1 u2 x5 x6 l1 h1 l2 h2 w.drew :=
  ⟨(Chg.refl _ _).drew, by simp, by simp, by simp, by simp, by simp, by simp, by simp, by simp, by simp, by simp, by simp⟩
theorem TwoM.call1 (h : TwoM w L A false c2 d1 d2 false e2 v1 v2 u1 u2 x5 x6 l1 h1 l2 h2 w') {v : Value} (ho : OwnA w2 w'.heap.size v L) (hC : Chg (fun _ => False) w' w2) :
    TwoM w L A true c2 d1 d2 false e2 v v2 u1 u2 x5 x6 w'.heap.size w2.heap.size l2 h2 w2 where
  ch := h.ch.tr hC
  o1 := fun _ => OwnR.of ho
  o2 := fun e => (h.o2 e).chg hC (fun _ _ _ => id)
  b1 := fun e => ⟨(h.b1 e).1, (h.b1 e).2.1, by obtain ⟨z0, z1, z2, hb⟩ := (h.b1 e).2.2; exact ⟨z0, z1, z2, hb.fr hC⟩⟩
  b2 := fun e => ⟨(h.b2 e).1, (h.b2 e).2.1, by obtain ⟨z0, z1, z2, hb⟩ := (h.b2 e).2.2; exact ⟨z0, z1, z2, hb.fr hC⟩⟩
  ne := h.ne
  n11 := fun _ e => .inl (by obtain ⟨z0, z1, z2, hb⟩ := (h.b1 e).2.2; exact hb.lt)
  n12 := fun _ e => .inl (by obtain ⟨z0, z1, z2, hb⟩ := (h.b2 e).2.2; exact hb.lt)
  n21 := h.n21
  n22 := h.n22
  s1 := fun e => by cases e
  s2 := fun e => by obtain ⟨hc, a, b, c, hv, hx⟩ := h.s2 e; exact ⟨hc, a, b, c, hv, hx.chg hC id⟩
theorem TwoM.swap (h : TwoM w L A c1 c2 d1 d2 e1 e2 v1 v2 u1 u2 x5 x6 l1 h1 l2 h2 w') : TwoM w A L c2 c1 d2 d1 e2 e1 v2 v1 u2 u1 x6 x5 l2 h2 l1 h1 w' :=
  ⟨h.ch, h.o2, h.o1, h.b2, h.b1, fun a b e => h.ne b a e.symm, h.n22, h.n21, h.n12, h.n11, h.s2, h.s1⟩
theorem TwoM.alloc1 (h : TwoM w L A c1 c2 false d2 false e2 v1 v2 u1 u2 x5 x6 l1 h1 l2 h2 w') :
    TwoM w L A c1 c2 true d2 false e2 v1 v2 (.pointer (some ⟨w'.heap.size, 0, none⟩)) u2 w'.heap.size x6 l1 h1 l2 h2 (w'.alloc (.cells #[.int .i64 0, .slice none 0 0, .slice none 0 0] 25)) where
  ch := h.ch.alloc _
  o1 := fun e => (h.o1 e).chg ((Chg.refl _ _).alloc _) (fun _ _ _ => id)
  o2 := fun e => (h.o2 e).chg ((Chg.refl _ _).alloc _) (fun _ _ _ => id)
  b1 := fun _ => ⟨rfl, h.ch.size, _, _, _, Bx.new _ _ _ _ _⟩
  b2 := fun e => ⟨(h.b2 e).1, (h.b2 e).2.1, by obtain ⟨z0, z1, z2, hb⟩ := (h.b2 e).2.2; exact ⟨z0, z1, z2, hb.fr ((Chg.refl _ _).alloc _)⟩⟩
  ne := fun _ e k => by obtain ⟨z0, z1, z2, hb⟩ := (h.b2 e).2.2; have := hb.lt; omega
  n11 := fun e _ => .inr (h.o1 e).1
  n12 := h.n12
  n21 := fun e _ => .inr (h.o2 e).1
  n22 := h.n22
  s1 := fun e => by cases e
  s2 := fun e => by obtain ⟨hc, a, b, c, hv, hx⟩ := h.s2 e; exact ⟨hc, a, b, c, hv, hx.chg ((Chg.refl (fun _ => False) _).alloc _) id⟩
theorem TwoM.store1 (h : TwoM w L A true c2 true d2 false e2 v1 v2 u1 u2 x5 x6 l1 h1 l2 h2 w') :
    ∃ sa cs ae ce z0 z1 z2, v1 = .agg #[.int .i64 L.k, .slice sa L.s.length cs, .slice ae L.e.length ce] ∧ u1 = .pointer (some ⟨x5, 0, none⟩) ∧ Bx w' x5 z0 z1 z2 ∧ TwoM w L A true c2 true d2 true e2 v1 v2 u1 u2 x5 x6 l1 h1 l2 h2 (((w'.setCell ⟨x5, 0, none⟩ (.int .i64 L.k)).setCell ⟨x5, 1, none⟩ (.slice sa L.s.length cs)).setCell ⟨x5, 2, none⟩ (.slice ae L.e.length ce)) := by
  obtain ⟨sa, cs, ae, ce, hv⟩ := (h.o1 rfl).val
  obtain ⟨hu, hx, z0, z1, z2, hb⟩ := h.b1 rfl
  have hX := chg3 w' x5 (.int .i64 L.k) (.slice sa L.s.length cs) (.slice ae L.e.length ce)
  refine ⟨_, _, _, _, z0, z1, z2, hv, hu, hb, ?_⟩
  exact { ch := chg_set3 h.ch hx _ _ _
          o1 := fun e => (h.o1 e).chg hX (fun q k1 k2 k3 => by have := h.n11 rfl rfl; omega)
          o2 := fun e => (h.o2 e).chg hX (fun q k1 k2 k3 => by have := h.n21 e rfl; omega)
          b1 := fun _ => ⟨hu, hx, _, _, _, bx_bx hb _ _ _⟩
          b2 := fun e => ⟨(h.b2 e).1, (h.b2 e).2.1, by obtain ⟨y0, y1, y2, hy⟩ := (h.b2 e).2.2; exact ⟨y0, y1, y2, hy.chg hX (fun k => h.ne rfl e k.symm)⟩⟩
          ne := h.ne
          n11 := h.n11
          n12 := h.n12
          n21 := h.n21
          n22 := h.n22
          s1 := fun _ => ⟨⟨rfl, rfl⟩, _, _, _, hv, bx_c3 hb _ _ _⟩
          s2 := fun e => by obtain ⟨hc, a, b, c, hv, hx⟩ := h.s2 e; exact ⟨hc, a, b, c, hv, hx.chg hX (fun k => h.ne rfl hc.2 k.symm)⟩ }
theorem TwoM.done (h : TwoM w L A c1 c2 d1 d2 true true v1 v2 u1 u2 x5 x6 l1 h1 l2 h2 w') : u1 = .pointer (some ⟨x5, 0, none⟩) ∧ u2 = .pointer (some ⟨x6, 0, none⟩) ∧ BoxT w' x5 L ∧ BoxT w' x6 A ∧ Chg (fun _ => False) w w' := by
  obtain ⟨⟨k1, k2⟩, a, b, c, hv, hx⟩ := h.s1 rfl
  obtain ⟨⟨k3, k4⟩, a', b', c', hv', hx'⟩ := h.s2 rfl
  have g1 := (h.o1 k1).ara
  have g2 := (h.o2 k3).ara
  obtain ⟨sa, cs, ae, ce, e1⟩ := (h.o1 k1).val
  obtain ⟨sb, cb, be, de, e2⟩ := (h.o2 k3).val
  rw [e1] at g1 hv
  rw [e2] at g2 hv'
  cases hv
  cases hv'
  exact ⟨(h.b1 k2).1, (h.b2 k4).1, ⟨_, _, _, _, hx, g1⟩, ⟨_, _, _, _, hx', g2⟩, h.ch⟩
end

theorem wpOp_go {P : Program} {ops : Array Oper} {Q : Exit → Act → World → Prop} {i : Nat} {o : Oper} {K : Act → World → Prop} {a : Act} {w : World} (ho : ops[i]? = some o) (hg : o.guard = none) (h : o.wp P a w K Q) : wpOp P ops Q i K a w := by
  unfold wpOp
  rw [ho]
  simp only [Region.wanted, hg]
  exact .inl h
def twoOps (p q s1 s2 s3 s4 d e f : Nat) (pos : String) : Array Oper :=
  #[{ dst := some s1, op := .load 25 (.tmp p), type := 25, pos := pos, after := #[], guard := none },
    { dst := some s2, op := .call { callee := .value (.func f), args := #[.tmp s1], argTypes := #[25] }, type := 25, pos := pos, after := #[{ on := 0, ground := .data }], guard := none },
    { dst := some s3, op := .load 25 (.tmp q), type := 25, pos := pos, after := #[], guard := none },
    { dst := some s4, op := .call { callee := .value (.func f), args := #[.tmp s3], argTypes := #[25] }, type := 25, pos := pos, after := #[{ on := 2, ground := .data }, { on := 1, ground := .chain }], guard := none },
    { dst := some d, op := .alloc 25, type := 0, pos := pos, after := #[], guard := none },
    { dst := some e, op := .alloc 25, type := 0, pos := pos, after := #[], guard := none },
    { dst := none, op := .store 25 (.tmp d) (.tmp s2), type := 0, pos := pos, after := #[{ on := 4, ground := .data }, { on := 1, ground := .data }, { on := 3, ground := .chain }, { on := 0, ground := .phase }, { on := 1, ground := .phase }, { on := 2, ground := .textOnly .lateStores }, { on := 3, ground := .textOnly .lateStoresUnsure }, { on := 4, ground := .phase }, { on := 5, ground := .phase }], guard := none },
    { dst := none, op := .store 25 (.tmp e) (.tmp s4), type := 0, pos := pos, after := #[{ on := 5, ground := .data }, { on := 3, ground := .data }, { on := 6, ground := .chain }, { on := 0, ground := .phase }, { on := 1, ground := .phase }, { on := 2, ground := .phase }, { on := 3, ground := .phase }, { on := 4, ground := .phase }, { on := 5, ground := .phase }, { on := 6, ground := .phase }], guard := none }]
theorem two_ready {p q s1 s2 s3 s4 d e f : Nat} {pos : String} {b0 b1 b2 b3 b4 b5 b6 b7 : Bool} (h : Region.ready .any (twoOps p q s1 s2 s3 s4 d e f pos) #[b0, b1, b2, b3, b4, b5, b6, b7] = []) :
    b0 = true ∧ b1 = true ∧ b2 = true ∧ b3 = true ∧ b4 = true ∧ b5 = true ∧ b6 = true ∧ b7 = true := by
  have key : ∀ i, i ∉ Region.ready .any (twoOps p q s1 s2 s3 s4 d e f pos) #[b0, b1, b2, b3, b4, b5, b6, b7] := by rw [h]; simp
  clear h
  cases b0 with
  | false => exact absurd (mem_ready.2 ⟨rfl, _, rfl, by simp [twoOps]⟩) (key 0)
  | true =>
    cases b1 with
    | false => exact absurd (mem_ready.2 ⟨rfl, _, rfl, by simp [twoOps]⟩) (key 1)
    | true =>
      cases b2 with
      | false => exact absurd (mem_ready.2 ⟨rfl, _, rfl, by simp [twoOps]⟩) (key 2)
      | true =>
        cases b3 with
        | false => exact absurd (mem_ready.2 ⟨rfl, _, rfl, by simp [twoOps]⟩) (key 3)
        | true =>
          cases b4 with
          | false => exact absurd (mem_ready.2 ⟨rfl, _, rfl, by simp [twoOps]⟩) (key 4)
          | true =>
            cases b5 with
            | false => exact absurd (mem_ready.2 ⟨rfl, _, rfl, by simp [twoOps]⟩) (key 5)
            | true =>
              cases b6 with
              | false => exact absurd (mem_ready.2 ⟨rfl, _, rfl, by simp [twoOps]⟩) (key 6)
              | true =>
                cases b7 with
                | false => exact absurd (mem_ready.2 ⟨rfl, _, rfl, by simp [twoOps]⟩) (key 7)
                | true => exact ⟨rfl, rfl, rfl, rfl, rfl, rfl, rfl, rfl⟩
def fl (b : Bool) : Nat := if b then 0 else 1
def TwoJ (a : Act) (w : World) (L A : Ar) (s1 s2 s3 s4 d e : Nat) (vL vA : Value) (n : Nat) (l : Array Bool) (a' : Act) (w' : World) : Prop :=
  ∃ b0 b1 b2 b3 b4 b5 b6 b7 : Bool, l = #[b0, b1, b2, b3, b4, b5, b6, b7] ∧ n = fl b0 + fl b1 + fl b2 + fl b3 + fl b4 + fl b5 + fl b6 + fl b7 ∧
    ∃ v1 v2 u1 u2 x5 x6 l1 h1 l2 h2, a' = pif b0 s1 vL (pif b1 s2 v1 (pif b2 s3 vA (pif b3 s4 v2 (pif b4 d u1 (pif b5 e u2 a))))) ∧ TwoM w L A b1 b3 b4 b5 b6 b7 v1 v2 u1 u2 x5 x6 l1 h1 l2 h2 w'
theorem fl_zero {b0 b1 b2 b3 b4 b5 b6 b7 : Bool} (h : 0 = fl b0 + fl b1 + fl b2 + fl b3 + fl b4 + fl b5 + fl b6 + fl b7) : b0 = true ∧ b1 = true ∧ b2 = true ∧ b3 = true ∧ b4 = true ∧ b5 = true ∧ b6 = true ∧ b7 = true := by
  have k : ∀ b, fl b = 0 → b = true := fun b => by cases b <;> simp [fl]
  exact ⟨k _ (by omega), k _ (by omega), k _ (by omega), k _ (by omega), k _ (by omega), k _ (by omega), k _ (by omega), k _ (by omega)⟩
set_option maxRecDepth 100000 in
set_option maxHeartbeats 1000000 in
theorem two_twins {p q s1 s2 s3 s4 d e f ri x y : Nat} {pos : String} {Q : Exit → Act → World → Prop} {a : Act} {w : World} {L A : Ar} (hm : Try.prog.follows .mixedOrders = true) (hf : ∀ x w, (callFunc f x).run Try.prog w = .ok (.enter f x) w)
    (hn : ([p, q, s1, s2, s3, s4, d, e] : List Nat).Nodup) (hsz : s1 < a.tmps.size ∧ s2 < a.tmps.size ∧ s3 < a.tmps.size ∧ s4 < a.tmps.size ∧ d < a.tmps.size ∧ e < a.tmps.size)
    (hp : a.tmps[p]?.getD undef = .pointer (some ⟨x, 0, none⟩)) (hq : a.tmps[q]?.getD undef = .pointer (some ⟨y, 0, none⟩)) (hx : BoxT w x L) (hy : BoxT w y A)
    (hL : ∀ v w', Ara w' v L → Calls Try.prog f #[v] w' (GaveA w' L)) (hA : ∀ v w', Ara w' v A → Calls Try.prog f #[v] w' (GaveA w' A))
    (hQ : ∀ w' x5 x6 v1 v2 vL vA, BoxT w' x5 L → BoxT w' x6 A → Chg (fun _ => False) w w' → Q .normal ((((((a.put (some e) (.pointer (some ⟨x6, 0, none⟩))).put (some d) (.pointer (some ⟨x5, 0, none⟩))).put (some s4) v2).put (some s3) vA).put (some s2) v1).put (some s1) vL) w') :
    (Code.region ri (twoOps p q s1 s2 s3 s4 d e f pos) true).wp Try.prog Q a w := by
  obtain ⟨z1, z2, z3, z4, zd, ze⟩ := hsz
  obtain ⟨sx, cx, ax, dx, ⟨x0, x1, x2⟩, hx⟩ := hx
  obtain ⟨sy, cy, ay, dy, ⟨y0, y1, y2⟩, hy⟩ := hy
  simp only [List.nodup_cons, List.mem_cons, List.not_mem_nil, or_false, not_or, List.nodup_nil, and_true, not_false_eq_true] at hn
  obtain ⟨⟨_, np1, np2, np3, np4, npd, npe⟩, ⟨nq1, nq2, nq3, nq4, nqd, nqe⟩, ⟨n12, n13, n14, n1d, n1e⟩, ⟨n23, n24, n2d, n2e⟩, ⟨n34, n3d, n3e⟩, ⟨n4d, n4e⟩, nde⟩ := hn
  obtain ⟨vL, hvL⟩ : ∃ v, (.agg #[.int .i64 L.k, .slice sx L.s.length cx, .slice ax L.e.length dx] : Value) = v := ⟨_, rfl⟩
  obtain ⟨vA, hvA⟩ : ∃ v, (.agg #[.int .i64 A.k, .slice sy A.s.length cy, .slice ay A.e.length dy] : Value) = v := ⟨_, rfl⟩
  rw [hvL] at hx
  rw [hvA] at hy
  refine wp_region_any hm (any_inv (TwoJ a w L A s1 s2 s3 s4 d e vL vA) ?_ ?_ ?_ _ _ _ _ ?_)
  · rintro n l a' w' ⟨b0, b1, b2, b3, b4, b5, b6, b7, rfl, _, v1, v2, u1, u2, x5, x6, l1, h1, l2, h2, rfl, hM⟩ hr
    obtain ⟨rfl, rfl, rfl, rfl, rfl, rfl, rfl, rfl⟩ := two_ready hr
    obtain ⟨rfl, rfl, k1, k2, k3⟩ := hM.done
    exact hQ w' x5 x6 v1 v2 _ _ k1 k2 k3
  · rintro l a' w' ⟨b0, b1, b2, b3, b4, b5, b6, b7, rfl, h0, _⟩
    obtain ⟨rfl, rfl, rfl, rfl, rfl, rfl, rfl, rfl⟩ := fl_zero h0
    rfl
  · rintro n l a' w' ⟨b0, b1, b2, b3, b4, b5, b6, b7, rfl, hcnt, v1, v2, u1, u2, x5, x6, l1, h1, l2, h2, rfl, hM⟩ i hi
    obtain ⟨hj, o, ho, hall⟩ := mem_ready.1 hi
    have hlt : i < 8 := (Array.getElem?_eq_some_iff.1 ho).1
    have hi8 : i = 0 ∨ i = 1 ∨ i = 2 ∨ i = 3 ∨ i = 4 ∨ i = 5 ∨ i = 6 ∨ i = 7 := by omega
    clear hlt hi
    rcases hi8 with rfl | rfl | rfl | rfl | rfl | rfl | rfl | rfl
    · obtain rfl : b0 = false := hj
      refine wpOp_go rfl rfl (twoLoad (x := x) ?_ (hM.ch.cell x0 id) (hM.ch.cell x1 id) (hM.ch.cell x2 id) ?_)
      · rw [pif_get (Ne.symm np1), pif_get (Ne.symm np2), pif_get (Ne.symm np3), pif_get (Ne.symm np4), pif_get (Ne.symm npd), pif_get (Ne.symm npe)]; exact hp
      · rw [hvL]; exact ⟨true, b1, b2, b3, b4, b5, b6, b7, rfl, by simp only [fl] at hcnt ⊢; simp at hcnt ⊢; omega, v1, v2, u1, u2, x5, x6, l1, h1, l2, h2, rfl, hM⟩
    · obtain rfl : b1 = false := hj
      obtain rfl : b0 = true := hall { on := 0, ground := .data } (by cases ho; exact Array.mem_of_getElem? (i := 0) rfl) rfl
      obtain rfl : b6 = false := by
        cases hb : b6 with
        | false => rfl
        | true => exact absurd (hM.s1 hb).1.1 (by simp)
      refine wpOp_go rfl rfl (twoCall hf (v := vL) ?_ ?_)
      · rw [pif_same (by simp only [pif_size]; exact z1)]; rfl
      · refine Calls.mono (hL _ _ (hx.fr hM.ch)) ?_
        rintro e' w2 ⟨v', rfl, ho', hC⟩
        exact ⟨v', rfl, true, true, b2, b3, b4, b5, false, b7, rfl, by simp only [fl] at hcnt ⊢; simp at hcnt ⊢; omega, v', v2, u1, u2, x5, x6, _, _, l2, h2, by rw [pif_put n12, pif_false], hM.call1 ho' hC⟩
    · obtain rfl : b2 = false := hj
      refine wpOp_go rfl rfl (twoLoad (x := y) ?_ (hM.ch.cell y0 id) (hM.ch.cell y1 id) (hM.ch.cell y2 id) ?_)
      · rw [pif_get (Ne.symm nq1), pif_get (Ne.symm nq2), pif_get (Ne.symm nq3), pif_get (Ne.symm nq4), pif_get (Ne.symm nqd), pif_get (Ne.symm nqe)]; exact hq
      · rw [hvA]; exact ⟨b0, b1, true, b3, b4, b5, b6, b7, rfl, by simp only [fl] at hcnt ⊢; simp at hcnt ⊢; omega, v1, v2, u1, u2, x5, x6, l1, h1, l2, h2, by rw [pif_put n13, pif_put n23, pif_false], hM⟩
    · obtain rfl : b3 = false := hj
      obtain rfl : b2 = true := hall { on := 2, ground := .data } (by cases ho; exact Array.mem_of_getElem? (i := 0) rfl) rfl
      obtain rfl : b7 = false := by
        cases hb : b7 with
        | false => rfl
        | true => exact absurd (hM.s2 hb).1.1 (by simp)
      refine wpOp_go rfl rfl (twoCall hf (v := vA) ?_ ?_)
      · rw [pif_get n13, pif_get n23, pif_same (by simp only [pif_size]; exact z3)]; rfl
      · refine Calls.mono (hA _ _ (hy.fr hM.ch)) ?_
        rintro e' w2 ⟨v', rfl, ho', hC⟩
        exact ⟨v', rfl, b0, b1, true, true, b4, b5, b6, false, rfl, by simp only [fl] at hcnt ⊢; simp at hcnt ⊢; omega, v1, v', u1, u2, x5, x6, l1, h1, _, _, by rw [pif_put n14, pif_put n24, pif_put n34, pif_false], (hM.swap.call1 ho' hC).swap⟩
    · obtain rfl : b4 = false := hj
      obtain rfl : b6 = false := by
        cases hb : b6 with
        | false => rfl
        | true => exact absurd (hM.s1 hb).1.2 (by simp)
      refine wpOp_go (o := { dst := some d, op := .alloc 25, type := 0, pos := pos, after := #[], guard := none }) rfl rfl ?_
      apply twoAlloc
      exact ⟨b0, b1, b2, b3, true, b5, false, b7, rfl, by simp only [fl] at hcnt ⊢; simp at hcnt ⊢; omega, v1, v2, _, u2, _, x6, l1, h1, l2, h2, by rw [pif_put n1d, pif_put n2d, pif_put n3d, pif_put n4d, pif_false], hM.alloc1⟩
    · obtain rfl : b5 = false := hj
      obtain rfl : b7 = false := by
        cases hb : b7 with
        | false => rfl
        | true => exact absurd (hM.s2 hb).1.2 (by simp)
      refine wpOp_go (o := { dst := some e, op := .alloc 25, type := 0, pos := pos, after := #[], guard := none }) rfl rfl ?_
      apply twoAlloc
      exact ⟨b0, b1, b2, b3, b4, true, b6, false, rfl, by simp only [fl] at hcnt ⊢; simp at hcnt ⊢; omega, v1, v2, u1, _, x5, _, l1, h1, l2, h2, by rw [pif_put n1e, pif_put n2e, pif_put n3e, pif_put n4e, pif_put nde, pif_false], hM.swap.alloc1.swap⟩
    · obtain rfl : b6 = false := hj
      obtain rfl : b4 = true := hall { on := 4, ground := .data } (by cases ho; exact Array.mem_of_getElem? (i := 0) rfl) rfl
      obtain rfl : b1 = true := hall { on := 1, ground := .data } (by cases ho; exact Array.mem_of_getElem? (i := 1) rfl) rfl
      obtain ⟨sa, cs, ae, ce, y0', y1', y2', rfl, rfl, hb, hM'⟩ := hM.store1
      refine wpOp_go rfl rfl (twoStore (k := L.k) (sa := sa) (n1 := L.s.length) (k1 := cs) (ae := ae) (n2 := L.e.length) (k2 := ce) ?_ ?_ hb ?_)
      · rw [pif_get n1d, pif_get n2d, pif_get n3d, pif_get n4d, pif_same (by simp only [pif_size]; exact zd)]; rfl
      · rw [pif_get n12, pif_same (by simp only [pif_size]; exact z2)]; rfl
      · exact ⟨b0, true, b2, b3, true, b5, true, b7, rfl, by simp only [fl] at hcnt ⊢; simp at hcnt ⊢; omega, _, v2, _, u2, x5, x6, l1, h1, l2, h2, rfl, hM'⟩
    · obtain rfl : b7 = false := hj
      obtain rfl : b5 = true := hall { on := 5, ground := .data } (by cases ho; exact Array.mem_of_getElem? (i := 0) rfl) rfl
      obtain rfl : b3 = true := hall { on := 3, ground := .data } (by cases ho; exact Array.mem_of_getElem? (i := 1) rfl) rfl
      obtain ⟨sa, cs, ae, ce, y0', y1', y2', rfl, rfl, hb, hM'⟩ := hM.swap.store1
      refine wpOp_go rfl rfl (twoStore (k := A.k) (sa := sa) (n1 := A.s.length) (k1 := cs) (ae := ae) (n2 := A.e.length) (k2 := ce) ?_ ?_ hb ?_)
      · rw [pif_get n1e, pif_get n2e, pif_get n3e, pif_get n4e, pif_get nde, pif_same ze]; rfl
      · rw [pif_get n14, pif_get n24, pif_get n34, pif_same (by simp only [pif_size]; exact z4)]; rfl
      · exact ⟨b0, b1, b2, true, b4, true, b6, true, rfl, by simp only [fl] at hcnt ⊢; simp at hcnt ⊢; omega, v1, _, u1, _, x5, x6, l1, h1, l2, h2, rfl, hM'.swap⟩
  · exact ⟨false, false, false, false, false, false, false, false, rfl, rfl, undef, undef, undef, undef, 0, 0, 0, 0, 0, 0, rfl, TwoM.start⟩
end Go.Proofs.Ytnjnajbdpaaikaa
