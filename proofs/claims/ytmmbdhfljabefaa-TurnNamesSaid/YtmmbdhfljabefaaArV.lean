/- A statement 'x, e = F(made here, y)', in whatever order. -/
import Derived.Test.YtmmbdhfljabefaaArT
namespace Go.Proofs.Ytmmbdhfljabefaa
open Go.RowKit

theorem oneCall {f t1 t2 s : Nat} {t3 : TypeId} {pos : String} {af : Array Edge} {a : Act} {w : World} {K : Act → World → Prop} {Q : Exit → Act → World → Prop} {u v : Value} (hf : ∀ x w, (callFunc f x).run Try.prog w = .ok (.enter f x) w) (hu : a.tmps[t1]?.getD undef = u) (hv : a.tmps[t2]?.getD undef = v)
    (h : Calls Try.prog f #[u, v] w (fun e w' => ∃ x, e = .returned x ∧ K (a.put (some s) x) w')) :
    Oper.wp Try.prog { dst := some s, op := .call { callee := .value (.func f), args := #[.tmp t1, .tmp t2], argTypes := #[25, 25] }, type := t3, pos := pos, after := af, guard := none } a w K Q := by
  go_simp
  refine Calls.mono h ?_
  rintro e w' ⟨u, rfl, hu⟩
  exact hu
theorem oneMove {s t : Nat} {t3 : TypeId} {pos : String} {af : Array Edge} {a : Act} {w : World} {K : Act → World → Prop} {Q : Exit → Act → World → Prop} {v : Value} (hv : a.tmps[t]?.getD undef = v) (h : K (a.put (some s) v) w) :
    Oper.wp Try.prog { dst := some s, op := .move (.tmp t), type := t3, pos := pos, after := af, guard := none } a w K Q := by
  go_simp
  exact h
theorem oneAssign {s t : Nat} {t3 : TypeId} {pos : String} {af : Array Edge} {a : Act} {w : World} {K : Act → World → Prop} {Q : Exit → Act → World → Prop} {v : Value} (hv : a.tmps[t]?.getD undef = v) (h : K (a.put (some s) v) w) :
    Oper.wp Try.prog { dst := some s, op := .assign (.tmp t), type := t3, pos := pos, after := af, guard := none } a w K Q := by
  go_simp
  exact h
theorem oneExt0 {s t : Nat} {t3 : TypeId} {pos : String} {af : Array Edge} {a : Act} {w : World} {K : Act → World → Prop} {Q : Exit → Act → World → Prop} {u v : Value} (hv : a.tmps[t]?.getD undef = .tuple #[u, v]) (h : K (a.put (some s) u) w) :
    Oper.wp Try.prog { dst := some s, op := .extract (.tmp t) 0, type := t3, pos := pos, after := af, guard := none } a w K Q := by
  go_simp
  exact h
theorem oneExt1 {s t : Nat} {t3 : TypeId} {pos : String} {af : Array Edge} {a : Act} {w : World} {K : Act → World → Prop} {Q : Exit → Act → World → Prop} {u v : Value} (hv : a.tmps[t]?.getD undef = .tuple #[u, v]) (h : K (a.put (some s) v) w) :
    Oper.wp Try.prog { dst := some s, op := .extract (.tmp t) 1, type := t3, pos := pos, after := af, guard := none } a w K Q := by
  go_simp
  exact h

def one_litOps (o0 : Oper) (o1 : Oper) (p s1 s2 s3 s4 s5 s6 d e f : Nat) (t3 t6 : TypeId) (pos : String) (E2 E3 E4 E5 E6 E7 E8 E9 : Array Edge) : Array Oper :=
  #[o0,
    o1,
    { dst := some s2, op := .load 25 (.tmp p), type := 25, pos := pos, after := E2, guard := none },
    { dst := some s3, op := .call { callee := .value (.func f), args := #[.tmp s1, .tmp s2], argTypes := #[25, 25] }, type := t3, pos := pos, after := E3, guard := none },
    { dst := some s4, op := .move (.tmp s3), type := t3, pos := pos, after := E4, guard := none },
    { dst := some s5, op := .extract (.tmp s4) 0, type := 25, pos := pos, after := E5, guard := none },
    { dst := some s6, op := .extract (.tmp s4) 1, type := t6, pos := pos, after := E6, guard := none },
    { dst := some d, op := .alloc 25, type := 0, pos := pos, after := E7, guard := none },
    { dst := none, op := .store 25 (.tmp d) (.tmp s5), type := 0, pos := pos, after := E8, guard := none },
    { dst := some e, op := .assign (.tmp s6), type := t6, pos := pos, after := E9, guard := none }]
structure OnelitM (w : World) (xs : List Int) (A1 R : Ar) (n : Int) (b0 b1 b2 b3 b4 b5 b6 b7 b8 b9 : Bool) (v0 v1 v3 : Value) (xd lo hi : Nat) (w' : World) : Prop where
  ch : Chg (fun _ => False) w w'
  p0 : b0 = true → b3 = false → Ls w' v0 xs
  p1 : b1 = true → b3 = false → Ara w' v1 A1
  r3 : b3 = true → b8 = false → OwnR w' lo hi v3 R
  al : b7 = true → w.heap.size ≤ xd ∧ (b8 = false → ∃ z0 z1 z2, Bx w' xd z0 z1 z2)
  sep : b3 = true → b7 = true → xd < lo ∨ hi ≤ xd
  st : b8 = true → BoxT w' xd R
  d43 : b4 = true → b3 = true
  d54 : b5 = true → b4 = true
  d64 : b6 = true → b4 = true
  d85 : b8 = true → b5 = true
  d87 : b8 = true → b7 = true
  d96 : b9 = true → b6 = true
  d31 : b3 = true → b1 = true
  d32 : b3 = true → b2 = true
  d10 : b1 = true → b0 = true
def flone_lit (b0 b1 b2 b3 b4 b5 b6 b7 b8 b9 : Bool) : Nat := fl b0 + fl b1 + fl b2 + fl b3 + fl b4 + fl b5 + fl b6 + fl b7 + fl b8 + fl b9
def OnelitJ (a : Act) (w : World) (xs : List Int) (A1 R : Ar) (n : Int) (s0 s1 s2 s3 s4 s5 s6 d e : Nat) (vx : Value) (k : Nat) (l : Array Bool) (a' : Act) (w' : World) : Prop :=
  ∃ b0 b1 b2 b3 b4 b5 b6 b7 b8 b9 : Bool, l = #[b0, b1, b2, b3, b4, b5, b6, b7, b8, b9] ∧ k = flone_lit b0 b1 b2 b3 b4 b5 b6 b7 b8 b9 ∧
    ∃ v0 v1 v3 xd lo hi, a' = pif b0 s0 v0 (pif b1 s1 v1 (pif b2 s2 vx (pif b3 s3 (.tuple #[v3, .int .i64 n]) (pif b4 s4 (.tuple #[v3, .int .i64 n]) (pif b5 s5 v3 (pif b6 s6 (.int .i64 n) (pif b7 d (.pointer (some ⟨xd, 0, none⟩)) (pif b9 e (.int .i64 n) a)))))))) ∧ OnelitM w xs A1 R n b0 b1 b2 b3 b4 b5 b6 b7 b8 b9 v0 v1 v3 xd lo hi w'
theorem one_lit_ready {o0 : Oper} {o1 : Oper} {p s1 s2 s3 s4 s5 s6 d e f : Nat} {t3 t6 : TypeId} {pos : String} {E2 E3 E4 E5 E6 E7 E8 E9 : Array Edge} {b0 b1 b2 b3 b4 b5 b6 b7 b8 b9 : Bool} (hlow : (∀ x ∈ o0.after, Region.binds .any x = true → x.on < 0) ∧ (∀ x ∈ o1.after, Region.binds .any x = true → x.on < 1) ∧ (∀ x ∈ E2, Region.binds .any x = true → x.on < 2) ∧ (∀ x ∈ E3, Region.binds .any x = true → x.on < 3) ∧ (∀ x ∈ E4, Region.binds .any x = true → x.on < 4) ∧ (∀ x ∈ E5, Region.binds .any x = true → x.on < 5) ∧ (∀ x ∈ E6, Region.binds .any x = true → x.on < 6) ∧ (∀ x ∈ E7, Region.binds .any x = true → x.on < 7) ∧ (∀ x ∈ E8, Region.binds .any x = true → x.on < 8) ∧ (∀ x ∈ E9, Region.binds .any x = true → x.on < 9)) (h : Region.ready .any (one_litOps o0 o1 p s1 s2 s3 s4 s5 s6 d e f t3 t6 pos E2 E3 E4 E5 E6 E7 E8 E9) #[b0, b1, b2, b3, b4, b5, b6, b7, b8, b9] = []) : b0 = true ∧ b1 = true ∧ b2 = true ∧ b3 = true ∧ b4 = true ∧ b5 = true ∧ b6 = true ∧ b7 = true ∧ b8 = true ∧ b9 = true := by
  have key : ∀ i, i ∉ Region.ready .any (one_litOps o0 o1 p s1 s2 s3 s4 s5 s6 d e f t3 t6 pos E2 E3 E4 E5 E6 E7 E8 E9) #[b0, b1, b2, b3, b4, b5, b6, b7, b8, b9] := by rw [h]; simp
  clear h
  obtain ⟨l0, l1, l2, l3, l4, l5, l6, l7, l8, l9⟩ := hlow
  cases b0 with
  | false => exact absurd (mem_ready.2 ⟨rfl, _, rfl, fun x hx hb => by have hl := l0 x hx hb; clear hb; obtain ⟨xo, xg⟩ := x; simp only at hl ⊢; omega⟩) (key 0)
  | true =>
    cases b1 with
    | false => exact absurd (mem_ready.2 ⟨rfl, _, rfl, fun x hx hb => by have hl := l1 x hx hb; clear hb; obtain ⟨xo, xg⟩ := x; simp only at hl ⊢; rcases (show xo = 0 by omega) with rfl <;> rfl⟩) (key 1)
    | true =>
      cases b2 with
      | false => exact absurd (mem_ready.2 ⟨rfl, _, rfl, fun x hx hb => by have hl := l2 x hx hb; clear hb; obtain ⟨xo, xg⟩ := x; simp only at hl ⊢; rcases (show xo = 0 ∨ xo = 1 by omega) with rfl | rfl <;> rfl⟩) (key 2)
      | true =>
        cases b3 with
        | false => exact absurd (mem_ready.2 ⟨rfl, _, rfl, fun x hx hb => by have hl := l3 x hx hb; clear hb; obtain ⟨xo, xg⟩ := x; simp only at hl ⊢; rcases (show xo = 0 ∨ xo = 1 ∨ xo = 2 by omega) with rfl | rfl | rfl <;> rfl⟩) (key 3)
        | true =>
          cases b4 with
          | false => exact absurd (mem_ready.2 ⟨rfl, _, rfl, fun x hx hb => by have hl := l4 x hx hb; clear hb; obtain ⟨xo, xg⟩ := x; simp only at hl ⊢; rcases (show xo = 0 ∨ xo = 1 ∨ xo = 2 ∨ xo = 3 by omega) with rfl | rfl | rfl | rfl <;> rfl⟩) (key 4)
          | true =>
            cases b5 with
            | false => exact absurd (mem_ready.2 ⟨rfl, _, rfl, fun x hx hb => by have hl := l5 x hx hb; clear hb; obtain ⟨xo, xg⟩ := x; simp only at hl ⊢; rcases (show xo = 0 ∨ xo = 1 ∨ xo = 2 ∨ xo = 3 ∨ xo = 4 by omega) with rfl | rfl | rfl | rfl | rfl <;> rfl⟩) (key 5)
            | true =>
              cases b6 with
              | false => exact absurd (mem_ready.2 ⟨rfl, _, rfl, fun x hx hb => by have hl := l6 x hx hb; clear hb; obtain ⟨xo, xg⟩ := x; simp only at hl ⊢; rcases (show xo = 0 ∨ xo = 1 ∨ xo = 2 ∨ xo = 3 ∨ xo = 4 ∨ xo = 5 by omega) with rfl | rfl | rfl | rfl | rfl | rfl <;> rfl⟩) (key 6)
              | true =>
                cases b7 with
                | false => exact absurd (mem_ready.2 ⟨rfl, _, rfl, fun x hx hb => by have hl := l7 x hx hb; clear hb; obtain ⟨xo, xg⟩ := x; simp only at hl ⊢; rcases (show xo = 0 ∨ xo = 1 ∨ xo = 2 ∨ xo = 3 ∨ xo = 4 ∨ xo = 5 ∨ xo = 6 by omega) with rfl | rfl | rfl | rfl | rfl | rfl | rfl <;> rfl⟩) (key 7)
                | true =>
                  cases b8 with
                  | false => exact absurd (mem_ready.2 ⟨rfl, _, rfl, fun x hx hb => by have hl := l8 x hx hb; clear hb; obtain ⟨xo, xg⟩ := x; simp only at hl ⊢; rcases (show xo = 0 ∨ xo = 1 ∨ xo = 2 ∨ xo = 3 ∨ xo = 4 ∨ xo = 5 ∨ xo = 6 ∨ xo = 7 by omega) with rfl | rfl | rfl | rfl | rfl | rfl | rfl | rfl <;> rfl⟩) (key 8)
                  | true =>
                    cases b9 with
                    | false => exact absurd (mem_ready.2 ⟨rfl, _, rfl, fun x hx hb => by have hl := l9 x hx hb; clear hb; obtain ⟨xo, xg⟩ := x; simp only at hl ⊢; rcases (show xo = 0 ∨ xo = 1 ∨ xo = 2 ∨ xo = 3 ∨ xo = 4 ∨ xo = 5 ∨ xo = 6 ∨ xo = 7 ∨ xo = 8 by omega) with rfl | rfl | rfl | rfl | rfl | rfl | rfl | rfl | rfl <;> rfl⟩) (key 9)
                    | true =>
                      exact ⟨rfl, rfl, rfl, rfl, rfl, rfl, rfl, rfl, rfl, rfl⟩
set_option maxRecDepth 100000 in
set_option maxHeartbeats 2000000 in
theorem one_lit_region {o0 : Oper} {s0 : Nat} {o1 : Oper} {p s1 s2 s3 s4 s5 s6 d e f : Nat} {t3 t6 : TypeId} {pos : String} {E2 E3 E4 E5 E6 E7 E8 E9 : Array Edge} {ri x : Nat} {Q : Exit → Act → World → Prop} {a : Act} {w : World} {A1 A R : Ar} {n : Int} {xs : List Int} (hm : Try.prog.follows .mixedOrders = true) (hf : ∀ x w, (callFunc f x).run Try.prog w = .ok (.enter f x) w)
    (hn : ([p, s0, s1, s2, s3, s4, s5, s6, d, e] : List Nat).Nodup) (hsz : s0 < a.tmps.size ∧ s1 < a.tmps.size ∧ s2 < a.tmps.size ∧ s3 < a.tmps.size ∧ s4 < a.tmps.size ∧ s5 < a.tmps.size ∧ s6 < a.tmps.size ∧ d < a.tmps.size ∧ e < a.tmps.size)
    (hp : a.tmps[p]?.getD undef = .pointer (some ⟨x, 0, none⟩)) (hx : BoxT w x A) (hg : o0.guard = none ∧ o1.guard = none)
    (h0 : (∀ (a : Act) (w : World) (K : Act → World → Prop) (Q : Exit → Act → World → Prop), (∀ u w', Ls w' u xs → Chg (fun _ => False) w w' → K (a.put (some s0) u) w') → o0.wp Try.prog a w K Q))
    (h1 : (∀ (a : Act) (w : World) (K : Act → World → Prop) (Q : Exit → Act → World → Prop), (∃ u, a.tmps[s0]? = some u ∧ Ls w u xs) → (∀ u w', Ara w' u A1 → Chg (fun _ => False) w w' → K (a.put (some s1) u) w') → o1.wp Try.prog a w K Q))
    (h2 : ∀ u v w', Ara w' u A1 → Ara w' v A → Calls Try.prog f #[u, v] w' (GaveAE w' R n))
    (hlow : (∀ x ∈ o0.after, Region.binds .any x = true → x.on < 0) ∧ (∀ x ∈ o1.after, Region.binds .any x = true → x.on < 1) ∧ (∀ x ∈ E2, Region.binds .any x = true → x.on < 2) ∧ (∀ x ∈ E3, Region.binds .any x = true → x.on < 3) ∧ (∀ x ∈ E4, Region.binds .any x = true → x.on < 4) ∧ (∀ x ∈ E5, Region.binds .any x = true → x.on < 5) ∧ (∀ x ∈ E6, Region.binds .any x = true → x.on < 6) ∧ (∀ x ∈ E7, Region.binds .any x = true → x.on < 7) ∧ (∀ x ∈ E8, Region.binds .any x = true → x.on < 8) ∧ (∀ x ∈ E9, Region.binds .any x = true → x.on < 9)) (hdep : ({ on := 0, ground := .data } : Edge) ∈ o1.after ∧ ({ on := 1, ground := .data } : Edge) ∈ E3 ∧ ({ on := 2, ground := .data } : Edge) ∈ E3 ∧ ({ on := 3, ground := .data } : Edge) ∈ E4 ∧ ({ on := 4, ground := .data } : Edge) ∈ E5 ∧ ({ on := 4, ground := .data } : Edge) ∈ E6 ∧ ({ on := 7, ground := .data } : Edge) ∈ E8 ∧ ({ on := 5, ground := .data } : Edge) ∈ E8 ∧ ({ on := 6, ground := .data } : Edge) ∈ E9)
    (hQ : ∀ w' xd v0 v1 vx v3, BoxT w' xd R → Chg (fun _ => False) w w' → Q .normal (((((((((a.put (some e) (.int .i64 n)).put (some d) (.pointer (some ⟨xd, 0, none⟩))).put (some s6) (.int .i64 n)).put (some s5) v3).put (some s4) (.tuple #[v3, .int .i64 n])).put (some s3) (.tuple #[v3, .int .i64 n])).put (some s2) vx).put (some s1) v1).put (some s0) v0) w') :
    (Code.region ri (one_litOps o0 o1 p s1 s2 s3 s4 s5 s6 d e f t3 t6 pos E2 E3 E4 E5 E6 E7 E8 E9) true).wp Try.prog Q a w := by
  obtain ⟨zs0, zs1, zs2, zs3, zs4, zs5, zs6, zd, ze⟩ := hsz
  obtain ⟨sx, cx, ax, dx, ⟨x0, x1, x2⟩, hx⟩ := hx
  simp only [List.nodup_cons, List.mem_cons, List.not_mem_nil, or_false, not_or, List.nodup_nil, and_true, not_false_eq_true] at hn
  obtain ⟨⟨nps0, nps1, nps2, nps3, nps4, nps5, nps6, npd, npe⟩, ⟨ns0s1, ns0s2, ns0s3, ns0s4, ns0s5, ns0s6, ns0d, ns0e⟩, ⟨ns1s2, ns1s3, ns1s4, ns1s5, ns1s6, ns1d, ns1e⟩, ⟨ns2s3, ns2s4, ns2s5, ns2s6, ns2d, ns2e⟩, ⟨ns3s4, ns3s5, ns3s6, ns3d, ns3e⟩, ⟨ns4s5, ns4s6, ns4d, ns4e⟩, ⟨ns5s6, ns5d, ns5e⟩, ⟨ns6d, ns6e⟩, nde⟩ := hn
  obtain ⟨vx, hvx⟩ : ∃ v, (.agg #[.int .i64 A.k, .slice sx A.s.length cx, .slice ax A.e.length dx] : Value) = v := ⟨_, rfl⟩
  rw [hvx] at hx
  have hready := fun (b0 : Bool) (b1 : Bool) (b2 : Bool) (b3 : Bool) (b4 : Bool) (b5 : Bool) (b6 : Bool) (b7 : Bool) (b8 : Bool) (b9 : Bool) => @one_lit_ready o0 o1 p s1 s2 s3 s4 s5 s6 d e f t3 t6 pos E2 E3 E4 E5 E6 E7 E8 E9 b0 b1 b2 b3 b4 b5 b6 b7 b8 b9 hlow
  obtain ⟨e0, e1, e2, e3, e4, e5, e6, e7, e8⟩ := hdep
  refine wp_region_any hm (any_inv (OnelitJ a w xs A1 R n s0 s1 s2 s3 s4 s5 s6 d e vx) ?_ ?_ ?_ _ _ _ _ ?_)
  · rintro k l a' w' ⟨b0, b1, b2, b3, b4, b5, b6, b7, b8, b9, rfl, _, v0, v1, v3, xd, lo, hi, rfl, hM⟩ hr
    obtain ⟨rfl, rfl, rfl, rfl, rfl, rfl, rfl, rfl, rfl, rfl⟩ := hready _ _ _ _ _ _ _ _ _ _ hr
    exact hQ w' xd v0 v1 vx v3 (hM.st rfl) hM.ch
  · rintro l a' w' ⟨b0, b1, b2, b3, b4, b5, b6, b7, b8, b9, rfl, h0z, _⟩
    have kz : ∀ b, fl b = 0 → b = true := fun b => by cases b <;> simp [fl]
    unfold flone_lit at h0z
    obtain rfl := kz b0 (by omega)
    obtain rfl := kz b1 (by omega)
    obtain rfl := kz b2 (by omega)
    obtain rfl := kz b3 (by omega)
    obtain rfl := kz b4 (by omega)
    obtain rfl := kz b5 (by omega)
    obtain rfl := kz b6 (by omega)
    obtain rfl := kz b7 (by omega)
    obtain rfl := kz b8 (by omega)
    obtain rfl := kz b9 (by omega)
    refine List.eq_nil_iff_forall_not_mem.2 (fun i hi => ?_)
    obtain ⟨hj, o, ho, _⟩ := mem_ready.1 hi
    have hi2 : i < 10 := (Array.getElem?_eq_some_iff.1 ho).1
    clear hi ho
    rcases (show i = 0 ∨ i = 1 ∨ i = 2 ∨ i = 3 ∨ i = 4 ∨ i = 5 ∨ i = 6 ∨ i = 7 ∨ i = 8 ∨ i = 9 by omega) with rfl | rfl | rfl | rfl | rfl | rfl | rfl | rfl | rfl | rfl <;> exact absurd hj (by decide)
  · rintro k l a' w' ⟨b0, b1, b2, b3, b4, b5, b6, b7, b8, b9, rfl, hcnt, v0, v1, v3, xd, lo, hi, rfl, hM⟩ i hi
    obtain ⟨hj, o, ho, hall⟩ := mem_ready.1 hi
    have hlt : i < 10 := (Array.getElem?_eq_some_iff.1 ho).1
    have hi8 : i = 0 ∨ i = 1 ∨ i = 2 ∨ i = 3 ∨ i = 4 ∨ i = 5 ∨ i = 6 ∨ i = 7 ∨ i = 8 ∨ i = 9 := by omega
    clear hlt hi
    rcases hi8 with rfl | rfl | rfl | rfl | rfl | rfl | rfl | rfl | rfl | rfl
    · obtain rfl : b0 = false := hj
      obtain rfl : b1 = false := by
        cases hb : b1 with
        | false => rfl
        | true => exact absurd (hM.d10 hb) (by simp)
      obtain rfl : b3 = false := by
        cases hb : b3 with
        | false => rfl
        | true => exact absurd (hM.d31 hb) (by simp)
      obtain rfl : b4 = false := by
        cases hb : b4 with
        | false => rfl
        | true => exact absurd (hM.d43 hb) (by simp)
      obtain rfl : b5 = false := by
        cases hb : b5 with
        | false => rfl
        | true => exact absurd (hM.d54 hb) (by simp)
      obtain rfl : b6 = false := by
        cases hb : b6 with
        | false => rfl
        | true => exact absurd (hM.d64 hb) (by simp)
      obtain rfl : b8 = false := by
        cases hb : b8 with
        | false => rfl
        | true => exact absurd (hM.d85 hb) (by simp)
      obtain rfl : b9 = false := by
        cases hb : b9 with
        | false => rfl
        | true => exact absurd (hM.d96 hb) (by simp)
      refine wpOp_go (o := o0) rfl hg.1 (h0 _ _ _ _ fun u w2 hu hC => ?_)
      exact ⟨true, false, b2, false, false, false, false, b7, false, false, rfl, by unfold flone_lit at hcnt ⊢; simp only [fl] at hcnt ⊢; simp at hcnt ⊢; omega, u, v1, v3, xd, lo, hi, rfl, { ch := hM.ch.tr hC, p0 := fun _ _ => hu, p1 := fun e => (by cases e), r3 := fun e => (by cases e), al := fun q => ⟨(hM.al q).1, fun q2 => (by obtain ⟨z0, z1, z2, hb⟩ := (hM.al q).2 rfl; exact ⟨z0, z1, z2, hb.fr hC⟩)⟩, sep := fun e => (by cases e), st := fun e => (by cases e), d43 := hM.d43, d54 := hM.d54, d64 := hM.d64, d85 := hM.d85, d87 := hM.d87, d96 := hM.d96, d31 := hM.d31, d32 := hM.d32, d10 := fun e => (by cases e) }⟩
    · obtain rfl : b1 = false := hj
      obtain rfl : b3 = false := by
        cases hb : b3 with
        | false => rfl
        | true => exact absurd (hM.d31 hb) (by simp)
      obtain rfl : b4 = false := by
        cases hb : b4 with
        | false => rfl
        | true => exact absurd (hM.d43 hb) (by simp)
      obtain rfl : b5 = false := by
        cases hb : b5 with
        | false => rfl
        | true => exact absurd (hM.d54 hb) (by simp)
      obtain rfl : b6 = false := by
        cases hb : b6 with
        | false => rfl
        | true => exact absurd (hM.d64 hb) (by simp)
      obtain rfl : b8 = false := by
        cases hb : b8 with
        | false => rfl
        | true => exact absurd (hM.d85 hb) (by simp)
      obtain rfl : b9 = false := by
        cases hb : b9 with
        | false => rfl
        | true => exact absurd (hM.d96 hb) (by simp)
      obtain rfl : b0 = true := hall { on := 0, ground := .data } (by cases ho; exact e0) rfl
      refine wpOp_go (o := o1) rfl hg.2 (h1 _ _ _ _ ⟨v0, by rw [pif_same (by simp only [pif_size]; exact zs0)], hM.p0 rfl rfl⟩ fun u w2 hu hC => ?_)
      exact ⟨true, true, b2, false, false, false, false, b7, false, false, rfl, by unfold flone_lit at hcnt ⊢; simp only [fl] at hcnt ⊢; simp at hcnt ⊢; omega, v0, u, v3, xd, lo, hi, by rw [pif_put ns0s1, pif_false], { ch := hM.ch.tr hC, p0 := fun _ _ => (hM.p0 rfl rfl).fr hC, p1 := fun _ _ => hu, r3 := fun e => (by cases e), al := fun q => ⟨(hM.al q).1, fun q2 => (by obtain ⟨z0, z1, z2, hb⟩ := (hM.al q).2 rfl; exact ⟨z0, z1, z2, hb.fr hC⟩)⟩, sep := fun e => (by cases e), st := fun e => (by cases e), d43 := hM.d43, d54 := hM.d54, d64 := hM.d64, d85 := hM.d85, d87 := hM.d87, d96 := hM.d96, d31 := fun _ => rfl, d32 := hM.d32, d10 := fun _ => rfl }⟩
    · obtain rfl : b2 = false := hj
      refine wpOp_go rfl rfl (twoLoad (x := x) ?_ (hM.ch.cell x0 id) (hM.ch.cell x1 id) (hM.ch.cell x2 id) ?_)
      · rw [pif_get (Ne.symm nps0), pif_get (Ne.symm nps1), pif_get (Ne.symm nps2), pif_get (Ne.symm nps3), pif_get (Ne.symm nps4), pif_get (Ne.symm nps5), pif_get (Ne.symm nps6), pif_get (Ne.symm npd), pif_get (Ne.symm npe)]; exact hp
      · rw [hvx]; exact ⟨b0, b1, true, b3, b4, b5, b6, b7, b8, b9, rfl, by unfold flone_lit at hcnt ⊢; simp only [fl] at hcnt ⊢; simp at hcnt ⊢; omega, v0, v1, v3, xd, lo, hi, by rw [pif_put ns0s2, pif_put ns1s2, pif_false], { hM with d32 := fun _ => rfl }⟩
    · obtain rfl : b3 = false := hj
      obtain rfl : b1 = true := hall { on := 1, ground := .data } (by cases ho; exact e1) rfl
      obtain rfl : b2 = true := hall { on := 2, ground := .data } (by cases ho; exact e2) rfl
      obtain rfl : b4 = false := by
        cases hb : b4 with
        | false => rfl
        | true => exact absurd (hM.d43 hb) (by simp)
      obtain rfl : b5 = false := by
        cases hb : b5 with
        | false => rfl
        | true => exact absurd (hM.d54 hb) (by simp)
      obtain rfl : b6 = false := by
        cases hb : b6 with
        | false => rfl
        | true => exact absurd (hM.d64 hb) (by simp)
      obtain rfl : b8 = false := by
        cases hb : b8 with
        | false => rfl
        | true => exact absurd (hM.d85 hb) (by simp)
      obtain rfl : b9 = false := by
        cases hb : b9 with
        | false => rfl
        | true => exact absurd (hM.d96 hb) (by simp)
      obtain rfl : b0 = true := hM.d10 rfl
      refine wpOp_go rfl rfl (oneCall hf (u := v1) (v := vx) ?_ ?_ ?_)
      · rw [pif_get ns0s1, pif_same (by simp only [pif_size]; exact zs1)]; rfl
      · rw [pif_get ns0s2, pif_get ns1s2, pif_same (by simp only [pif_size]; exact zs2)]; rfl
      · refine Calls.mono (h2 v1 vx _ (hM.p1 rfl rfl) (hx.fr hM.ch)) ?_
        rintro e' w2 ⟨v', rfl, ho', hC⟩
        exact ⟨_, rfl, true, true, true, true, false, false, false, b7, false, false, rfl, by unfold flone_lit at hcnt ⊢; simp only [fl] at hcnt ⊢; simp at hcnt ⊢; omega, v0, v1, v', xd, _, _, by rw [pif_put ns0s3, pif_put ns1s3, pif_put ns2s3, pif_false]; rfl, { ch := hM.ch.tr hC, p0 := fun _ e => (by cases e), p1 := fun _ e => (by cases e), r3 := fun _ _ => OwnR.of ho', al := fun q => ⟨(hM.al q).1, fun q2 => (by obtain ⟨z0, z1, z2, hb⟩ := (hM.al q).2 rfl; exact ⟨z0, z1, z2, hb.fr hC⟩)⟩, sep := fun _ q => .inl (by obtain ⟨z0, z1, z2, hb⟩ := (hM.al q).2 rfl; exact hb.lt), st := fun e => (by cases e), d43 := fun _ => rfl, d54 := hM.d54, d64 := hM.d64, d85 := hM.d85, d87 := hM.d87, d96 := hM.d96, d31 := fun _ => rfl, d32 := fun _ => rfl, d10 := fun _ => rfl }⟩
    · obtain rfl : b4 = false := hj
      obtain rfl : b3 = true := hall { on := 3, ground := .data } (by cases ho; exact e3) rfl
      obtain rfl : b5 = false := by
        cases hb : b5 with
        | false => rfl
        | true => exact absurd (hM.d54 hb) (by simp)
      obtain rfl : b6 = false := by
        cases hb : b6 with
        | false => rfl
        | true => exact absurd (hM.d64 hb) (by simp)
      obtain rfl : b8 = false := by
        cases hb : b8 with
        | false => rfl
        | true => exact absurd (hM.d85 hb) (by simp)
      obtain rfl : b9 = false := by
        cases hb : b9 with
        | false => rfl
        | true => exact absurd (hM.d96 hb) (by simp)
      refine wpOp_go rfl rfl (oneMove (v := .tuple #[v3, .int .i64 n]) ?_ ?_)
      · rw [pif_get ns0s3, pif_get ns1s3, pif_get ns2s3, pif_same (by simp only [pif_size]; exact zs3)]; rfl
      · exact ⟨b0, b1, b2, true, true, false, false, b7, false, false, rfl, by unfold flone_lit at hcnt ⊢; simp only [fl] at hcnt ⊢; simp at hcnt ⊢; omega, v0, v1, v3, xd, lo, hi, by rw [pif_put ns0s4, pif_put ns1s4, pif_put ns2s4, pif_put ns3s4, pif_false], { hM with d43 := fun _ => rfl, d54 := fun _ => rfl, d64 := fun _ => rfl }⟩
    · obtain rfl : b5 = false := hj
      obtain rfl : b4 = true := hall { on := 4, ground := .data } (by cases ho; exact e4) rfl
      obtain rfl : b8 = false := by
        cases hb : b8 with
        | false => rfl
        | true => exact absurd (hM.d85 hb) (by simp)
      refine wpOp_go rfl rfl (oneExt0 (u := v3) (v := .int .i64 n) ?_ ?_)
      · rw [pif_get ns0s4, pif_get ns1s4, pif_get ns2s4, pif_get ns3s4, pif_same (by simp only [pif_size]; exact zs4)]; rfl
      · exact ⟨b0, b1, b2, b3, true, true, b6, b7, false, b9, rfl, by unfold flone_lit at hcnt ⊢; simp only [fl] at hcnt ⊢; simp at hcnt ⊢; omega, v0, v1, v3, xd, lo, hi, by rw [pif_put ns0s5, pif_put ns1s5, pif_put ns2s5, pif_put ns3s5, pif_put ns4s5, pif_false], { hM with d54 := fun _ => rfl, d85 := fun _ => rfl }⟩
    · obtain rfl : b6 = false := hj
      obtain rfl : b4 = true := hall { on := 4, ground := .data } (by cases ho; exact e5) rfl
      obtain rfl : b9 = false := by
        cases hb : b9 with
        | false => rfl
        | true => exact absurd (hM.d96 hb) (by simp)
      refine wpOp_go rfl rfl (oneExt1 (u := v3) (v := .int .i64 n) ?_ ?_)
      · rw [pif_get ns0s4, pif_get ns1s4, pif_get ns2s4, pif_get ns3s4, pif_same (by simp only [pif_size]; exact zs4)]; rfl
      · exact ⟨b0, b1, b2, b3, true, b5, true, b7, b8, false, rfl, by unfold flone_lit at hcnt ⊢; simp only [fl] at hcnt ⊢; simp at hcnt ⊢; omega, v0, v1, v3, xd, lo, hi, by rw [pif_put ns0s6, pif_put ns1s6, pif_put ns2s6, pif_put ns3s6, pif_put ns4s6, pif_put ns5s6, pif_false], { hM with d64 := fun _ => rfl, d96 := fun _ => rfl }⟩
    · obtain rfl : b7 = false := hj
      obtain rfl : b8 = false := by
        cases hb : b8 with
        | false => rfl
        | true => exact absurd (hM.d87 hb) (by simp)
      refine wpOp_go (o := { dst := some d, op := .alloc 25, type := 0, pos := pos, after := E7, guard := none }) rfl rfl ?_
      apply twoAlloc
      have hC : Chg (fun _ => False) w' (w'.alloc (.cells #[.int .i64 0, .slice none 0 0, .slice none 0 0] 25)) := (Chg.refl _ _).alloc _
      exact ⟨b0, b1, b2, b3, b4, b5, b6, true, false, b9, rfl, by unfold flone_lit at hcnt ⊢; simp only [fl] at hcnt ⊢; simp at hcnt ⊢; omega, v0, v1, v3, _, lo, hi, by rw [pif_put ns0d, pif_put ns1d, pif_put ns2d, pif_put ns3d, pif_put ns4d, pif_put ns5d, pif_put ns6d, pif_false], { ch := hM.ch.tr hC, p0 := fun e q => (hM.p0 e q).fr hC, p1 := fun e q => (hM.p1 e q).fr hC, r3 := fun e q => (hM.r3 e q).chg hC (fun _ _ _ => id), al := fun _ => ⟨hM.ch.size, fun _ => ⟨_, _, _, Bx.new _ _ _ _ _⟩⟩, sep := fun q _ => .inr (hM.r3 q rfl).1, st := fun e => (by cases e), d43 := hM.d43, d54 := hM.d54, d64 := hM.d64, d85 := hM.d85, d87 := fun _ => rfl, d96 := hM.d96, d31 := hM.d31, d32 := hM.d32, d10 := hM.d10 }⟩
    · obtain rfl : b8 = false := hj
      obtain rfl : b7 = true := hall { on := 7, ground := .data } (by cases ho; exact e6) rfl
      obtain rfl : b5 = true := hall { on := 5, ground := .data } (by cases ho; exact e7) rfl
      obtain rfl : b4 = true := hM.d54 rfl
      obtain rfl : b3 = true := hM.d43 rfl
      have hown := hM.r3 rfl rfl
      obtain ⟨hlo, hbx⟩ := hM.al rfl
      obtain ⟨z0, z1, z2, hb⟩ := hbx rfl
      obtain ⟨sa, cs, ae, ce, hv⟩ := hown.val
      have hC := chg3 w' xd (.int .i64 R.k) (.slice sa R.s.length cs) (.slice ae R.e.length ce)
      have hown2 := (hown.chg hC (fun q k1 k2 k3 => by have := hM.sep rfl rfl; omega)).ara
      rw [hv] at hown2
      refine wpOp_go rfl rfl (twoStore (k := R.k) (sa := sa) (n1 := R.s.length) (k1 := cs) (ae := ae) (n2 := R.e.length) (k2 := ce) ?_ ?_ hb ?_)
      · rw [pif_get ns0d, pif_get ns1d, pif_get ns2d, pif_get ns3d, pif_get ns4d, pif_get ns5d, pif_get ns6d, pif_same (by simp only [pif_size]; exact zd)]; rfl
      · rw [pif_get ns0s5, pif_get ns1s5, pif_get ns2s5, pif_get ns3s5, pif_get ns4s5, pif_same (by simp only [pif_size]; exact zs5), hv]; rfl
      · exact ⟨b0, b1, b2, true, true, true, b6, true, true, b9, rfl, by unfold flone_lit at hcnt ⊢; simp only [fl] at hcnt ⊢; simp at hcnt ⊢; omega, v0, v1, v3, xd, lo, hi, rfl, { ch := chg_set3 hM.ch hlo _ _ _, p0 := fun _ e => (by cases e), p1 := fun _ e => (by cases e), r3 := fun _ e => (by cases e), al := fun _ => ⟨hlo, fun e => (by cases e)⟩, sep := hM.sep, st := fun _ => ⟨sa, cs, ae, ce, bx_c3 hb _ _ _, hown2⟩, d43 := hM.d43, d54 := hM.d54, d64 := hM.d64, d85 := fun _ => rfl, d87 := fun _ => rfl, d96 := hM.d96, d31 := hM.d31, d32 := hM.d32, d10 := hM.d10 }⟩
    · obtain rfl : b9 = false := hj
      obtain rfl : b6 = true := hall { on := 6, ground := .data } (by cases ho; exact e8) rfl
      refine wpOp_go rfl rfl (oneAssign (v := .int .i64 n) ?_ ?_)
      · rw [pif_get ns0s6, pif_get ns1s6, pif_get ns2s6, pif_get ns3s6, pif_get ns4s6, pif_get ns5s6, pif_same (by simp only [pif_size]; exact zs6)]; rfl
      · exact ⟨b0, b1, b2, b3, b4, b5, true, b7, b8, true, rfl, by unfold flone_lit at hcnt ⊢; simp only [fl] at hcnt ⊢; simp at hcnt ⊢; omega, v0, v1, v3, xd, lo, hi, by rw [pif_put ns0e, pif_put ns1e, pif_put ns2e, pif_put ns3e, pif_put ns4e, pif_put ns5e, pif_put ns6e, pif_put nde, pif_false], { hM with d96 := fun _ => rfl }⟩
  · exact ⟨false, false, false, false, false, false, false, false, false, false, rfl, rfl, undef, undef, undef, 0, 0, 0, rfl, { ch := (Chg.refl _ _).drew, p0 := (by simp), p1 := (by simp), r3 := (by simp), al := (by simp), sep := (by simp), st := (by simp), d43 := (by simp), d54 := (by simp), d64 := (by simp), d85 := (by simp), d87 := (by simp), d96 := (by simp), d31 := (by simp), d32 := (by simp), d10 := (by simp) }⟩
def one_conOps (o1 : Oper) (p s1 s2 s3 s4 s5 s6 d e f : Nat) (t3 t6 : TypeId) (pos : String) (E2 E3 E4 E5 E6 E7 E8 E9 : Array Edge) : Array Oper :=
  #[o1,
    { dst := some s2, op := .load 25 (.tmp p), type := 25, pos := pos, after := E2, guard := none },
    { dst := some s3, op := .call { callee := .value (.func f), args := #[.tmp s1, .tmp s2], argTypes := #[25, 25] }, type := t3, pos := pos, after := E3, guard := none },
    { dst := some s4, op := .move (.tmp s3), type := t3, pos := pos, after := E4, guard := none },
    { dst := some s5, op := .extract (.tmp s4) 0, type := 25, pos := pos, after := E5, guard := none },
    { dst := some s6, op := .extract (.tmp s4) 1, type := t6, pos := pos, after := E6, guard := none },
    { dst := some d, op := .alloc 25, type := 0, pos := pos, after := E7, guard := none },
    { dst := none, op := .store 25 (.tmp d) (.tmp s5), type := 0, pos := pos, after := E8, guard := none },
    { dst := some e, op := .assign (.tmp s6), type := t6, pos := pos, after := E9, guard := none }]
structure OneconM (w : World) (A1 R : Ar) (n : Int) (b1 b2 b3 b4 b5 b6 b7 b8 b9 : Bool) (v1 v3 : Value) (xd lo hi : Nat) (w' : World) : Prop where
  ch : Chg (fun _ => False) w w'
  p1 : b1 = true → b3 = false → Ara w' v1 A1
  r3 : b3 = true → b8 = false → OwnR w' lo hi v3 R
  al : b7 = true → w.heap.size ≤ xd ∧ (b8 = false → ∃ z0 z1 z2, Bx w' xd z0 z1 z2)
  sep : b3 = true → b7 = true → xd < lo ∨ hi ≤ xd
  st : b8 = true → BoxT w' xd R
  d43 : b4 = true → b3 = true
  d54 : b5 = true → b4 = true
  d64 : b6 = true → b4 = true
  d85 : b8 = true → b5 = true
  d87 : b8 = true → b7 = true
  d96 : b9 = true → b6 = true
  d31 : b3 = true → b1 = true
  d32 : b3 = true → b2 = true
def flone_con (b1 b2 b3 b4 b5 b6 b7 b8 b9 : Bool) : Nat := fl b1 + fl b2 + fl b3 + fl b4 + fl b5 + fl b6 + fl b7 + fl b8 + fl b9
def OneconJ (a : Act) (w : World) (A1 R : Ar) (n : Int) (s1 s2 s3 s4 s5 s6 d e : Nat) (vx : Value) (k : Nat) (l : Array Bool) (a' : Act) (w' : World) : Prop :=
  ∃ b1 b2 b3 b4 b5 b6 b7 b8 b9 : Bool, l = #[b1, b2, b3, b4, b5, b6, b7, b8, b9] ∧ k = flone_con b1 b2 b3 b4 b5 b6 b7 b8 b9 ∧
    ∃ v1 v3 xd lo hi, a' = pif b1 s1 v1 (pif b2 s2 vx (pif b3 s3 (.tuple #[v3, .int .i64 n]) (pif b4 s4 (.tuple #[v3, .int .i64 n]) (pif b5 s5 v3 (pif b6 s6 (.int .i64 n) (pif b7 d (.pointer (some ⟨xd, 0, none⟩)) (pif b9 e (.int .i64 n) a))))))) ∧ OneconM w A1 R n b1 b2 b3 b4 b5 b6 b7 b8 b9 v1 v3 xd lo hi w'
theorem one_con_ready {o1 : Oper} {p s1 s2 s3 s4 s5 s6 d e f : Nat} {t3 t6 : TypeId} {pos : String} {E2 E3 E4 E5 E6 E7 E8 E9 : Array Edge} {b1 b2 b3 b4 b5 b6 b7 b8 b9 : Bool} (hlow : (∀ x ∈ o1.after, Region.binds .any x = true → x.on < 0) ∧ (∀ x ∈ E2, Region.binds .any x = true → x.on < 1) ∧ (∀ x ∈ E3, Region.binds .any x = true → x.on < 2) ∧ (∀ x ∈ E4, Region.binds .any x = true → x.on < 3) ∧ (∀ x ∈ E5, Region.binds .any x = true → x.on < 4) ∧ (∀ x ∈ E6, Region.binds .any x = true → x.on < 5) ∧ (∀ x ∈ E7, Region.binds .any x = true → x.on < 6) ∧ (∀ x ∈ E8, Region.binds .any x = true → x.on < 7) ∧ (∀ x ∈ E9, Region.binds .any x = true → x.on < 8)) (h : Region.ready .any (one_conOps o1 p s1 s2 s3 s4 s5 s6 d e f t3 t6 pos E2 E3 E4 E5 E6 E7 E8 E9) #[b1, b2, b3, b4, b5, b6, b7, b8, b9] = []) : b1 = true ∧ b2 = true ∧ b3 = true ∧ b4 = true ∧ b5 = true ∧ b6 = true ∧ b7 = true ∧ b8 = true ∧ b9 = true := by
  have key : ∀ i, i ∉ Region.ready .any (one_conOps o1 p s1 s2 s3 s4 s5 s6 d e f t3 t6 pos E2 E3 E4 E5 E6 E7 E8 E9) #[b1, b2, b3, b4, b5, b6, b7, b8, b9] := by rw [h]; simp
  clear h
  obtain ⟨l1, l2, l3, l4, l5, l6, l7, l8, l9⟩ := hlow
  cases b1 with
  | false => exact absurd (mem_ready.2 ⟨rfl, _, rfl, fun x hx hb => by have hl := l1 x hx hb; clear hb; obtain ⟨xo, xg⟩ := x; simp only at hl ⊢; omega⟩) (key 0)
  | true =>
    cases b2 with
    | false => exact absurd (mem_ready.2 ⟨rfl, _, rfl, fun x hx hb => by have hl := l2 x hx hb; clear hb; obtain ⟨xo, xg⟩ := x; simp only at hl ⊢; rcases (show xo = 0 by omega) with rfl <;> rfl⟩) (key 1)
    | true =>
      cases b3 with
      | false => exact absurd (mem_ready.2 ⟨rfl, _, rfl, fun x hx hb => by have hl := l3 x hx hb; clear hb; obtain ⟨xo, xg⟩ := x; simp only at hl ⊢; rcases (show xo = 0 ∨ xo = 1 by omega) with rfl | rfl <;> rfl⟩) (key 2)
      | true =>
        cases b4 with
        | false => exact absurd (mem_ready.2 ⟨rfl, _, rfl, fun x hx hb => by have hl := l4 x hx hb; clear hb; obtain ⟨xo, xg⟩ := x; simp only at hl ⊢; rcases (show xo = 0 ∨ xo = 1 ∨ xo = 2 by omega) with rfl | rfl | rfl <;> rfl⟩) (key 3)
        | true =>
          cases b5 with
          | false => exact absurd (mem_ready.2 ⟨rfl, _, rfl, fun x hx hb => by have hl := l5 x hx hb; clear hb; obtain ⟨xo, xg⟩ := x; simp only at hl ⊢; rcases (show xo = 0 ∨ xo = 1 ∨ xo = 2 ∨ xo = 3 by omega) with rfl | rfl | rfl | rfl <;> rfl⟩) (key 4)
          | true =>
            cases b6 with
            | false => exact absurd (mem_ready.2 ⟨rfl, _, rfl, fun x hx hb => by have hl := l6 x hx hb; clear hb; obtain ⟨xo, xg⟩ := x; simp only at hl ⊢; rcases (show xo = 0 ∨ xo = 1 ∨ xo = 2 ∨ xo = 3 ∨ xo = 4 by omega) with rfl | rfl | rfl | rfl | rfl <;> rfl⟩) (key 5)
            | true =>
              cases b7 with
              | false => exact absurd (mem_ready.2 ⟨rfl, _, rfl, fun x hx hb => by have hl := l7 x hx hb; clear hb; obtain ⟨xo, xg⟩ := x; simp only at hl ⊢; rcases (show xo = 0 ∨ xo = 1 ∨ xo = 2 ∨ xo = 3 ∨ xo = 4 ∨ xo = 5 by omega) with rfl | rfl | rfl | rfl | rfl | rfl <;> rfl⟩) (key 6)
              | true =>
                cases b8 with
                | false => exact absurd (mem_ready.2 ⟨rfl, _, rfl, fun x hx hb => by have hl := l8 x hx hb; clear hb; obtain ⟨xo, xg⟩ := x; simp only at hl ⊢; rcases (show xo = 0 ∨ xo = 1 ∨ xo = 2 ∨ xo = 3 ∨ xo = 4 ∨ xo = 5 ∨ xo = 6 by omega) with rfl | rfl | rfl | rfl | rfl | rfl | rfl <;> rfl⟩) (key 7)
                | true =>
                  cases b9 with
                  | false => exact absurd (mem_ready.2 ⟨rfl, _, rfl, fun x hx hb => by have hl := l9 x hx hb; clear hb; obtain ⟨xo, xg⟩ := x; simp only at hl ⊢; rcases (show xo = 0 ∨ xo = 1 ∨ xo = 2 ∨ xo = 3 ∨ xo = 4 ∨ xo = 5 ∨ xo = 6 ∨ xo = 7 by omega) with rfl | rfl | rfl | rfl | rfl | rfl | rfl | rfl <;> rfl⟩) (key 8)
                  | true =>
                    exact ⟨rfl, rfl, rfl, rfl, rfl, rfl, rfl, rfl, rfl⟩
set_option maxRecDepth 100000 in
set_option maxHeartbeats 2000000 in
theorem one_con_region {o1 : Oper} {p s1 s2 s3 s4 s5 s6 d e f : Nat} {t3 t6 : TypeId} {pos : String} {E2 E3 E4 E5 E6 E7 E8 E9 : Array Edge} {ri x : Nat} {Q : Exit → Act → World → Prop} {a : Act} {w : World} {A1 A R : Ar} {n : Int} (hm : Try.prog.follows .mixedOrders = true) (hf : ∀ x w, (callFunc f x).run Try.prog w = .ok (.enter f x) w)
    (hn : ([p, s1, s2, s3, s4, s5, s6, d, e] : List Nat).Nodup) (hsz : s1 < a.tmps.size ∧ s2 < a.tmps.size ∧ s3 < a.tmps.size ∧ s4 < a.tmps.size ∧ s5 < a.tmps.size ∧ s6 < a.tmps.size ∧ d < a.tmps.size ∧ e < a.tmps.size)
    (hp : a.tmps[p]?.getD undef = .pointer (some ⟨x, 0, none⟩)) (hx : BoxT w x A) (hg : o1.guard = none)
    (h1 : (∀ (a : Act) (w : World) (K : Act → World → Prop) (Q : Exit → Act → World → Prop), (∀ u w', Ara w' u A1 → Chg (fun _ => False) w w' → K (a.put (some s1) u) w') → o1.wp Try.prog a w K Q))
    (h2 : ∀ u v w', Ara w' u A1 → Ara w' v A → Calls Try.prog f #[u, v] w' (GaveAE w' R n))
    (hlow : (∀ x ∈ o1.after, Region.binds .any x = true → x.on < 0) ∧ (∀ x ∈ E2, Region.binds .any x = true → x.on < 1) ∧ (∀ x ∈ E3, Region.binds .any x = true → x.on < 2) ∧ (∀ x ∈ E4, Region.binds .any x = true → x.on < 3) ∧ (∀ x ∈ E5, Region.binds .any x = true → x.on < 4) ∧ (∀ x ∈ E6, Region.binds .any x = true → x.on < 5) ∧ (∀ x ∈ E7, Region.binds .any x = true → x.on < 6) ∧ (∀ x ∈ E8, Region.binds .any x = true → x.on < 7) ∧ (∀ x ∈ E9, Region.binds .any x = true → x.on < 8)) (hdep : ({ on := 0, ground := .data } : Edge) ∈ E3 ∧ ({ on := 1, ground := .data } : Edge) ∈ E3 ∧ ({ on := 2, ground := .data } : Edge) ∈ E4 ∧ ({ on := 3, ground := .data } : Edge) ∈ E5 ∧ ({ on := 3, ground := .data } : Edge) ∈ E6 ∧ ({ on := 6, ground := .data } : Edge) ∈ E8 ∧ ({ on := 4, ground := .data } : Edge) ∈ E8 ∧ ({ on := 5, ground := .data } : Edge) ∈ E9)
    (hQ : ∀ w' xd v1 vx v3, BoxT w' xd R → Chg (fun _ => False) w w' → Q .normal ((((((((a.put (some e) (.int .i64 n)).put (some d) (.pointer (some ⟨xd, 0, none⟩))).put (some s6) (.int .i64 n)).put (some s5) v3).put (some s4) (.tuple #[v3, .int .i64 n])).put (some s3) (.tuple #[v3, .int .i64 n])).put (some s2) vx).put (some s1) v1) w') :
    (Code.region ri (one_conOps o1 p s1 s2 s3 s4 s5 s6 d e f t3 t6 pos E2 E3 E4 E5 E6 E7 E8 E9) true).wp Try.prog Q a w := by
  obtain ⟨zs1, zs2, zs3, zs4, zs5, zs6, zd, ze⟩ := hsz
  obtain ⟨sx, cx, ax, dx, ⟨x0, x1, x2⟩, hx⟩ := hx
  simp only [List.nodup_cons, List.mem_cons, List.not_mem_nil, or_false, not_or, List.nodup_nil, and_true, not_false_eq_true] at hn
  obtain ⟨⟨nps1, nps2, nps3, nps4, nps5, nps6, npd, npe⟩, ⟨ns1s2, ns1s3, ns1s4, ns1s5, ns1s6, ns1d, ns1e⟩, ⟨ns2s3, ns2s4, ns2s5, ns2s6, ns2d, ns2e⟩, ⟨ns3s4, ns3s5, ns3s6, ns3d, ns3e⟩, ⟨ns4s5, ns4s6, ns4d, ns4e⟩, ⟨ns5s6, ns5d, ns5e⟩, ⟨ns6d, ns6e⟩, nde⟩ := hn
  obtain ⟨vx, hvx⟩ : ∃ v, (.agg #[.int .i64 A.k, .slice sx A.s.length cx, .slice ax A.e.length dx] : Value) = v := ⟨_, rfl⟩
  rw [hvx] at hx
  have hready := fun (b1 : Bool) (b2 : Bool) (b3 : Bool) (b4 : Bool) (b5 : Bool) (b6 : Bool) (b7 : Bool) (b8 : Bool) (b9 : Bool) => @one_con_ready o1 p s1 s2 s3 s4 s5 s6 d e f t3 t6 pos E2 E3 E4 E5 E6 E7 E8 E9 b1 b2 b3 b4 b5 b6 b7 b8 b9 hlow
  obtain ⟨e0, e1, e2, e3, e4, e5, e6, e7⟩ := hdep
  refine wp_region_any hm (any_inv (OneconJ a w A1 R n s1 s2 s3 s4 s5 s6 d e vx) ?_ ?_ ?_ _ _ _ _ ?_)
  · rintro k l a' w' ⟨b1, b2, b3, b4, b5, b6, b7, b8, b9, rfl, _, v1, v3, xd, lo, hi, rfl, hM⟩ hr
    obtain ⟨rfl, rfl, rfl, rfl, rfl, rfl, rfl, rfl, rfl⟩ := hready _ _ _ _ _ _ _ _ _ hr
    exact hQ w' xd v1 vx v3 (hM.st rfl) hM.ch
  · rintro l a' w' ⟨b1, b2, b3, b4, b5, b6, b7, b8, b9, rfl, h0z, _⟩
    have kz : ∀ b, fl b = 0 → b = true := fun b => by cases b <;> simp [fl]
    unfold flone_con at h0z
    obtain rfl := kz b1 (by omega)
    obtain rfl := kz b2 (by omega)
    obtain rfl := kz b3 (by omega)
    obtain rfl := kz b4 (by omega)
    obtain rfl := kz b5 (by omega)
    obtain rfl := kz b6 (by omega)
    obtain rfl := kz b7 (by omega)
    obtain rfl := kz b8 (by omega)
    obtain rfl := kz b9 (by omega)
    refine List.eq_nil_iff_forall_not_mem.2 (fun i hi => ?_)
    obtain ⟨hj, o, ho, _⟩ := mem_ready.1 hi
    have hi2 : i < 9 := (Array.getElem?_eq_some_iff.1 ho).1
    clear hi ho
    rcases (show i = 0 ∨ i = 1 ∨ i = 2 ∨ i = 3 ∨ i = 4 ∨ i = 5 ∨ i = 6 ∨ i = 7 ∨ i = 8 by omega) with rfl | rfl | rfl | rfl | rfl | rfl | rfl | rfl | rfl <;> exact absurd hj (by decide)
  · rintro k l a' w' ⟨b1, b2, b3, b4, b5, b6, b7, b8, b9, rfl, hcnt, v1, v3, xd, lo, hi, rfl, hM⟩ i hi
    obtain ⟨hj, o, ho, hall⟩ := mem_ready.1 hi
    have hlt : i < 9 := (Array.getElem?_eq_some_iff.1 ho).1
    have hi8 : i = 0 ∨ i = 1 ∨ i = 2 ∨ i = 3 ∨ i = 4 ∨ i = 5 ∨ i = 6 ∨ i = 7 ∨ i = 8 := by omega
    clear hlt hi
    rcases hi8 with rfl | rfl | rfl | rfl | rfl | rfl | rfl | rfl | rfl
    · obtain rfl : b1 = false := hj
      obtain rfl : b3 = false := by
        cases hb : b3 with
        | false => rfl
        | true => exact absurd (hM.d31 hb) (by simp)
      obtain rfl : b4 = false := by
        cases hb : b4 with
        | false => rfl
        | true => exact absurd (hM.d43 hb) (by simp)
      obtain rfl : b5 = false := by
        cases hb : b5 with
        | false => rfl
        | true => exact absurd (hM.d54 hb) (by simp)
      obtain rfl : b6 = false := by
        cases hb : b6 with
        | false => rfl
        | true => exact absurd (hM.d64 hb) (by simp)
      obtain rfl : b8 = false := by
        cases hb : b8 with
        | false => rfl
        | true => exact absurd (hM.d85 hb) (by simp)
      obtain rfl : b9 = false := by
        cases hb : b9 with
        | false => rfl
        | true => exact absurd (hM.d96 hb) (by simp)
      refine wpOp_go (o := o1) rfl hg (h1 _ _ _ _ fun u w2 hu hC => ?_)
      exact ⟨true, b2, false, false, false, false, b7, false, false, rfl, by unfold flone_con at hcnt ⊢; simp only [fl] at hcnt ⊢; simp at hcnt ⊢; omega, u, v3, xd, lo, hi, rfl, { ch := hM.ch.tr hC, p1 := fun _ _ => hu, r3 := fun e => (by cases e), al := fun q => ⟨(hM.al q).1, fun q2 => (by obtain ⟨z0, z1, z2, hb⟩ := (hM.al q).2 rfl; exact ⟨z0, z1, z2, hb.fr hC⟩)⟩, sep := fun e => (by cases e), st := fun e => (by cases e), d43 := hM.d43, d54 := hM.d54, d64 := hM.d64, d85 := hM.d85, d87 := hM.d87, d96 := hM.d96, d31 := fun _ => rfl, d32 := hM.d32 }⟩
    · obtain rfl : b2 = false := hj
      refine wpOp_go rfl rfl (twoLoad (x := x) ?_ (hM.ch.cell x0 id) (hM.ch.cell x1 id) (hM.ch.cell x2 id) ?_)
      · rw [pif_get (Ne.symm nps1), pif_get (Ne.symm nps2), pif_get (Ne.symm nps3), pif_get (Ne.symm nps4), pif_get (Ne.symm nps5), pif_get (Ne.symm nps6), pif_get (Ne.symm npd), pif_get (Ne.symm npe)]; exact hp
      · rw [hvx]; exact ⟨b1, true, b3, b4, b5, b6, b7, b8, b9, rfl, by unfold flone_con at hcnt ⊢; simp only [fl] at hcnt ⊢; simp at hcnt ⊢; omega, v1, v3, xd, lo, hi, by rw [pif_put ns1s2, pif_false], { hM with d32 := fun _ => rfl }⟩
    · obtain rfl : b3 = false := hj
      obtain rfl : b1 = true := hall { on := 0, ground := .data } (by cases ho; exact e0) rfl
      obtain rfl : b2 = true := hall { on := 1, ground := .data } (by cases ho; exact e1) rfl
      obtain rfl : b4 = false := by
        cases hb : b4 with
        | false => rfl
        | true => exact absurd (hM.d43 hb) (by simp)
      obtain rfl : b5 = false := by
        cases hb : b5 with
        | false => rfl
        | true => exact absurd (hM.d54 hb) (by simp)
      obtain rfl : b6 = false := by
        cases hb : b6 with
        | false => rfl
        | true => exact absurd (hM.d64 hb) (by simp)
      obtain rfl : b8 = false := by
        cases hb : b8 with
        | false => rfl
        | true => exact absurd (hM.d85 hb) (by simp)
      obtain rfl : b9 = false := by
        cases hb : b9 with
        | false => rfl
        | true => exact absurd (hM.d96 hb) (by simp)
      refine wpOp_go rfl rfl (oneCall hf (u := v1) (v := vx) ?_ ?_ ?_)
      · rw [pif_same (by simp only [pif_size]; exact zs1)]; rfl
      · rw [pif_get ns1s2, pif_same (by simp only [pif_size]; exact zs2)]; rfl
      · refine Calls.mono (h2 v1 vx _ (hM.p1 rfl rfl) (hx.fr hM.ch)) ?_
        rintro e' w2 ⟨v', rfl, ho', hC⟩
        exact ⟨_, rfl, true, true, true, false, false, false, b7, false, false, rfl, by unfold flone_con at hcnt ⊢; simp only [fl] at hcnt ⊢; simp at hcnt ⊢; omega, v1, v', xd, _, _, by rw [pif_put ns1s3, pif_put ns2s3, pif_false]; rfl, { ch := hM.ch.tr hC, p1 := fun _ e => (by cases e), r3 := fun _ _ => OwnR.of ho', al := fun q => ⟨(hM.al q).1, fun q2 => (by obtain ⟨z0, z1, z2, hb⟩ := (hM.al q).2 rfl; exact ⟨z0, z1, z2, hb.fr hC⟩)⟩, sep := fun _ q => .inl (by obtain ⟨z0, z1, z2, hb⟩ := (hM.al q).2 rfl; exact hb.lt), st := fun e => (by cases e), d43 := fun _ => rfl, d54 := hM.d54, d64 := hM.d64, d85 := hM.d85, d87 := hM.d87, d96 := hM.d96, d31 := fun _ => rfl, d32 := fun _ => rfl }⟩
    · obtain rfl : b4 = false := hj
      obtain rfl : b3 = true := hall { on := 2, ground := .data } (by cases ho; exact e2) rfl
      obtain rfl : b5 = false := by
        cases hb : b5 with
        | false => rfl
        | true => exact absurd (hM.d54 hb) (by simp)
      obtain rfl : b6 = false := by
        cases hb : b6 with
        | false => rfl
        | true => exact absurd (hM.d64 hb) (by simp)
      obtain rfl : b8 = false := by
        cases hb : b8 with
        | false => rfl
        | true => exact absurd (hM.d85 hb) (by simp)
      obtain rfl : b9 = false := by
        cases hb : b9 with
        | false => rfl
        | true => exact absurd (hM.d96 hb) (by simp)
      refine wpOp_go rfl rfl (oneMove (v := .tuple #[v3, .int .i64 n]) ?_ ?_)
      · rw [pif_get ns1s3, pif_get ns2s3, pif_same (by simp only [pif_size]; exact zs3)]; rfl
      · exact ⟨b1, b2, true, true, false, false, b7, false, false, rfl, by unfold flone_con at hcnt ⊢; simp only [fl] at hcnt ⊢; simp at hcnt ⊢; omega, v1, v3, xd, lo, hi, by rw [pif_put ns1s4, pif_put ns2s4, pif_put ns3s4, pif_false], { hM with d43 := fun _ => rfl, d54 := fun _ => rfl, d64 := fun _ => rfl }⟩
    · obtain rfl : b5 = false := hj
      obtain rfl : b4 = true := hall { on := 3, ground := .data } (by cases ho; exact e3) rfl
      obtain rfl : b8 = false := by
        cases hb : b8 with
        | false => rfl
        | true => exact absurd (hM.d85 hb) (by simp)
      refine wpOp_go rfl rfl (oneExt0 (u := v3) (v := .int .i64 n) ?_ ?_)
      · rw [pif_get ns1s4, pif_get ns2s4, pif_get ns3s4, pif_same (by simp only [pif_size]; exact zs4)]; rfl
      · exact ⟨b1, b2, b3, true, true, b6, b7, false, b9, rfl, by unfold flone_con at hcnt ⊢; simp only [fl] at hcnt ⊢; simp at hcnt ⊢; omega, v1, v3, xd, lo, hi, by rw [pif_put ns1s5, pif_put ns2s5, pif_put ns3s5, pif_put ns4s5, pif_false], { hM with d54 := fun _ => rfl, d85 := fun _ => rfl }⟩
    · obtain rfl : b6 = false := hj
      obtain rfl : b4 = true := hall { on := 3, ground := .data } (by cases ho; exact e4) rfl
      obtain rfl : b9 = false := by
        cases hb : b9 with
        | false => rfl
        | true => exact absurd (hM.d96 hb) (by simp)
      refine wpOp_go rfl rfl (oneExt1 (u := v3) (v := .int .i64 n) ?_ ?_)
      · rw [pif_get ns1s4, pif_get ns2s4, pif_get ns3s4, pif_same (by simp only [pif_size]; exact zs4)]; rfl
      · exact ⟨b1, b2, b3, true, b5, true, b7, b8, false, rfl, by unfold flone_con at hcnt ⊢; simp only [fl] at hcnt ⊢; simp at hcnt ⊢; omega, v1, v3, xd, lo, hi, by rw [pif_put ns1s6, pif_put ns2s6, pif_put ns3s6, pif_put ns4s6, pif_put ns5s6, pif_false], { hM with d64 := fun _ => rfl, d96 := fun _ => rfl }⟩
    · obtain rfl : b7 = false := hj
      obtain rfl : b8 = false := by
        cases hb : b8 with
        | false => rfl
        | true => exact absurd (hM.d87 hb) (by simp)
      refine wpOp_go (o := { dst := some d, op := .alloc 25, type := 0, pos := pos, after := E7, guard := none }) rfl rfl ?_
      apply twoAlloc
      have hC : Chg (fun _ => False) w' (w'.alloc (.cells #[.int .i64 0, .slice none 0 0, .slice none 0 0] 25)) := (Chg.refl _ _).alloc _
      exact ⟨b1, b2, b3, b4, b5, b6, true, false, b9, rfl, by unfold flone_con at hcnt ⊢; simp only [fl] at hcnt ⊢; simp at hcnt ⊢; omega, v1, v3, _, lo, hi, by rw [pif_put ns1d, pif_put ns2d, pif_put ns3d, pif_put ns4d, pif_put ns5d, pif_put ns6d, pif_false], { ch := hM.ch.tr hC, p1 := fun e q => (hM.p1 e q).fr hC, r3 := fun e q => (hM.r3 e q).chg hC (fun _ _ _ => id), al := fun _ => ⟨hM.ch.size, fun _ => ⟨_, _, _, Bx.new _ _ _ _ _⟩⟩, sep := fun q _ => .inr (hM.r3 q rfl).1, st := fun e => (by cases e), d43 := hM.d43, d54 := hM.d54, d64 := hM.d64, d85 := hM.d85, d87 := fun _ => rfl, d96 := hM.d96, d31 := hM.d31, d32 := hM.d32 }⟩
    · obtain rfl : b8 = false := hj
      obtain rfl : b7 = true := hall { on := 6, ground := .data } (by cases ho; exact e5) rfl
      obtain rfl : b5 = true := hall { on := 4, ground := .data } (by cases ho; exact e6) rfl
      obtain rfl : b4 = true := hM.d54 rfl
      obtain rfl : b3 = true := hM.d43 rfl
      have hown := hM.r3 rfl rfl
      obtain ⟨hlo, hbx⟩ := hM.al rfl
      obtain ⟨z0, z1, z2, hb⟩ := hbx rfl
      obtain ⟨sa, cs, ae, ce, hv⟩ := hown.val
      have hC := chg3 w' xd (.int .i64 R.k) (.slice sa R.s.length cs) (.slice ae R.e.length ce)
      have hown2 := (hown.chg hC (fun q k1 k2 k3 => by have := hM.sep rfl rfl; omega)).ara
      rw [hv] at hown2
      refine wpOp_go rfl rfl (twoStore (k := R.k) (sa := sa) (n1 := R.s.length) (k1 := cs) (ae := ae) (n2 := R.e.length) (k2 := ce) ?_ ?_ hb ?_)
      · rw [pif_get ns1d, pif_get ns2d, pif_get ns3d, pif_get ns4d, pif_get ns5d, pif_get ns6d, pif_same (by simp only [pif_size]; exact zd)]; rfl
      · rw [pif_get ns1s5, pif_get ns2s5, pif_get ns3s5, pif_get ns4s5, pif_same (by simp only [pif_size]; exact zs5), hv]; rfl
      · exact ⟨b1, b2, true, true, true, b6, true, true, b9, rfl, by unfold flone_con at hcnt ⊢; simp only [fl] at hcnt ⊢; simp at hcnt ⊢; omega, v1, v3, xd, lo, hi, rfl, { ch := chg_set3 hM.ch hlo _ _ _, p1 := fun _ e => (by cases e), r3 := fun _ e => (by cases e), al := fun _ => ⟨hlo, fun e => (by cases e)⟩, sep := hM.sep, st := fun _ => ⟨sa, cs, ae, ce, bx_c3 hb _ _ _, hown2⟩, d43 := hM.d43, d54 := hM.d54, d64 := hM.d64, d85 := fun _ => rfl, d87 := fun _ => rfl, d96 := hM.d96, d31 := hM.d31, d32 := hM.d32 }⟩
    · obtain rfl : b9 = false := hj
      obtain rfl : b6 = true := hall { on := 5, ground := .data } (by cases ho; exact e7) rfl
      refine wpOp_go rfl rfl (oneAssign (v := .int .i64 n) ?_ ?_)
      · rw [pif_get ns1s6, pif_get ns2s6, pif_get ns3s6, pif_get ns4s6, pif_get ns5s6, pif_same (by simp only [pif_size]; exact zs6)]; rfl
      · exact ⟨b1, b2, b3, b4, b5, true, b7, b8, true, rfl, by unfold flone_con at hcnt ⊢; simp only [fl] at hcnt ⊢; simp at hcnt ⊢; omega, v1, v3, xd, lo, hi, by rw [pif_put ns1e, pif_put ns2e, pif_put ns3e, pif_put ns4e, pif_put ns5e, pif_put ns6e, pif_put nde, pif_false], { hM with d96 := fun _ => rfl }⟩
  · exact ⟨false, false, false, false, false, false, false, false, false, rfl, rfl, undef, undef, 0, 0, 0, rfl, { ch := (Chg.refl _ _).drew, p1 := (by simp), r3 := (by simp), al := (by simp), sep := (by simp), st := (by simp), d43 := (by simp), d54 := (by simp), d64 := (by simp), d85 := (by simp), d87 := (by simp), d96 := (by simp), d31 := (by simp), d32 := (by simp) }⟩
end Go.Proofs.Ytmmbdhfljabefaa
