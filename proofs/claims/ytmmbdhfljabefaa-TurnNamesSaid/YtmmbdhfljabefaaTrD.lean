/- turn: the document's ways, put together place by place. -/
import Derived.Test.YtmmbdhfljabefaaTrC
import Derived.Test.YtmmbdhfljabefaaArJ
namespace Go.Proofs.Ytmmbdhfljabefaa
open Go.RowKit Go.Shelf

theorem r14may_any (v : Value) (s : List Int) (w : World) (hS : Ls w v s) : Calls Try.prog 57 #[v] w (GaveBo w (shB s)) := by
  obtain ⟨ao, c, rfl, _⟩ := hS.form
  have hcnt := r11count_any _ s w hS
  unfold GaveC at hcnt
  rcases cntE_cases s with ⟨h1, h2, h3⟩ | ⟨h1, h2, h3⟩
  · rw [h2] at hcnt
    rw [h1]
    generalize cntN s = C at *
    clear hS h1 h2 h3
    go_enter Try.func57, Try.ntmps57
    go_wp2_with fail
    refine hcnt.mono ?_
    clear hcnt
    rintro e9 w1 ⟨rfl, rfl⟩
    go_wp2
    go_ret
    exact ⟨rfl, Chg.refl _ _⟩
  · rw [h2] at hcnt
    rw [h1]
    generalize cntN s = C at *
    clear hS h1 h2 h3
    go_enter Try.func57, Try.ntmps57
    go_wp2_with fail
    refine hcnt.mono ?_
    clear hcnt
    rintro e9 w1 ⟨rfl, rfl⟩
    go_wp2
    go_ret
    exact ⟨rfl, Chg.refl _ _⟩
/-- A way of the call's own, under way. -/
structure GatB (w : World) (base : Nat) (vs vo vp : Value) (s : List Int) (g : List (Int × Int)) : Prop where
  os : Own w base 3 vs s
  oo : Own w base 3 vo (g.map (·.1))
  op : Own w base 3 vp (g.map (·.2))
  d1 : ∀ q, vo.ownBlock = some q → ¬ vp.ownBlock = some q
  d2 : ∀ q, vs.ownBlock = some q → ¬ vo.ownBlock = some q
  d3 : ∀ q, vs.ownBlock = some q → ¬ vp.ownBlock = some q
theorem GatB.fr {w w' : World} {base : Nat} {vs vo vp : Value} {s : List Int} {g : List (Int × Int)} (h : GatB w base vs vo vp s g) (hC : Chg (fun _ => False) w w') : GatB w' base vs vo vp s g :=
  ⟨h.os.fr hC, h.oo.fr hC, h.op.fr hC, h.d1, h.d2, h.d3⟩
theorem GatB.chg {S : Nat → Prop} {w w' : World} {base : Nat} {vs vo vp : Value} {s : List Int} {g : List (Int × Int)} (h : GatB w base vs vo vp s g) (hC : Chg S w w') (hS : ∀ k, S k → k < base) : GatB w' base vs vo vp s g :=
  ⟨h.os.chg hC (fun k hk hs => by have := (h.os.lt k hk).1; have := hS k hs; omega), h.oo.chg hC (fun k hk hs => by have := (h.oo.lt k hk).1; have := hS k hs; omega), h.op.chg hC (fun k hk hs => by have := (h.op.lt k hk).1; have := hS k hs; omega), h.d1, h.d2, h.d3⟩
theorem GatB.gat {w : World} {base : Nat} {vs vo vp : Value} {s : List Int} {g : List (Int × Int)} (h : GatB w base vs vo vp s g) (n : Int) : GatAt w (.agg #[vs, vo, vp]) ⟨s, g, n⟩ := ⟨vs, vo, vp, rfl, h.os.ls, h.oo.ls, h.op.ls⟩
def GaveP (base : Nat) (w : World) (vs vo vp : Value) (s : List Int) (g : List (Int × Int)) (e : Ending) (w' : World) : Prop :=
  ∃ vo' vp', e = .returned (.agg #[vs, vo', vp']) ∧ GatB w' base vs vo' vp' s g ∧ Chg (fun k => vo.ownBlock = some k ∨ vp.ownBlock = some k) w w' ∧
    (∀ q, vo'.ownBlock = some q → vo.ownBlock = some q ∨ w.heap.size ≤ q) ∧ (∀ q, vp'.ownBlock = some q → vp.ownBlock = some q ∨ w.heap.size ≤ q)
theorem own_snoc {w2 : World} {base t : Nat} {v2 : Value} {xs : List Int} {x : Int} {n : Nat} (h2 : w2.ownsRow base t 1 v2 n (xs.map I ++ [.int .i64 x])) (hn : n = xs.length + 1) : Own w2 base t v2 (xs ++ [x]) := by
  subst hn
  unfold Own
  rw [List.length_append, List.map_append]
  exact h2
theorem own_off {w : World} {base t b : Nat} {v : Value} {xs : List Int} (h : Own w base t v xs) (i : Nat) (u : Value) (hb : ∀ q, v.ownBlock = some q → q ≠ b) : Own (w.setCell ⟨b, i, none⟩ u) base t v xs := h.chg (chg_at w b i u) (fun q hq e => hb q hq e)
theorem own_off3 {w : World} {base t b : Nat} {v : Value} {xs : List Int} (h : Own w base t v xs) (u0 u1 u2 : Value) (hb : ∀ q, v.ownBlock = some q → q ≠ b) : Own (((w.setCell ⟨b, 0, none⟩ u0).setCell ⟨b, 1, none⟩ u1).setCell ⟨b, 2, none⟩ u2) base t v xs :=
  own_off (own_off (own_off h 0 u0 hb) 1 u1 hb) 2 u2 hb
theorem set1_off {w : World} {b g i : Nat} {z : Value} (j : Nat) (u : Value) (h : w.cell? ⟨g, i, none⟩ = some z) (hb : b ≠ g) : (w.setCell ⟨b, j, none⟩ u).cell? ⟨g, i, none⟩ = some z := by
  rw [World.cell?_setCell_other _ _ _ _ (fun e => hb (congrArg Addr.block e))]
  exact h
set_option maxRecDepth 100000 in
set_option maxHeartbeats 2000000 in
theorem r14put_any (base : Nat) (vs vo vp ush ux : Value) (s0 s xs : List Int) (g : List (Int × Int)) (w : World) (hG : GatB w base vs vo vp s0 g) (hb : base ≤ w.heap.size) (hS : Ls w ush s) (hX : Ls w ux xs) (hgl : g.length ≤ 100000) :
    Calls Try.prog 60 #[.agg #[vs, vo, vp], ush, ux] w (GaveP base w vs vo vp s0 (g ++ [(0, plN s xs)])) := by
  obtain ⟨i0, hi, hz0, hz1, hz2⟩ := info_parts info_int
  obtain ⟨sa, Ls0, cs, rfl, _⟩ := owns_name hG.os
  obtain ⟨oa, Lo, co, rfl, hLo⟩ := owns_name hG.oo
  obtain ⟨pa, Lp, cp, rfl, hLp⟩ := owns_name hG.op
  obtain ⟨ua, uc, rfl, _⟩ := hS.form
  obtain ⟨xa, xc, rfl, _⟩ := hX.form
  have hC0 := ((Chg.refl (fun _ => False) w).alloc (.cells #[.slice sa Ls0 cs, .slice oa Lo co, .slice pa Lp cp] 38)).alloc (.cells #[.slice none 0 0, .slice none 0 0, .slice none 0 0] 38)
  have hB0 := (Bx.new w (.slice sa Ls0 cs) (.slice oa Lo co) (.slice pa Lp cp) 38).fr ((Chg.refl _ _).alloc (.cells #[.slice none 0 0, .slice none 0 0, .slice none 0 0] 38))
  have hR0 := Bx.new (w.alloc (.cells #[.slice sa Ls0 cs, .slice oa Lo co, .slice pa Lp cp] 38)) (.slice none 0 0) (.slice none 0 0) (.slice none 0 0) 38
  rw [World.size_alloc] at hR0
  have hpl := r11place_any _ _ s xs _ (hS.fr hC0) (hX.fr hC0)
  unfold GavePl at hpl
  obtain ⟨p, hp⟩ : ∃ p, plN s xs = p := ⟨_, rfl⟩
  generalize plB s xs = pb at *
  rw [hp] at hpl ⊢
  have hgo : (g.map (·.1)).length = g.length := List.length_map _
  have hgp : (g.map (·.2)).length = g.length := List.length_map _
  have n0 : ∀ q, (Value.slice oa Lo co).ownBlock = some q → base ≤ q ∧ q < w.heap.size := fun q h => hG.oo.lt q h
  have m0 : ∀ q, (Value.slice pa Lp cp).ownBlock = some q → base ≤ q ∧ q < w.heap.size := fun q h => hG.op.lt q h
  have l0 : ∀ q, (Value.slice sa Ls0 cs).ownBlock = some q → base ≤ q ∧ q < w.heap.size := fun q h => hG.os.lt q h
  have N0 := Lib.hid n0
  have M0 := Lib.hid m0
  have L0 := Lib.hid l0
  have HLo := Lib.hid hgo
  have HLp := Lib.hid hgp
  have hgo1 : (g.map (·.1)).length ≤ 100000 := by omega
  have hgp1 : (g.map (·.2)).length ≤ 100000 := by omega
  have GG := Lib.hid hG
  clear hS hX hp n0 m0 l0 hgo hgp
  go_enter Try.func60, Try.ntmps60
  go_wp2_with fail
  refine hpl.mono ?_
  clear hpl
  rintro e9 w1 ⟨rfl, hC1⟩
  have hC01 := hC0.tr hC1
  have hB1 := hB0.fr hC1
  have hR1 := hR0.fr hC1
  have G1 := Lib.hid (hG.fr hC01)
  have R1 := Lib.hid hR1
  have HC1 := Lib.hid hC01
  have hsz1 : w.heap.size + 1 < w1.heap.size := hR1.lt
  have hsz0 : w.heap.size < w1.heap.size := by omega
  obtain ⟨x0, x1, x2, f0, f1, f2⟩ := hB1
  clear hG hC0 hC1 hC01 hB0 hR0 hR1
  go_wp2_with (first
    | (refine wpList_append_own_any (by rfl) (.tmp 16) (.tmp 17) 22 (by rfl) base 3 i0 (.int .i64 0) 1 8 Try.underlying22 hi hz0 hz1 hz2 rfl (by decide) (.slice oa Lo co) (g.map (·.1)).length ((g.map (·.1)).map I) (by rfl) (G1.out.oo.alloc _) (some ⟨w1.heap.size, 0, none⟩) 1 1 [.int .i64 0] (by rfl) rfl (fun j u hu => ⟨_, rfl, cell_one_new w1 _ _ j u hu⟩) (by simp [Value.oneCell']) (by unfold maxLen; omega) (by omega) (by simp; omega) ?_; intro v2 w2 hown2 hg2 _ hO2; have X2 := Lib.hid (show Chg (fun q => (Value.slice oa Lo co).ownBlock = some q) w1 w2 from ((Chg.refl _ w1).alloc _).grown hg2 (fun k e => .inl e)); have nb : ¬ (Value.slice oa Lo co).ownBlock = some w.heap.size := fun e => (by have := N0.out _ e; omega); have y0 := X2.out.cell x0 nb; have y1 := X2.out.cell x1 nb; have y2 := X2.out.cell x2 nb; have e0 := X2.out.frozen x0 f0 nb; have e1 := X2.out.frozen x1 f1 nb; have e2 := X2.out.frozen x2 f2 nb; have O2 := Lib.hid (own_snoc hown2 rfl); have B2 := Lib.hid hO2; have hsz2 : w1.heap.size ≤ w2.heap.size := X2.out.size; have P2 := Lib.hid (G1.out.op.chg X2.out (fun q hq h => GG.out.d1 q h hq)); have S2 := Lib.hid (G1.out.os.chg X2.out (fun q hq h => GG.out.d2 q hq h)); clear hown2 hg2 hO2 x0 x1 x2 f0 f1 f2; obtain ⟨oa2, Lo2, co2, rfl, hLo2⟩ := owns_name O2.out)
    | (refine wpList_append_own_any (by rfl) (.tmp 21) (.tmp 23) 22 (by rfl) base 3 i0 (.int .i64 0) 1 8 Try.underlying22 hi hz0 hz1 hz2 rfl (by decide) (.slice pa Lp cp) (g.map (·.2)).length ((g.map (·.2)).map I) (by rfl) (World.ownsRow.alloc (P2.out.chg (chg_at w2 w.heap.size 1 (.slice oa2 Lo2 co2)) (fun q hq h => (by have := M0.out _ hq; omega))) _) (some ⟨w2.heap.size, 0, none⟩) 1 1 [.int .i64 p] (by rfl) rfl (fun j u hu => ⟨_, rfl, (by have h := cell_one_new (w2.setCell ⟨w.heap.size, 1, none⟩ (.slice oa2 Lo2 co2)) (.int .i64 p) 3 j u hu; simp only [World.size_setCell] at h; exact h)⟩) (by simp [Value.oneCell']) (by unfold maxLen; omega) (by omega) (by simp; omega) ?_; intro v3 w3 hown3 hg3 _ hO3; have X3 := Lib.hid (show Chg (fun q => (Value.slice pa Lp cp).ownBlock = some q) (w2.setCell ⟨w.heap.size, 1, none⟩ (.slice oa2 Lo2 co2)) w3 from ((Chg.refl _ _).alloc _).grown hg3 (fun k e => .inl e)); have mb : ¬ (Value.slice pa Lp cp).ownBlock = some w.heap.size := fun e => (by have := M0.out _ e; omega); have q0 := X3.out.cell (p := ⟨w.heap.size, 0, none⟩) ((World.cell?_setCell_other _ _ _ _ (by simp)).trans y0) mb; have q1 := X3.out.cell (p := ⟨w.heap.size, 1, none⟩) (World.cell?_setCell_same' _ _ _ (by rw [y1]; rfl)) mb; have q2 := X3.out.cell (p := ⟨w.heap.size, 2, none⟩) ((World.cell?_setCell_other _ _ _ _ (by simp)).trans y2) mb; have p2 := X3.out.frozen (p := ⟨w.heap.size, 2, none⟩) ((World.cell?_setCell_other _ _ _ _ (by simp)).trans y2) ((World.frozen?_setCell _ _ _ _).trans e2) mb; have O3 := Lib.hid (own_snoc hown3 rfl); have B3 := Lib.hid hO3; have hsz3 : w2.heap.size ≤ w3.heap.size := (by have h := X3.out.size; rw [World.size_setCell] at h; exact h); have OO3 := Lib.hid ((own_off O2.out (b := w.heap.size) 1 (.slice oa2 Lo2 co2) (fun q hq e => (by subst e; rcases B2.out _ hq with h | h; exact absurd h nb; simp at h; omega))).chg X3.out (fun q hq h => (by rcases B2.out _ hq with h2 | h2; exact GG.out.d1 q h2 h; have := M0.out _ h; simp at h2; omega))); have SS3 := Lib.hid ((own_off S2.out (b := w.heap.size) 1 (.slice oa2 Lo2 co2) (fun q hq e => (by have := L0.out _ hq; omega))).chg X3.out (fun q hq h => GG.out.d3 q hq h)); have R3 := Lib.hid (((R1.out.chg X2.out (fun e => (by have := N0.out _ e; omega))).chg (chg_at w2 w.heap.size 1 (.slice oa2 Lo2 co2)) (by omega)).chg X3.out (fun e => (by have := M0.out _ e; omega))); have z := R3.out; obtain ⟨z0, z1, z2, x0', x1', x2'⟩ := z; clear hown3 hg3 hO3 y0 y1 y2 e0 e1 e2; obtain ⟨pa2, Lp2, cp2, rfl, hLp2⟩ := owns_name O3.out; have k0 := set1_off (b := w.heap.size) 2 (.slice pa2 Lp2 cp2) z0 (by omega); have k1 := set1_off (b := w.heap.size) 2 (.slice pa2 Lp2 cp2) z1 (by omega); have k2 := set1_off (b := w.heap.size) 2 (.slice pa2 Lp2 cp2) z2 (by omega); have g012 := set3_cells (.slice sa Ls0 cs) (.slice oa2 Lo2 co2) (.slice pa2 Lp2 cp2) k0 k1 k2; obtain ⟨⟨g0, g1⟩, g2⟩ := g012))
  simp [bodyPost, results, Try.results60, go_sem, g0, g1, g2]
  have hsn : (g ++ [((0 : Int), p)]).map (·.1) = g.map (·.1) ++ [0] := by simp
  have hsp : (g ++ [((0 : Int), p)]).map (·.2) = g.map (·.2) ++ [p] := by simp
  have nv2 : ∀ q, (Value.slice oa2 Lo2 co2).ownBlock = some q → q ≠ w.heap.size ∧ q ≠ w.heap.size + 1 := fun q hq => by
    rcases B2.out _ hq with h | h
    · have := N0.out _ h; omega
    · simp at h; omega
  have nv3 : ∀ q, (Value.slice pa2 Lp2 cp2).ownBlock = some q → q ≠ w.heap.size ∧ q ≠ w.heap.size + 1 := fun q hq => by
    rcases B3.out _ hq with h | h
    · have := M0.out _ h; omega
    · simp at h; omega
  have nvs : ∀ q, (Value.slice sa Ls0 cs).ownBlock = some q → q ≠ w.heap.size ∧ q ≠ w.heap.size + 1 := fun q hq => by have := L0.out _ hq; omega
  refine ⟨_, _, rfl, ⟨own_off3 (own_off SS3.out _ _ (fun q hq => (nvs q hq).1)) _ _ _ (fun q hq => (nvs q hq).2), ?_, ?_, fun q hq hq2 => ?_, fun q hq hq2 => ?_, fun q hq hq2 => ?_⟩, ?_, fun q hq => (B2.out q hq).imp id (fun h => by simp at h; omega), fun q hq => (B3.out q hq).imp id (fun h => by simp at h; omega)⟩
  · rw [hsn]; exact own_off3 (own_off OO3.out _ _ (fun q hq => (nv2 q hq).1)) _ _ _ (fun q hq => (nv2 q hq).2)
  · rw [hsp]; exact own_off3 (own_off O3.out _ _ (fun q hq => (nv3 q hq).1)) _ _ _ (fun q hq => (nv3 q hq).2)
  · have a3 := B3.out _ hq2
    have a2 := B2.out _ hq
    have l2 := (O2.out.lt _ hq).2
    rcases a3 with h | h
    · rcases a2 with h2 | h2
      · exact GG.out.d1 q h2 h
      · have := M0.out _ h; simp at h2; omega
    · simp at h; omega
  · rcases B2.out _ hq2 with h | h
    · exact GG.out.d2 q hq h
    · have := L0.out _ hq; simp at h; omega
  · rcases B3.out _ hq2 with h | h
    · exact GG.out.d3 q hq h
    · have := L0.out _ hq; simp at h; omega
  · have c1 : Chg (fun k => (Value.slice oa Lo co).ownBlock = some k ∨ (Value.slice pa Lp cp).ownBlock = some k) w w2 := HC1.out.trans X2.out (fun _ _ h => h.elim) (fun _ _ h => .inl h)
    have c2 := c1.setCell (p := ⟨w.heap.size, 1, none⟩) (.inr (Nat.le_refl _)) (.slice oa2 Lo2 co2)
    have c3 := c2.trans X3.out (T := fun k => (Value.slice oa Lo co).ownBlock = some k ∨ (Value.slice pa Lp cp).ownBlock = some k) (fun _ _ h => h) (fun _ _ h => .inr h)
    exact (((c3.setCell (p := ⟨w.heap.size, 2, none⟩) (.inr (Nat.le_refl _)) _).setCell (p := ⟨w.heap.size + 1, 0, none⟩) (.inr (Nat.le_succ _)) _).setCell (p := ⟨w.heap.size + 1, 1, none⟩) (.inr (Nat.le_succ _)) _).setCell (p := ⟨w.heap.size + 1, 2, none⟩) (.inr (Nat.le_succ _)) _
end Go.Proofs.Ytmmbdhfljabefaa
