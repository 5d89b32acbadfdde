/- turn: the document's ways, put together place by place. -/
import Derived.Test.YtjmlekdgipinfaaMt9
import Derived.Test.YtjmlekdgipinfaaMt10
import Derived.Test.YtjmlekdgipinfaaMt7
namespace Go.Proofs.Ytjmlekdgipinfaa
open Go.RowKit Go.Shelf

/-- A way of the call's own, under way. -/
structure GatB (w : World) (base : Nat) (vs vo vp : Value) (s : List Int) (g : List (Int × Int)) : Prop where
  os : Own w base 3 vs s
  oo : Own w base 3 vo (g.map (·.1))
  op : Own w base 3 vp (g.map (·.2))
  d1 : ∀ q, vo.ownBlock = some q → ¬ vp.ownBlock = some q
  d2 : ∀ q, vs.ownBlock = some q → ¬ vo.ownBlock = some q
  d3 : ∀ q, vs.ownBlock = some q → ¬ vp.ownBlock = some q
theorem GatB.fr {w w' : World} {base : Nat} {vs vo vp : Value} {s : List Int} {g : List (Int × Int)} (h : GatB w base vs vo vp s g) (hC : Chg (fun _ => False) w w') : GatB w' base vs vo vp s g :=
  ⟨h.os.fr hC, h.oo.fr hC, h.op.fr hC, h.d1, h.d2, h.d3⟩
theorem GatB.chg {S : Nat → Prop} {w w' : World} {base : Nat} {vs vo vp : Value} {s : List Int} {g : List (Int × Int)} (h : GatB w base vs vo vp s g) (hC : Chg S w w') (hS : ∀ k, S k → k < base) : GatB w' base vs vo vp s g :=
  ⟨h.os.chg hC (fun k hk hs => by have := (h.os.lt k hk).1; have := hS k hs; omega), h.oo.chg hC (fun k hk hs => by have := (h.oo.lt k hk).1; have := hS k hs; omega), h.op.chg hC (fun k hk hs => by have := (h.op.lt k hk).1; have := hS k hs; omega), h.d1, h.d2, h.d3⟩
theorem GatB.gat {w : World} {base : Nat} {vs vo vp : Value} {s : List Int} {g : List (Int × Int)} (h : GatB w base vs vo vp s g) (n : Int) : GatAt w (.agg #[vs, vo, vp]) ⟨s, g, n⟩ := ⟨vs, vo, vp, rfl, h.os.ls, h.oo.ls, h.op.ls⟩
theorem own_snoc {w2 : World} {base t : Nat} {v2 : Value} {xs : List Int} {x : Int} {n : Nat} (h2 : w2.ownsRow base t 1 v2 n (xs.map I ++ [.int .i64 x])) (hn : n = xs.length + 1) : Own w2 base t v2 (xs ++ [x]) := by
  subst hn
  unfold Own
  rw [List.length_append, List.map_append]
  exact h2
theorem own_off {w : World} {base t b : Nat} {v : Value} {xs : List Int} (h : Own w base t v xs) (i : Nat) (u : Value) (hb : ∀ q, v.ownBlock = some q → q ≠ b) : Own (w.setCell ⟨b, i, none⟩ u) base t v xs := h.chg (chg_at w b i u) (fun q hq e => hb q hq e)
theorem own_off3 {w : World} {base t b : Nat} {v : Value} {xs : List Int} (h : Own w base t v xs) (u0 u1 u2 : Value) (hb : ∀ q, v.ownBlock = some q → q ≠ b) : Own (((w.setCell ⟨b, 0, none⟩ u0).setCell ⟨b, 1, none⟩ u1).setCell ⟨b, 2, none⟩ u2) base t v xs :=
  own_off (own_off (own_off h 0 u0 hb) 1 u1 hb) 2 u2 hb
theorem set1_off {w : World} {b g i : Nat} {z : Value} (j : Nat) (u : Value) (h : w.cell? ⟨g, i, none⟩ = some z) (hb : b ≠ g) : (w.setCell ⟨b, j, none⟩ u).cell? ⟨g, i, none⟩ = some z := by
  rw [World.cell?_setCell_other _ _ _ _ (fun e => hb (congrArg Addr.block e))]
  exact h
end Go.Proofs.Ytjmlekdgipinfaa
/- turn: what comes of an array by a way. -/
namespace Go.Proofs.Ytjmlekdgipinfaa
open Go.RowKit Go.Shelf

/-- What comes of an array by a way: the error, and the array. -/
def tgN (W : Wy) (A : Ar) : Int := if chkB A then (if W.n = 0 then goN A.k W.s W.g [A] else W.n) else 110
def tgA (W : Wy) (A : Ar) : Ar := if chkB A then (if W.n = 0 then goA A.k W.s W.g [A] else noA) else noA
set_option maxRecDepth 100000 in
set_option maxHeartbeats 2000000 in
theorem gone_any (gf : Nat) (pre : Array Value) (eg : ∀ args w, (callFunc gf args).run Try.prog w = .ok (.enter gf args) w) (W : Wy) (v : Value) (A : Ar) (w : World) (hA : Ara w v A) (hle : A.e.length ≤ 1000000)
    (hcall : ∀ v' w', Chg (fun _ => False) w w' → Ls w' v' A.s → Calls Try.prog gf (pre ++ #[v']) w' (GaveW w' W)) (hgd : W.n = 0 → shB W.s = true ∧ (W.g.length : Int) = prodL W.s) :
    Calls Try.prog 79 #[v, .func (.func gf) pre #[]] w (GaveAE w (tgA W A) (tgN W A)) := by
  have hA' := hA
  obtain ⟨k, t, e⟩ := A
  obtain ⟨vt, ve, hv, ht, he⟩ := hA
  simp only at hv ht he hle hcall
  subst hv
  obtain ⟨ta, ct, rfl, _⟩ := ht.form
  obtain ⟨ae, ce, rfl, _⟩ := he.form
  have hC0 := ((Chg.refl (fun _ => False) w).alloc (.cells #[.int .i64 k, .slice ta t.length ct, .slice ae e.length ce] 25)).alloc (.cells #[.int .i64 0, .slice none 0 0, .slice none 0 0] 25)
  have hB0 := Bx.new (w.alloc (.cells #[.int .i64 k, .slice ta t.length ct, .slice ae e.length ce] 25)) (.int .i64 0) (.slice none 0 0) (.slice none 0 0) 25
  simp only [World.size_alloc] at hB0
  obtain ⟨y0, y1, y2⟩ := cell_two w (.int .i64 k) (.slice ta t.length ct) (.slice ae e.length ce) 25
  have hck := check_any _ ⟨k, t, e⟩ _ (hA'.fr hC0) hle
  cases hcb : chkB ⟨k, t, e⟩ with
  | false =>
    rw [show chkE ⟨k, t, e⟩ = 110 by unfold chkE; rw [hcb]; rfl] at hck
    have HR := Lib.hid (show tgA W ⟨k, t, e⟩ = noA ∧ tgN W ⟨k, t, e⟩ = 110 by unfold tgA tgN; rw [hcb]; exact ⟨rfl, rfl⟩)
    replace y0 := alloc_cell y0 (.cells #[.int .i64 0, .slice none 0 0, .slice none 0 0] 25)
    replace y1 := alloc_cell y1 (.cells #[.int .i64 0, .slice none 0 0, .slice none 0 0] 25)
    replace y2 := alloc_cell y2 (.cells #[.int .i64 0, .slice none 0 0, .slice none 0 0] 25)
    clear hA' ht he hcall hgd hcb eg
    go_enter Try.func79, Try.ntmps79
    go_wp2_with fail
    refine hck.mono ?_
    clear hck
    rintro e9 w1 ⟨rfl, hC1⟩
    have hsz : w.heap.size + 1 < w1.heap.size := (hB0.fr hC1).lt
    have hB1 := hB0.fr hC1
    replace y0 := hC1.cell y0 id
    replace y1 := hC1.cell y1 id
    replace y2 := hC1.cell y2 id
    have HC := Lib.hid (hC0.tr hC1)
    obtain ⟨z0, z1, z2, x0, x1, x2⟩ := hB1
    obtain ⟨⟨g0, g1⟩, g2⟩ := set3_cells (.int .i64 0) (.slice none 0 0) (.slice none 0 0) z0 z1 z2
    clear hC1 hC0
    go_wp2
    simp [bodyPost, results, Try.results79, go_sem, g0, g1, g2]
    rw [HR.out.1, HR.out.2]
    exact leaveNo (Nat.le_succ _) HC.out
  | true =>
    rw [show chkE ⟨k, t, e⟩ = 0 by unfold chkE; rw [hcb]; rfl] at hck
    replace y0 := alloc_cell y0 (.cells #[.int .i64 0, .slice none 0 0, .slice none 0 0] 25)
    replace y1 := alloc_cell y1 (.cells #[.int .i64 0, .slice none 0 0, .slice none 0 0] 25)
    replace y2 := alloc_cell y2 (.cells #[.int .i64 0, .slice none 0 0, .slice none 0 0] 25)
    have HCALL := Lib.hid hcall
    have HT := Lib.hid ht
    have HE := Lib.hid he
    have HGD := Lib.hid hgd
    by_cases hn : W.n = 0
    · have HR := Lib.hid (show tgA W ⟨k, t, e⟩ = goA k W.s W.g [⟨k, t, e⟩] ∧ tgN W ⟨k, t, e⟩ = goN k W.s W.g [⟨k, t, e⟩] by unfold tgA tgN; rw [hcb, if_pos hn, if_pos hn]; exact ⟨rfl, rfl⟩)
      have HN := Lib.hid hn
      clear hA' ht he hcall hgd hcb hn
      go_enter Try.func79, Try.ntmps79
      go_wp2_with fail
      refine hck.mono ?_
      clear hck
      rintro e9 w1 ⟨rfl, hC1⟩
      have hsz : w.heap.size + 1 < w1.heap.size := (hB0.fr hC1).lt
      have hB1 := hB0.fr hC1
      replace y0 := hC1.cell y0 id
      replace y1 := hC1.cell y1 id
      replace y2 := hC1.cell y2 id
      have HC := Lib.hid (hC0.tr hC1)
      have hcl := HCALL.out _ w1 HC.out (HT.out.fr HC.out)
      go_wp2_with fail
      refine hcl.mono ?_
      clear hcl
      rintro e9 w3 ⟨v3, D3, rfl, hW3, hD3, hC3⟩
      obtain ⟨_, vs3, gf3, lb3, rfl, hs3, hd3, hf3⟩ := id (hW3.resolve_right (fun h => h.1 HN.out))
      obtain ⟨a3, c3, rfl, _⟩ := hs3.form
      have hB3 := hB1.fr hC3
      have hsz3 : w.heap.size + 1 < w3.heap.size := hB3.lt
      have hsz30 : w.heap.size < w3.heap.size := by omega
      replace y0 := hC3.cell y0 id
      replace y1 := hC3.cell y1 id
      replace y2 := hC3.cell y2 id
      have hWe : W = ⟨W.s, W.g, 0⟩ := by
        have h := HN.out
        rcases W with ⟨s, g, n⟩
        simp only at h
        subst h
        rfl
      have hCn := ((Chg.refl (fun _ => False) w3).alloc (.cells #[.slice a3 W.s.length c3, .func (.func gf3) #[] lb3] 133)).alloc (.cells #[.int .i64 k, .slice ta t.length ct, .slice ae e.length ce] 25)
      have hq := (cell_two (w3.alloc (.cells #[.slice a3 W.s.length c3, .func (.func gf3) #[] lb3] 133)) (.int .i64 k) (.slice ta t.length ct) (.slice ae e.length ce) 25).2.2
      rw [World.size_alloc] at hq
      have hgo := mgo_any _ (.slice (some ⟨w3.heap.size + 1, 0, none⟩) 1 1) k W.s W.g D3 [⟨k, t, e⟩] _ (show WayAt _ D3 _ ⟨W.s, W.g, 0⟩ by rw [← hWe]; exact hW3.fr hCn) (HGD.out HN.out).1 (HGD.out HN.out).2 ⟨some ⟨w3.heap.size + 1, 0, none⟩, 1, rfl, fun j hj => ⟨w3.heap.size + 1, 0, rfl, .slice ae e.length ce, by obtain rfl : j = 0 := Nat.lt_one_iff.1 hj; exact hq, by obtain rfl : j = 0 := Nat.lt_one_iff.1 hj; exact (HE.out.fr (HC.out.tr hC3)).fr hCn⟩⟩ (fun A hA => by rw [List.mem_singleton.1 hA]; exact hle)
      clear hW3 hs3 hd3 hf3 hq hWe hD3
      have HC2 := Lib.hid ((HC.out.tr hC3).tr hCn)
      have HRS := Lib.hid HR.out
      have hB4 := hB3.fr hCn
      have hb4 : w.heap.size + 1 < ((w3.alloc (.cells #[.slice a3 W.s.length c3, .func (.func gf3) #[] lb3] 133)).alloc (.cells #[.int .i64 k, .slice ta t.length ct, .slice ae e.length ce] 25)).heap.size := hB4.lt
      have HB4 := Lib.hid hb4
      clear hb4
      rw [HN.out]
      clear hC1 hC3 hC0 hB1 hB3
      go_wp2_with fail
      refine hgo.mono ?_
      clear hgo hCn
      rintro e9 w4 ⟨v4, rfl, ho4, hC4⟩
      generalize goA k W.s W.g [⟨k, t, e⟩] = AA at *
      generalize goN k W.s W.g [⟨k, t, e⟩] = NN at *
      obtain ⟨a5, c5, a6, c6, hv4, q1, q2⟩ := ara_new ho4
      subst hv4
      obtain ⟨z0, z1, z2, x0, x1, x2⟩ := hB4.fr hC4
      obtain ⟨⟨g0, g1⟩, g2⟩ := set3_cells (.int .i64 AA.k) (.slice a5 AA.s.length c5) (.slice a6 AA.e.length c6) z0 z1 z2
      have HC4 := Lib.hid (HC2.out.tr hC4)
      clear hC4 y0 y1 y2 ho4 hB4
      go_wp2
      simp [bodyPost, results, Try.results79, go_sem, g0, g1, g2]
      rw [HRS.out.1, HRS.out.2]
      show GaveAE w ⟨AA.k, AA.s, AA.e⟩ NN _ _
      exact leaveAE q1 q2 (by omega) HB4.out HB4.out HC4.out
    · have HR := Lib.hid (show tgA W ⟨k, t, e⟩ = noA ∧ tgN W ⟨k, t, e⟩ = W.n by unfold tgA tgN; rw [hcb, if_neg hn, if_neg hn]; exact ⟨rfl, rfl⟩)
      have HN := Lib.hid hn
      have hb : (W.n != 0) = true := bne_iff_ne.2 hn
      clear hA' ht he hcall hgd hcb hn
      go_enter Try.func79, Try.ntmps79
      go_wp2_with fail
      refine hck.mono ?_
      clear hck
      rintro e9 w1 ⟨rfl, hC1⟩
      have hsz : w.heap.size + 1 < w1.heap.size := (hB0.fr hC1).lt
      have hB1 := hB0.fr hC1
      replace y0 := hC1.cell y0 id
      replace y1 := hC1.cell y1 id
      replace y2 := hC1.cell y2 id
      have HC := Lib.hid (hC0.tr hC1)
      have hcl := HCALL.out _ w1 HC.out (HT.out.fr HC.out)
      go_wp2_with fail
      refine hcl.mono ?_
      clear hcl
      rintro e9 w3 ⟨v3, D3, rfl, hW3, hD3, hC3⟩
      obtain ⟨_, _, _, rfl⟩ := hW3.resolve_left (fun h => HN.out h.1)
      obtain ⟨z0, z1, z2, x0, x1, x2⟩ := hB1.fr hC3
      have hsz3 : w.heap.size + 1 < w3.heap.size := cell_lt z0
      obtain ⟨⟨g0, g1⟩, g2⟩ := set3_cells (.int .i64 0) (.slice none 0 0) (.slice none 0 0) z0 z1 z2
      replace g0 := alloc_cell g0 (.cells #[.slice none 0 0, .nilFunc] 133)
      replace g1 := alloc_cell g1 (.cells #[.slice none 0 0, .nilFunc] 133)
      replace g2 := alloc_cell g2 (.cells #[.slice none 0 0, .nilFunc] 133)
      replace HC := Lib.hid (HC.out.tr hC3)
      clear hC1 hC0 hC3 hB1 hD3 hW3
      generalize W.n = n at *
      go_wp2
      simp [bodyPost, results, Try.results79, go_sem, g0, g1, g2]
      rw [HR.out.1, HR.out.2]
      have h9 := leaveNo (w := w) (b := w.heap.size + 1) (n := n) (Nat.le_succ _) HC.out
      obtain ⟨v9, e9, o9, c9⟩ := h9
      exact ⟨v9, e9, o9.fr ((Chg.refl _ _).alloc _), c9.alloc _⟩
end Go.Proofs.Ytjmlekdgipinfaa
