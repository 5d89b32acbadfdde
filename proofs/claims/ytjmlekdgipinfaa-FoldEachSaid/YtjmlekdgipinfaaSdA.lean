/- scalar.mapped: numbers that come of two, of a shape. -/
import Derived.Test.YtjmlekdgipinfaaScZ
import Derived.Test.YtjmlekdgipinfaaIn
namespace Go.Proofs.Ytjmlekdgipinfaa
open Go.RowKit Go.Shelf
attribute [local go_sem] Oper.semAt_some

def vaL (p : Int → Int → Int × Int) (xs : List (Int × Int)) : List Int := xs.map fun x => (p x.1 x.2).1
/-- The first error. -/
def frE (p : Int → Int → Int × Int) : List (Int × Int) → Int
  | [] => 0
  | x :: xs => if (p x.1 x.2).2 = 0 then frE p xs else (p x.1 x.2).2
theorem frE_app (p : Int → Int → Int × Int) (pre xs : List (Int × Int)) (h : frE p pre = 0) : frE p (pre ++ xs) = frE p xs := by
  induction pre with
  | nil => rfl
  | cons x r ih =>
    by_cases h0 : (p x.1 x.2).2 = 0
    · simp only [List.cons_append, frE, if_pos h0] at h ⊢
      exact ih h
    · simp only [frE, if_neg h0] at h
      exact absurd h h0
theorem frE_ne (p : Int → Int → Int × Int) (pre xs : List (Int × Int)) (h : frE p pre ≠ 0) : frE p (pre ++ xs) = frE p pre := by
  induction pre with
  | nil => exact absurd rfl h
  | cons x r ih =>
    by_cases h0 : (p x.1 x.2).2 = 0
    · simp only [List.cons_append, frE, if_pos h0] at h ⊢
      exact ih h
    · simp only [List.cons_append, frE, if_neg h0]
def GaveMap (w : World) (us : Value) (p : Int → Int → Int × Int) (xs : List (Int × Int)) (e : Ending) (w' : World) : Prop := ∃ k vs ve, e = .returned (.tuple #[.agg #[.int .i64 k, vs, ve], .int .i64 (frE p xs)]) ∧ Chg (fun _ => False) w w' ∧
  (frE p xs = 0 → k = 1 ∧ vs = us ∧ Own w' w.heap.size 2 ve (vaL p xs)) ∧ (frE p xs ≠ 0 → k = 0 ∧ vs = .slice none 0 0 ∧ ve = .slice none 0 0)
def ColM (b12 b13 base : Nat) (us : Value) (p : Int → Int → Int × Int) (w1 : World) (pre : List (Int × Int)) (W : World) : Prop := frE p pre = 0 ∧ (∃ v, W.cell? ⟨b12, 2, none⟩ = some v ∧ Own W base 2 v (vaL p pre)) ∧ W.cell? ⟨b12, 0, none⟩ = some (.int .i64 1) ∧ W.cell? ⟨b12, 1, none⟩ = some us ∧ W.frozen? ⟨b12, 2, none⟩ = false ∧ W.cell? ⟨b13, 0, none⟩ = some (.int .i64 0) ∧ W.frozen? ⟨b13, 0, none⟩ = false ∧ Chg (fun q => q = b12 ∨ q = b13) w1 W
def StpM (b12 b13 : Nat) (p : Int → Int → Int × Int) (w1 : World) (c : Code) (pre : List (Int × Int)) (W : World) : Prop := c = .exit 0 ∧ frE p pre ≠ 0 ∧ W.cell? ⟨b13, 0, none⟩ = some (.int .i64 (frE p pre)) ∧ Chg (fun q => q = b12 ∨ q = b13) w1 W
theorem ColM.own (b12 b13 base : Nat) (us : Value) (p : Int → Int → Int × Int) (w1 : World) (N : Nat) (h1 : w1.heap.size ≤ N) : OwnFrom N (ColM b12 b13 base us p w1) := by
  rintro pre A C row ⟨h0, ⟨v, h2, ho⟩, c0, c1, f2, d0, f0, hC⟩ hg hr
  have hk := fun {q : Addr} {u : Value} (h : A.cell? q = some u) => cell_kept h hg (fun r e => (hr r e).2)
  exact ⟨h0, ⟨v, hk h2, owns_kept ho hg (fun r e => (hr r e).2)⟩, hk c0, hk c1, (frozen_kept h2 hg (fun r e => (hr r e).2)).trans f2, hk d0, (frozen_kept d0 hg (fun r e => (hr r e).2)).trans f0, hC.grown hg (fun k e => .inr (Nat.le_trans h1 (hr k e).1))⟩
theorem StpM.own (b12 b13 : Nat) (p : Int → Int → Int × Int) (w1 : World) (c : Code) (N : Nat) (h1 : w1.heap.size ≤ N) : OwnFrom N (StpM b12 b13 p w1 c) := by
  rintro pre A C row ⟨h0, h2, d0, hC⟩ hg hr
  exact ⟨h0, h2, cell_kept d0 hg (fun r e => (hr r e).2), hC.grown hg (fun k e => .inr (Nat.le_trans h1 (hr k e).1))⟩
theorem ColM.abides (b12 b13 base : Nat) (us : Value) (p : Int → Int → Int × Int) (w1 : World) : AbidesT (fun _ => False) (ColM b12 b13 base us p w1) := by
  rintro pre A C ⟨h0, ⟨v, h2, ho⟩, c0, c1, f2, d0, f0, hC⟩ hD
  exact ⟨h0, ⟨v, hD.cell h2 id, ho.fr hD⟩, hD.cell c0 id, hD.cell c1 id, hD.frozen h2 f2 id, hD.cell d0 id, hD.frozen d0 f0 id, hC.trans hD (fun _ _ h => h) (fun _ _ h => h.elim)⟩
theorem StpM.abides (b12 b13 : Nat) (p : Int → Int → Int × Int) (w1 : World) (c : Code) : AbidesT (fun _ => False) (StpM b12 b13 p w1 c) := by
  rintro pre A C ⟨h0, h2, d0, hC⟩ hD
  exact ⟨h0, h2, hD.cell d0 id, hC.trans hD (fun _ _ h => h) (fun _ _ h => h.elim)⟩
theorem keeps_own {W w1 : World} {base : Nat} {e : TypeId} {sz n : Nat} {v : Value} {xs : List Value} (h : W.ownsRow base e sz v n xs) (hg : W.grownBy w1 v.ownBlock) : KeepsOthers W w1 := by
  refine KeepsOthers.of_grownBy hg ?_
  intro j ob hj hob
  rcases h.2 with ⟨rfl, _⟩ | ⟨g, cap, cur, rfl, hb, hgg, r⟩
  · simp [Value.ownBlock] at hj
  · have : g = j := by simpa [Value.ownBlock] using hj
    subst this
    rw [hgg] at hob
    cases hob
    rfl
theorem own_neD {W : World} {base t D : Nat} {v : Value} {xs : List Int} {o : Obj} (h : Own W base t v xs) (hK : W.heap[D]? = some o) (ho : o.isCells = false) : ∀ q, v.ownBlock = some q → q ≠ D := by
  rintro q hq rfl
  rcases h.2 with ⟨rfl, _⟩ | ⟨g, cap, cur, rfl, hb, hgg, r⟩
  · simp [Value.ownBlock] at hq
  · have : g = q := by simpa [Value.ownBlock] using hq
    subst this
    rw [hgg] at hK
    cases hK
    simp [Obj.isCells] at ho
theorem map_leave {w W : World} {D b8 : Nat} {us : Value} {p : Int → Int → Int × Int} {xs : List (Int × Int)} {k : Int} {vs ve : Value} {t : Array Value} (hK : W.heap[D]? = some (.deferred (some []))) (hD : w.heap.size ≤ D) (h8 : t[8]?.getD undef = .pointer (some ⟨b8, 0, none⟩)) (h9 : t[9]?.getD undef = .int .i64 (frE p xs))
    (c0 : W.cell? ⟨b8, 0, none⟩ = some (.int .i64 k)) (c1 : W.cell? ⟨b8, 1, none⟩ = some vs) (c2 : W.cell? ⟨b8, 2, none⟩ = some ve) (hC : Chg (fun _ => False) w W)
    (h : (frE p xs = 0 → k = 1 ∧ vs = us ∧ ∃ base, w.heap.size ≤ base ∧ Own W base 2 ve (vaL p xs)) ∧ (frE p xs ≠ 0 → k = 0 ∧ vs = .slice none 0 0 ∧ ve = .slice none 0 0)) :
    bodyPostM Fence.wide 8 Try.prog Try.f56 (GaveMap w us p xs) .ret { tmps := t, defers := [{ target := .collected D, args := #[] }] } W := by
  have e0 := putObj_cell (o' := .deferred none) hK rfl c0
  have e1 := putObj_cell (o' := .deferred none) hK rfl c1
  have e2 := putObj_cell (o' := .deferred none) hK rfl c2
  refine leave_mark (v := .tuple #[.agg #[.int .i64 k, vs, ve], .int .i64 (frE p xs)]) hK ?_ ⟨k, vs, ve, rfl, hC.putObj (.inr hD) _, fun h0 => ?_, h.2⟩
  · simp [results, Try.f56, go_sem, h8, h9, e0, e1, e2]
  · obtain ⟨h1, h2, base, hb, ho⟩ := h.1 h0
    exact ⟨h1, h2, (ho.chg ((Chg.refl (fun q => q = D) W).putObj (.inl rfl) _) (fun q hq e => own_neD ho hK rfl q hq e)).mono hb⟩
theorem beside_seq (bA bB bn bf b12 b13 : Nat) (vs ve us ue : Value) (n : Nat) (A B : Ar) (hn2 : n ≤ 1000000) (hA : ∀ i, i < n → HasAt A i) (hB : ∀ i, i < n → HasAt B i) (Ok : Int × Int → Prop) (hOk : ∀ i, i < n → Ok (elAt A i, elAt B i)) (w00 w : World) (h00 : Chg (fun _ => False) w00 w) (h12 : w00.heap.size ≤ b12) (h13 : w00.heap.size ≤ b13)
    (hb : (b12 < bA ∧ b12 < bB ∧ b12 < bn ∧ b12 < bf) ∧ (b13 < bA ∧ b13 < bB ∧ b13 < bn ∧ b13 < bf)) (hbs : BsAt w bA bB bn bf vs ve us ue n A B) (hs : Ls w00 vs A.s) (he : Ls w00 ve A.e) (ht : Ls w00 us B.s) (hf : Ls w00 ue B.e) :
    SeqKp Try.prog 119 #[.pointer (some ⟨bn, 0, none⟩), .pointer (some ⟨bf, 0, none⟩), .pointer (some ⟨bA, 0, none⟩), .pointer (some ⟨bB, 0, none⟩)] encP (fun q => q < w.heap.size ∧ q ≠ b12 ∧ q ≠ b13) (fun _ => False) Ok (fun ys => ys = prL A B n) (fun pre => ∃ q, q < n ∧ pre = (prL A B n).take (q + 1)) n w := fun l J Jx W hW hJ _ hJx hY h0 =>
  beside2_in l bA bB bn bf vs ve us ue n A B hn2 hA hB (fun q => q < w.heap.size ∧ q ≠ b12 ∧ q ≠ b13) Ok hOk J Jx hJ hY w00 w (fun q hq => ⟨by have := h00.size; omega, by omega, by omega⟩)
    ⟨⟨cell_lt hbs.a0, by omega, by omega⟩, ⟨cell_lt hbs.b0, by omega, by omega⟩, ⟨cell_lt hbs.n0, by omega, by omega⟩, ⟨cell_lt hbs.f0, by omega, by omega⟩⟩ h00 hJx (fun q hq => hq.1) hbs hs he ht hf W (fun q hq => hW.block q hq.1) h0
theorem box3 {W : World} {b : Nat} {x0 x1 x2 v0 v1 v2 : Value} (h0 : W.cell? ⟨b, 0, none⟩ = some x0) (h1 : W.cell? ⟨b, 1, none⟩ = some x1) (h2 : W.cell? ⟨b, 2, none⟩ = some x2) :
    (((W.setCell ⟨b, 0, none⟩ v0).setCell ⟨b, 1, none⟩ v1).setCell ⟨b, 2, none⟩ v2).cell? ⟨b, 0, none⟩ = some v0 ∧ (((W.setCell ⟨b, 0, none⟩ v0).setCell ⟨b, 1, none⟩ v1).setCell ⟨b, 2, none⟩ v2).cell? ⟨b, 1, none⟩ = some v1 ∧ (((W.setCell ⟨b, 0, none⟩ v0).setCell ⟨b, 1, none⟩ v1).setCell ⟨b, 2, none⟩ v2).cell? ⟨b, 2, none⟩ = some v2 ∧
      Chg (fun q => q = b) W (((W.setCell ⟨b, 0, none⟩ v0).setCell ⟨b, 1, none⟩ v1).setCell ⟨b, 2, none⟩ v2) := by
  have e2 : ((W.setCell ⟨b, 0, none⟩ v0).setCell ⟨b, 1, none⟩ v1).cell? ⟨b, 2, none⟩ = some x2 := (World.cell?_setCell_other _ _ _ _ (by simp)).trans ((World.cell?_setCell_other _ _ _ _ (by simp)).trans h2)
  have e1 : (W.setCell ⟨b, 0, none⟩ v0).cell? ⟨b, 1, none⟩ = some x1 := (World.cell?_setCell_other _ _ _ _ (by simp)).trans h1
  exact ⟨(World.cell?_setCell_other _ _ _ _ (by simp)).trans ((World.cell?_setCell_other _ _ _ _ (by simp)).trans (World.cell?_setCell_same' _ _ _ (by rw [h0]; rfl))), (World.cell?_setCell_other _ _ _ _ (by simp)).trans (World.cell?_setCell_same' _ _ _ (by rw [e1]; rfl)), World.cell?_setCell_same' _ _ _ (by rw [e2]; rfl),
    (((Chg.refl (fun q => q = b) W).setCell (p := ⟨b, 0, none⟩) (.inl rfl) _).setCell (p := ⟨b, 1, none⟩) (.inl rfl) _).setCell (p := ⟨b, 2, none⟩) (.inl rfl) _⟩
theorem mkeepsC {W W' : World} (h : Chg (fun _ => False) W W') : KeepsOthers W W' := ⟨h.size, fun k _ hk _ => (h.block k (Array.getElem?_eq_some_iff.1 hk).1 id).trans hk⟩
theorem map_more {W2 w2 : World} {bo bz base L cp : Nat} {t : TypeId} {ao : Option Addr} {u vx x0 x1 x2 : Value} {xs : List Int} (ho : Own W2 base 2 (.slice ao L cp) xs) (h1 : bo < base) (h2 : bo ≠ bz) (h3 : bz < base) (hg : World.grownBy ((W2.setCell ⟨bz, 0, none⟩ u).alloc (.cells #[vx] t)) w2 (Value.slice ao L cp).ownBlock)
    (c2 : W2.cell? ⟨bo, 2, none⟩ = some x2) (c1 : W2.cell? ⟨bo, 1, none⟩ = some x1) (c0 : W2.cell? ⟨bo, 0, none⟩ = some x0) (f2 : W2.frozen? ⟨bo, 2, none⟩ = false) {z0 : Value} (d0 : W2.cell? ⟨bz, 0, none⟩ = some z0) (f0 : W2.frozen? ⟨bz, 0, none⟩ = false) :
    Chg (fun q => q = bz ∨ (Value.slice ao L cp).ownBlock = some q) W2 w2 ∧ w2.cell? ⟨bo, 2, none⟩ = some x2 ∧ w2.cell? ⟨bo, 1, none⟩ = some x1 ∧ w2.cell? ⟨bo, 0, none⟩ = some x0 ∧ w2.frozen? ⟨bo, 2, none⟩ = false ∧ w2.cell? ⟨bz, 0, none⟩ = some u ∧ w2.frozen? ⟨bz, 0, none⟩ = false := by
  have hB : Chg (fun q => q = bz ∨ (Value.slice ao L cp).ownBlock = some q) W2 w2 := ((Chg.mono (chg_cell W2 bz 0 u) (fun _ _ h => .inl h)).alloc _).grown hg (fun k e => .inl (.inr e))
  have hnb : ¬ (bo = bz ∨ (Value.slice ao L cp).ownBlock = some bo) := fun e => e.elim h2 (fun e => by have := (ho.lt _ e).1; omega)
  have hD : Chg (fun q => (Value.slice ao L cp).ownBlock = some q) (W2.setCell ⟨bz, 0, none⟩ u) w2 := ((Chg.refl _ _).alloc _).grown hg (fun k e => .inl e)
  have hnz : ¬ (Value.slice ao L cp).ownBlock = some bz := fun e => by have := (ho.lt _ e).1; omega
  have dz : (W2.setCell ⟨bz, 0, none⟩ u).cell? ⟨bz, 0, none⟩ = some u := World.cell?_setCell_same' _ _ _ (by rw [d0]; rfl)
  exact ⟨hB, hB.cell c2 hnb, hB.cell c1 hnb, hB.cell c0 hnb, hB.frozen c2 f2 hnb, hD.cell dz hnz, hD.frozen dz (by rw [World.frozen?_setCell]; exact f0) hnz⟩
set_option maxRecDepth 100000 in
set_option maxHeartbeats 4000000 in
theorem mapped_any (vw fv vs ve us ue : Value) (S : List Int) (n : Nat) (A B : Ar) (p : Int → Int → Int × Int) (w : World) (hS : Ls w vw S) (hF : Fn2 w fv p) (hs : Ls w vs A.s) (he : Ls w ve A.e) (ht : Ls w us B.s) (hf : Ls w ue B.e) (hn : cntN S = n) (hn2 : n ≤ 1000000)
    (hA : ∀ i, i < n → HasAt A i) (hB : ∀ i, i < n → HasAt B i) (hIn : ∀ i, i < n → In (elAt A i) ∧ In (elAt B i)) : Calls Try.prog 56 #[vw, .agg #[.int .i64 A.k, vs, ve], .agg #[.int .i64 B.k, us, ue], fv] w (GaveMap w vw p (prL A B n)) := by
  obtain ⟨i0, hi, hz0, hz1, hz2⟩ := info_parts info_long
  obtain ⟨gf, lb, rfl, egf, hcf⟩ := hF
  obtain ⟨wa, cw, rfl, _⟩ := id hS.form
  obtain ⟨sa, cs, rfl, _⟩ := hs.form
  obtain ⟨ea, ce, rfl, _⟩ := he.form
  obtain ⟨ta, ct, rfl, _⟩ := ht.form
  obtain ⟨fa, cf, rfl, _⟩ := hf.form
  have hC1 := ((((Chg.refl (fun _ => False) w).alloc (.cells #[.int .i64 A.k, .slice sa A.s.length cs, .slice ea A.e.length ce] 25)).alloc (.cells #[.int .i64 B.k, .slice ta B.s.length ct, .slice fa B.e.length cf] 25)).alloc (.cells #[.func (.func gf) #[] lb] 33)).alloc (.cells #[.int .i64 0, .slice none 0 0, .slice none 0 0] 25)
  have hca := count_any _ S _ (hS.fr hC1)
  unfold GaveC at hca
  rw [hn] at hca
  generalize cntE S = E at hca
  have HL := Lib.hid (show Ls w _ A.s ∧ Ls w _ A.e ∧ Ls w _ B.s ∧ Ls w _ B.e from ⟨hs, he, ht, hf⟩)
  clear hs he ht hf hS
  (refine calls_of_wp_marks Try.func56 rfl ?_; simp only [Try.ntmps56, List.size_toArray, List.length_cons, List.length_nil, Nat.reduceAdd, Nat.reduceSub, Array.replicate_succ, Array.replicate_zero, List.push_toArray, List.append_toArray, List.nil_append, List.cons_append])
  go_wp2_with fail
  go_step3
  go_wp2_with (go_at_call 67; refine hca.mono ?_; clear hca; rintro e9 w3 ⟨rfl, rfl⟩)
  obtain ⟨v1, hv1⟩ : ∃ v, w.alloc (.cells #[.int .i64 A.k, .slice sa A.s.length cs, .slice ea A.e.length ce] 25) = v := ⟨_, rfl⟩
  obtain ⟨v2, hv2⟩ : ∃ v, v1.alloc (.cells #[.int .i64 B.k, .slice ta B.s.length ct, .slice fa B.e.length cf] 25) = v := ⟨_, rfl⟩
  obtain ⟨v3, hv3⟩ : ∃ v, v2.alloc (.cells #[.func (.func gf) #[] lb] 33) = v := ⟨_, rfl⟩
  obtain ⟨v4, hv4⟩ : ∃ v, v3.alloc (.cells #[.int .i64 0, .slice none 0 0, .slice none 0 0] 25) = v := ⟨_, rfl⟩
  obtain ⟨v5, hv5⟩ : ∃ v, v4.alloc (.cells #[.int .i64 1, .slice wa S.length cw, .slice none 0 0] 25) = v := ⟨_, rfl⟩
  obtain ⟨v6, hv6⟩ : ∃ v, v5.alloc (.cells #[.int .i64 0] 28) = v := ⟨_, rfl⟩
  rw [hv1, hv2, hv3, hv4, hv5, hv6]
  have z1 : v1.heap.size = w.heap.size + 1 := by rw [← hv1, World.size_alloc]
  have g1 : Chg (fun _ => False) w v1 := by rw [← hv1]; exact (Chg.refl _ _).alloc _
  have a0 := new_cell w #[.int .i64 A.k, .slice sa A.s.length cs, .slice ea A.e.length ce] 25 (i := 0) rfl
  have a1 := new_cell w #[.int .i64 A.k, .slice sa A.s.length cs, .slice ea A.e.length ce] 25 (i := 1) rfl
  have a2 := new_cell w #[.int .i64 A.k, .slice sa A.s.length cs, .slice ea A.e.length ce] 25 (i := 2) rfl
  rw [hv1] at a0 a1 a2
  have z2 : v2.heap.size = w.heap.size + 1 + 1 := by rw [← hv2, World.size_alloc, z1]
  have g2 : Chg (fun _ => False) v1 v2 := by rw [← hv2]; exact (Chg.refl _ _).alloc _
  have b0 := new_cell v1 #[.int .i64 B.k, .slice ta B.s.length ct, .slice fa B.e.length cf] 25 (i := 0) rfl
  have b1 := new_cell v1 #[.int .i64 B.k, .slice ta B.s.length ct, .slice fa B.e.length cf] 25 (i := 1) rfl
  have b2 := new_cell v1 #[.int .i64 B.k, .slice ta B.s.length ct, .slice fa B.e.length cf] 25 (i := 2) rfl
  rw [z1, hv2] at b0 b1 b2
  have z3 : v3.heap.size = w.heap.size + 1 + 1 + 1 := by rw [← hv3, World.size_alloc, z2]
  have g3 : Chg (fun _ => False) v2 v3 := by rw [← hv3]; exact (Chg.refl _ _).alloc _
  have k0 := new_cell v2 #[.func (.func gf) #[] lb] 33 (i := 0) rfl
  rw [z2, hv3] at k0
  have z4 : v4.heap.size = w.heap.size + 1 + 1 + 1 + 1 := by rw [← hv4, World.size_alloc, z3]
  have g4 : Chg (fun _ => False) v3 v4 := by rw [← hv4]; exact (Chg.refl _ _).alloc _
  have r0 := new_cell v3 #[.int .i64 0, .slice none 0 0, .slice none 0 0] 25 (i := 0) rfl
  have r1 := new_cell v3 #[.int .i64 0, .slice none 0 0, .slice none 0 0] 25 (i := 1) rfl
  have r2 := new_cell v3 #[.int .i64 0, .slice none 0 0, .slice none 0 0] 25 (i := 2) rfl
  have fr0 := new_frozen v3 #[.int .i64 0, .slice none 0 0, .slice none 0 0] 25 0
  have fr1 := new_frozen v3 #[.int .i64 0, .slice none 0 0, .slice none 0 0] 25 1
  have fr2 := new_frozen v3 #[.int .i64 0, .slice none 0 0, .slice none 0 0] 25 2
  rw [z3, hv4] at r0 r1 r2 fr0 fr1 fr2
  have z5 : v5.heap.size = w.heap.size + 1 + 1 + 1 + 1 + 1 := by rw [← hv5, World.size_alloc, z4]
  have g5 : Chg (fun _ => False) v4 v5 := by rw [← hv5]; exact (Chg.refl _ _).alloc _
  have o0 := new_cell v4 #[.int .i64 1, .slice wa S.length cw, .slice none 0 0] 25 (i := 0) rfl
  have o1 := new_cell v4 #[.int .i64 1, .slice wa S.length cw, .slice none 0 0] 25 (i := 1) rfl
  have o2 := new_cell v4 #[.int .i64 1, .slice wa S.length cw, .slice none 0 0] 25 (i := 2) rfl
  have fo0 := new_frozen v4 #[.int .i64 1, .slice wa S.length cw, .slice none 0 0] 25 0
  have fo1 := new_frozen v4 #[.int .i64 1, .slice wa S.length cw, .slice none 0 0] 25 1
  have fo2 := new_frozen v4 #[.int .i64 1, .slice wa S.length cw, .slice none 0 0] 25 2
  rw [z4, hv5] at o0 o1 o2 fo0 fo1 fo2
  have z6 : v6.heap.size = w.heap.size + 1 + 1 + 1 + 1 + 1 + 1 := by rw [← hv6, World.size_alloc, z5]
  have g6 : Chg (fun _ => False) v5 v6 := by rw [← hv6]; exact (Chg.refl _ _).alloc _
  have z0 := new_cell v5 #[.int .i64 0] 28 (i := 0) rfl
  have fz0 := new_frozen v5 #[.int .i64 0] 28 0
  rw [z5, hv6] at z0 fz0
  have G56 : Chg (fun _ => False) v5 v6 := g6
  have G46 := g5.tr g6
  have G36 := g4.tr G46
  have G26 := g3.tr G36
  have G16 := g2.tr G26
  have G06 := g1.tr G16
  replace a0 := G16.cell a0 id
  replace a1 := G16.cell a1 id
  replace a2 := G16.cell a2 id
  replace b0 := G26.cell b0 id
  replace b1 := G26.cell b1 id
  replace b2 := G26.cell b2 id
  replace k0 := G36.cell k0 id
  replace fr0 := G46.frozen r0 fr0 id
  replace r0 := G46.cell r0 id
  replace fr1 := G46.frozen r1 fr1 id
  replace r1 := G46.cell r1 id
  replace fr2 := G46.frozen r2 fr2 id
  replace r2 := G46.cell r2 id
  replace fo0 := G56.frozen o0 fo0 id
  replace o0 := G56.cell o0 id
  replace fo1 := G56.frozen o1 fo1 id
  replace o1 := G56.cell o1 id
  replace fo2 := G56.frozen o2 fo2 id
  replace o2 := G56.cell o2 id
  clear hv1 hv2 hv3 hv4 hv5 hv6 g1 g2 g3 g4 g5 g6 G56 G46 G36 G26 G16 hC1 z1 z2 z3 z4 z5
  have hbs := beside_any _ _ _ _ n A B v6 (HL.out.1.fr G06) (HL.out.2.1.fr G06) (HL.out.2.2.1.fr G06) (HL.out.2.2.2.fr G06)
  go_step3
  go_wp2_with (go_at_call 89; refine hbs.mono ?_; clear hbs; rintro e9 w7 ⟨bA, bB, bn, bf, rfl, hbs, hfr, hC7⟩)
  replace k0 := hC7.cell k0 id
  replace fr0 := hC7.frozen r0 fr0 id
  replace fr1 := hC7.frozen r1 fr1 id
  replace fr2 := hC7.frozen r2 fr2 id
  replace r0 := hC7.cell r0 id
  replace r1 := hC7.cell r1 id
  replace r2 := hC7.cell r2 id
  replace fo2 := hC7.frozen o2 fo2 id
  replace o0 := hC7.cell o0 id
  replace o1 := hC7.cell o1 id
  replace o2 := hC7.cell o2 id
  replace fz0 := hC7.frozen z0 fz0 id
  replace z0 := hC7.cell z0 id
  have hz7 := hC7.size
  have hC07 := G06.tr hC7
  have HIN := Lib.hid hIn
  have HCF := Lib.hid hcf
  obtain ⟨q1, q2, q3, q4⟩ := hfr
  have hsq := beside_seq bA bB bn bf (w.heap.size + 1 + 1 + 1 + 1) (w.heap.size + 1 + 1 + 1 + 1 + 1) _ _ _ _ n A B hn2 hA hB (fun x => In x.1 ∧ In x.2) hIn w w7 hC07 (by omega) (by omega) (by omega) hbs HL.out.1 HL.out.2.1 HL.out.2.2.1 HL.out.2.2.2
  have HSQ := Lib.hid hsq
  clear hsq hbs hA hB hIn hcf a0 a1 a2 b0 b1 b2 q1 q2 q3 q4
  refine wp_rangeKp (gf := 119) (lb := #[.pointer (some ⟨bn, 0, none⟩), .pointer (some ⟨bf, 0, none⟩), .pointer (some ⟨bA, 0, none⟩), .pointer (some ⟨bB, 0, none⟩)]) rfl (enters_of Try.func119 (by kernel_rfl) rfl)
    (fun q h => h.elim) (fun q h => h.1) HSQ.out (fun _ => rfl)
    (ColM (w.heap.size + 1 + 1 + 1 + 1) (w.heap.size + 1 + 1 + 1 + 1 + 1) w7.heap.size (.slice wa S.length cw) p w7) (StpM (w.heap.size + 1 + 1 + 1 + 1) (w.heap.size + 1 + 1 + 1 + 1 + 1) p w7)
    (ColM.own _ _ _ _ _ _ _ (Nat.le_refl _)) (fun c => StpM.own _ _ _ _ c _ (Nat.le_refl _)) (ColM.abides _ _ _ _ _ _) (fun c => StpM.abides _ _ _ _ c)
    (fun c pre W h k hk => h.2.2.2.block k hk.1 (fun e => e.elim hk.2.1 hk.2.2)) ⟨rfl, ⟨_, o2, Own.nil _ _ _⟩, o0, o1, fo2, z0, fz0, Chg.refl _ _⟩ ?a1
    (fun x W => W.alloc (.cells #[.int .i64 x.1, .int .i64 x.2] 93)) (fun _ W => World.grownBy_alloc W _ none)
    (fun p W => W.cell? ⟨p.2, 0, none⟩ = some (.int .i64 p.1.1) ∧ W.cell? ⟨p.2, 1, none⟩ = some (.int .i64 p.1.2))
    (fun _ _ _ _ hs hg hr => ⟨cell_kept hs.1 hg (fun r e => (hr r e).2), cell_kept hs.2 hg (fun r e => (hr r e).2)⟩)
    (fun pre x W hI => ⟨new_cell W _ _ rfl, new_cell W _ _ rfl⟩) ?assign ?body ?done ?stop
  case assign =>
    intro l x W K hK
    simp only [encP]
    gi_wp2
    generalize W.heap.size = m at hK ⊢
    exact hK
  case body =>
    rintro l pre ⟨x, y⟩ m W ⟨hx, hy⟩ ⟨hp0, ⟨v, c2, ho⟩, c0, c1, f2, d0, f0, hC⟩ ⟨m0, m1⟩ hm hlen
    simp only at m0 m1 hx hy
    have hk7 := hC.cell k0 (fun e => by rcases e with e | e <;> (dsimp only at e; omega))
    have hCw : Chg (fun _ => False) w W := hC07.trans hC (fun _ _ h => h) (fun i hi e => by omega)
    have hcc := HCF.out x y hx hy W hCw
    obtain ⟨⟨vx, ex⟩, hpe⟩ : ∃ r, p x y = r := ⟨_, rfl⟩
    rw [hpe] at hcc
    unfold GaveP at hcc
    simp only at hcc
    have HP := Lib.hid hpe
    obtain ⟨ao, L, cp, rfl, hL⟩ := owns_name ho
    have HO := Lib.hid ho
    have HCW := Lib.hid hC
    have HLE := Lib.hid hlen
    have hszW : w.heap.size + 1 + 1 + 1 + 1 + 1 + 1 ≤ W.heap.size := by have := hC.size; omega
    have HP0 := Lib.hid hp0
    clear hpe ho hC hlen hCw fr0 fr1 fr2 r0 r1 r2 fo2 o0 o1 o2 fz0 z0 k0 hp0
    gi_wp2_with fail
    refine ⟨trivial, CallsIn.inRound l (callsIn_wide.2 (hcc.mono ?_))⟩
    clear hcc
    rintro e9 W2 ⟨rfl, hC2⟩
    replace f0 := hC2.frozen d0 f0 id
    replace d0 := hC2.cell d0 id
    replace f2 := hC2.frozen c2 f2 id
    replace c2 := hC2.cell c2 id
    replace c1 := hC2.cell c1 id
    replace c0 := hC2.cell c0 id
    simp only []
    by_cases he : ex = 0
    · subst he
      have HC2 := Lib.hid hC2
      have hs2 := hC2.size
      have ho3 : Own (W2.setCell ⟨w.heap.size + 1 + 1 + 1 + 1 + 1, 0, none⟩ (.int .i64 0)) w7.heap.size 2 (.slice ao L cp) (vaL p pre) := own_set (HO.out.fr hC2) (a := ⟨w.heap.size + 1 + 1 + 1 + 1 + 1, 0, none⟩) (by dsimp only; omega) _
      have HO3 := Lib.hid ho3
      clear hC2 ho3
      gi_wp2_with (gi_at_builtin; go_must (refine wpListIn_append_own_any rfl (.tmp 42) (.tmp 44) 23 rfl w7.heap.size 2 i0 (.int .i64 0) 1 8 Try.underlying23 hi hz0 hz1 hz2 rfl (by decide) _ (vaL p pre).length ((vaL p pre).map I) rfl (HO3.out.alloc _) (some ⟨W2.heap.size, 0, none⟩) 1 1 [.int .i64 vx] rfl rfl (fun j u hu => ⟨_, rfl, by have := cell_one_new (W2.setCell ⟨w.heap.size + 1 + 1 + 1 + 1 + 1, 0, none⟩ (.int .i64 0)) (.int .i64 vx) 2 j u hu; simpa [World.setCell] using this⟩) (by simp [Value.oneCell']) (by have := HLE.out; unfold maxLen vaL; rw [List.length_map]; omega) (by have := HLE.out; unfold vaL; rw [List.length_map]; omega) (by have := HCW.out.size; simp [World.setCell]; omega) ?_); intro v2 w2 hown2 hg _ _; obtain ⟨hB, k2, k1, k0, kf, kd, kfd⟩ := map_more (HO.out.fr HC2.out) (by omega) (by omega) (by omega) hg c2 c1 c0 f2 d0 f0; have HG := Lib.hid hg; obtain ⟨ao2, L2, cp2, rfl, hL2⟩ := owns_name hown2)
      have hK3 := (((mkeepsC HC2.out).trans (KeepsOthers.setCell W2 ⟨w.heap.size + 1 + 1 + 1 + 1 + 1, 0, none⟩ (.int .i64 0))).trans ((KeepsOthers.alloc _ _).trans ((keeps_own (HO3.out.alloc _) HG.out).trans (KeepsOthers.setCell w2 ⟨w.heap.size + 1 + 1 + 1 + 1, 2, none⟩ (.slice ao2 L2 cp2)))))
      have hX : Chg (fun q => (q = w.heap.size + 1 + 1 + 1 + 1 + 1 ∨ (Value.slice ao L cp).ownBlock = some q) ∨ q = w.heap.size + 1 + 1 + 1 + 1) W (w2.setCell ⟨w.heap.size + 1 + 1 + 1 + 1, 2, none⟩ (.slice ao2 L2 cp2)) := (Chg.trans HC2.out hB (fun _ _ h => h.elim) (fun _ _ h => h)).trans (chg_cell w2 _ 2 _) (fun _ _ h => .inl h) (fun _ _ h => .inr h)
      have hel : Own w2 w7.heap.size 2 (.slice ao2 L2 cp2) (vaL p (pre ++ [(x, y)])) := by
        unfold Own vaL
        rw [List.map_append, List.length_append, List.map_append]
        simp only [List.map_cons, List.map_nil, List.length_cons, List.length_nil, HP.out]
        exact hown2
      refine ⟨hK3.from _, Keep.of_chg hX (fun q hq => ⟨by have := HCW.out.size; omega, fun h => ?_⟩), ⟨by rw [frE_app p pre _ HP0.out]; simp [frE, HP.out], ⟨_, World.cell?_setCell_same' _ _ _ (by rw [k2]; rfl), own_set hel (a := ⟨w.heap.size + 1 + 1 + 1 + 1, 2, none⟩) (by dsimp only; omega) _⟩, (World.cell?_setCell_other _ _ _ _ (by simp)).trans k0, (World.cell?_setCell_other _ _ _ _ (by simp)).trans k1, by rw [World.frozen?_setCell]; exact kf, (World.cell?_setCell_other _ _ _ _ (by simp)).trans kd, by rw [World.frozen?_setCell]; exact kfd, HCW.out.trans hX (fun _ _ h => h) (fun i hi h => ?_)⟩⟩
      · rcases h with (h | h) | h
        · exact hq.2.2 h
        · have := (HO.out.lt _ h).1
          omega
        · exact hq.2.1 h
      · rcases h with (h | h) | h
        · exact .inr h
        · have := (HO.out.lt _ h).1
          omega
        · exact .inl h
    · have eb : (ex == 0) = false := beq_eq_false_iff_ne.2 he
      have HE := Lib.hid he
      have HC2 := Lib.hid hC2
      clear he hC2
      gi_wp2
      have hX : Chg (fun q => q = w.heap.size + 1 + 1 + 1 + 1 + 1) W (W2.setCell ⟨w.heap.size + 1 + 1 + 1 + 1 + 1, 0, none⟩ (.int .i64 ex)) := Chg.trans HC2.out (chg_cell W2 _ 0 _) (fun _ _ h => h.elim) (fun _ _ h => h)
      have hfe : frE p (pre ++ [(x, y)]) = ex := by rw [frE_app p pre _ HP0.out]; simp [frE, HP.out]; intro h; exact h.symm
      refine ⟨((mkeepsC HC2.out).trans (KeepsOthers.setCell _ _ _)).from _, rfl, by rw [hfe]; exact HE.out, by rw [hfe]; exact World.cell?_setCell_same' _ _ _ (by rw [d0]; rfl), HCW.out.trans hX (fun _ _ h => h) (fun i hi h => .inr h)⟩
  case done =>
    rintro D xs W hD rfl ⟨hp0, ⟨v, c2, ho⟩, c0, c1, f2, d0, f0, hC⟩ hK
    have hCw : Chg (fun _ => False) w W := hC07.trans hC (fun _ _ h => h) (fun i hi e => by omega)
    have n8 : ¬ (w.heap.size + 1 + 1 + 1 = w.heap.size + 1 + 1 + 1 + 1 ∨ w.heap.size + 1 + 1 + 1 = w.heap.size + 1 + 1 + 1 + 1 + 1) := by omega
    replace fr0 := hC.frozen r0 fr0 n8
    replace fr1 := hC.frozen r1 fr1 n8
    replace fr2 := hC.frozen r2 fr2 n8
    replace r0 := hC.cell r0 n8
    replace r1 := hC.cell r1 n8
    replace r2 := hC.cell r2 n8
    obtain ⟨ao, L, cp, rfl, hL⟩ := owns_name ho
    have HO := Lib.hid ho
    have HCW := Lib.hid hCw
    have HP0 := Lib.hid hp0
    have HK := Lib.hid hK
    clear hC hCw ho hp0 hK
    go_wp2
    obtain ⟨t0, t1, t2, hS⟩ := box3 (v0 := .int .i64 1) (v1 := .slice wa S.length cw) (v2 := .slice ao L cp) r0 r1 r2
    have hb := cell_lt r0
    dsimp only at hb
    refine map_leave (b8 := w.heap.size + 1 + 1 + 1) (us := .slice wa S.length cw) ((hS.block D (Array.getElem?_eq_some_iff.1 HK.out).1 (by omega)).trans HK.out) (by omega) rfl (by rw [HP0.out]; rfl) t0 t1 t2 (HCW.out.trans hS (fun _ _ h => h) (fun i hi e => by omega)) ⟨fun _ => ⟨rfl, rfl, w7.heap.size, by omega, own_set3 HO.out (by omega) _ _ _⟩, fun h => absurd HP0.out h⟩
  case stop =>
    rintro D c pre W hD ⟨q, hq, hpre⟩ ⟨rfl, hne, d0, hC⟩ hK
    have hfe : frE p (prL A B n) = frE p pre := by
      rw [← List.take_append_drop (q + 1) (prL A B n), ← hpre]
      exact frE_ne p pre _ hne
    have hCw : Chg (fun _ => False) w W := hC07.trans hC (fun _ _ h => h) (fun i hi e => by omega)
    have n8 : ¬ (w.heap.size + 1 + 1 + 1 = w.heap.size + 1 + 1 + 1 + 1 ∨ w.heap.size + 1 + 1 + 1 = w.heap.size + 1 + 1 + 1 + 1 + 1) := by omega
    replace fr0 := hC.frozen r0 fr0 n8
    replace fr1 := hC.frozen r1 fr1 n8
    replace fr2 := hC.frozen r2 fr2 n8
    replace r0 := hC.cell r0 n8
    replace r1 := hC.cell r1 n8
    replace r2 := hC.cell r2 n8
    have HCW := Lib.hid hCw
    have HK := Lib.hid hK
    rw [← hfe] at hne d0
    generalize hg : frE p (prL A B n) = ex at *
    have eb : (ex == 0) = false := beq_eq_false_iff_ne.2 hne
    have HE := Lib.hid hne
    have HG := Lib.hid hg
    clear hC hCw hne hK hg hfe hpre
    go_wp2
    go_region
    all_goals go_wp2
    obtain ⟨t0, t1, t2, hS0⟩ := box3 (v0 := .int .i64 0) (v1 := .slice none 0 0) (v2 := .slice none 0 0) r0 r1 r2
    have hS := hS0.drew
    have hb := cell_lt r0
    dsimp only at hb
    refine map_leave (b8 := w.heap.size + 1 + 1 + 1) (us := .slice wa S.length cw) ((hS.block D (Array.getElem?_eq_some_iff.1 HK.out).1 (by omega)).trans HK.out) (by omega) rfl (by rw [HG.out]; rfl) t0 t1 t2 (HCW.out.trans hS (fun _ _ h => h) (fun i hi e => by omega)) ⟨fun h => absurd (HG.out.symm.trans h) HE.out, fun _ => ⟨rfl, rfl, rfl⟩⟩
end Go.Proofs.Ytjmlekdgipinfaa
