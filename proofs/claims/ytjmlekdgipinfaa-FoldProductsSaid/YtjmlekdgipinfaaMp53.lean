/- FoldProducts: two arrays, each in memory of its own. -/
import Derived.Test.YtjmlekdgipinfaaMp52
import Derived.Test.YtjmlekdgipinfaaMp24
import Derived.Test.YtjmlekdgipinfaaMp40
import Derived.Deep.RegionHeld3
import Derived.Deep.Cut
namespace Go.Proofs.Ytjmlekdgipinfaa
open Go.RowKit Go.Shelf
theorem chg_drewP {w w' : World} (h : Chg (fun _ => False) w w') : Chg (fun _ => False) w w'.drew := h.drew
theorem chg_allocP {w w' : World} {o : Obj} (h : Chg (fun _ => False) w w') : Chg (fun _ => False) w (w'.alloc o) := h.alloc o
theorem chg_setP {w w' : World} {b i : Nat} {v : Value} (h : Chg (fun _ => False) w w') (hb : w.heap.size ≤ b) : Chg (fun _ => False) w (w'.setCell ⟨b, i, none⟩ v) := h.setCell (.inr hb) _
theorem chg_set3p {w : World} {p : Nat} (u0 u1 u2 : Value) : Chg (fun k => k = p) w (((w.setCell ⟨p, 0, none⟩ u0).setCell ⟨p, 1, none⟩ u1).setCell ⟨p, 2, none⟩ u2) :=
  (((Chg.refl (fun k => k = p) w).setCell (p := ⟨p, 0, none⟩) (.inl rfl) _).setCell (p := ⟨p, 1, none⟩) (.inl rfl) _).setCell (p := ⟨p, 2, none⟩) (.inl rfl) _
/-- What is in the box p stays where another one is written. -/
theorem Bx1.away {w : World} {p q : Nat} {x1 x2 : Option Addr} {c1 c2 : Nat} {A : Ar} (h : Bx1 w p x1 x2 c1 c2 A) (hne : p ≠ q) (nA : ∀ k, ((Value.slice x1 A.s.length c1).ownBlock = some k ∨ (Value.slice x2 A.e.length c2).ownBlock = some k) → k ≠ q) (u0 u1 u2 : Value) :
    Bx1 (((w.setCell ⟨q, 0, none⟩ u0).setCell ⟨q, 1, none⟩ u1).setCell ⟨q, 2, none⟩ u2) p x1 x2 c1 c2 A := by
  have hC := chg_set3p (w := w) (p := q) u0 u1 u2
  exact ⟨hC.cell h.a0 hne, hC.cell h.a1 hne, hC.cell h.a2 hne, h.ls.1.chg hC (fun k e => nA k (.inl e)), h.ls.2.chg hC (fun k e => nA k (.inr e))⟩
/-- A box that is written. -/
theorem Bx1.put {w : World} {p : Nat} {x1 x2 : Option Addr} {c1 c2 : Nat} {A : Ar} {z0 z1 z2 : Value} (h : Bx w p z0 z1 z2) (h1 : Ls w (.slice x1 A.s.length c1) A.s) (h2 : Ls w (.slice x2 A.e.length c2) A.e) (nA : ∀ k, ((Value.slice x1 A.s.length c1).ownBlock = some k ∨ (Value.slice x2 A.e.length c2).ownBlock = some k) → k ≠ p) :
    Bx1 (((w.setCell ⟨p, 0, none⟩ (.int .i64 A.k)).setCell ⟨p, 1, none⟩ (.slice x1 A.s.length c1)).setCell ⟨p, 2, none⟩ (.slice x2 A.e.length c2)) p x1 x2 c1 c2 A := by
  have hC := chg_set3p (w := w) (p := p) (.int .i64 A.k) (.slice x1 A.s.length c1) (.slice x2 A.e.length c2)
  obtain ⟨⟨g0, g1⟩, g2⟩ := set3_cells (.int .i64 A.k) (.slice x1 A.s.length c1) (.slice x2 A.e.length c2) h.c0 h.c1 h.c2
  exact ⟨g0, g1, g2, h1.chg hC (fun k e => nA k (.inl e)), h2.chg hC (fun k e => nA k (.inr e))⟩
theorem Bx.away {w : World} {p q : Nat} {z0 z1 z2 : Value} (h : Bx w p z0 z1 z2) (hne : p ≠ q) (u0 u1 u2 : Value) : Bx (((w.setCell ⟨q, 0, none⟩ u0).setCell ⟨q, 1, none⟩ u1).setCell ⟨q, 2, none⟩ u2) p z0 z1 z2 := h.chg (chg_set3p _ _ _) hne
/-- Own blocks of an array lie apart from p. -/
def Apart (x1 x2 : Option Addr) (c1 c2 : Nat) (A : Ar) (p : Nat) : Prop := ∀ k, ((Value.slice x1 A.s.length c1).ownBlock = some k ∨ (Value.slice x2 A.e.length c2).ownBlock = some k) → k ≠ p
def LsB (w : World) (x1 x2 : Option Addr) (c1 c2 : Nat) (A : Ar) : Prop := Ls w (.slice x1 A.s.length c1) A.s ∧ Ls w (.slice x2 A.e.length c2) A.e
theorem LsB.fr {w w' : World} {x1 x2 : Option Addr} {c1 c2 : Nat} {A : Ar} (h : LsB w x1 x2 c1 c2 A) (hC : Chg (fun _ => False) w w') : LsB w' x1 x2 c1 c2 A := ⟨h.1.fr hC, h.2.fr hC⟩
theorem LsB.away {w : World} {x1 x2 : Option Addr} {c1 c2 p : Nat} {A : Ar} (h : LsB w x1 x2 c1 c2 A) (hn : Apart x1 x2 c1 c2 A p) (u0 u1 u2 : Value) : LsB (((w.setCell ⟨p, 0, none⟩ u0).setCell ⟨p, 1, none⟩ u1).setCell ⟨p, 2, none⟩ u2) x1 x2 c1 c2 A :=
  ⟨h.1.chg (chg_set3p _ _ _) (fun k e => hn k (.inl e)), h.2.chg (chg_set3p _ _ _) (fun k e => hn k (.inr e))⟩
theorem clo_set {w : World} {p q : Nat} {x1 x2 y1 y2 : Option Addr} {c1 c2 d1 d2 : Nat} {A B : Ar} {z0 z1 z2 z3 z4 z5 : Value} (hP : Bx w p z0 z1 z2) (hQ : Bx w q z3 z4 z5) (hne : p ≠ q) (hA : LsB w x1 x2 c1 c2 A) (hB : LsB w y1 y2 d1 d2 B) (nA1 : Apart x1 x2 c1 c2 A p) (nA2 : Apart x1 x2 c1 c2 A q) (nB1 : Apart y1 y2 d1 d2 B p) (nB2 : Apart y1 y2 d1 d2 B q) :
    Bx1 ((((((w.setCell ⟨p, 0, none⟩ (.int .i64 A.k)).setCell ⟨p, 1, none⟩ (.slice x1 A.s.length c1)).setCell ⟨p, 2, none⟩ (.slice x2 A.e.length c2)).setCell ⟨q, 0, none⟩ (.int .i64 B.k)).setCell ⟨q, 1, none⟩ (.slice y1 B.s.length d1)).setCell ⟨q, 2, none⟩ (.slice y2 B.e.length d2)) p x1 x2 c1 c2 A ∧
    Bx1 ((((((w.setCell ⟨p, 0, none⟩ (.int .i64 A.k)).setCell ⟨p, 1, none⟩ (.slice x1 A.s.length c1)).setCell ⟨p, 2, none⟩ (.slice x2 A.e.length c2)).setCell ⟨q, 0, none⟩ (.int .i64 B.k)).setCell ⟨q, 1, none⟩ (.slice y1 B.s.length d1)).setCell ⟨q, 2, none⟩ (.slice y2 B.e.length d2)) q y1 y2 d1 d2 B :=
  ⟨(Bx1.put hP hA.1 hA.2 nA1).away hne nA2 _ _ _, Bx1.put (hQ.away (fun e => hne e.symm) _ _ _) (hB.away nB1 _ _ _).1 (hB.away nB1 _ _ _).2 nB2⟩
theorem clo_new {w : World} {q : Nat} {x1 x2 y1 y2 : Option Addr} {c1 c2 d1 d2 : Nat} {A B : Ar} {z3 z4 z5 : Value} {t : TypeId} (hQ : Bx w q z3 z4 z5) (hA : LsB w x1 x2 c1 c2 A) (hB : LsB w y1 y2 d1 d2 B) (nA2 : Apart x1 x2 c1 c2 A q) (nB2 : Apart y1 y2 d1 d2 B q) :
    Bx1 ((((w.alloc (.cells #[.int .i64 A.k, .slice x1 A.s.length c1, .slice x2 A.e.length c2] t)).setCell ⟨q, 0, none⟩ (.int .i64 B.k)).setCell ⟨q, 1, none⟩ (.slice y1 B.s.length d1)).setCell ⟨q, 2, none⟩ (.slice y2 B.e.length d2)) w.heap.size x1 x2 c1 c2 A ∧
    Bx1 ((((w.alloc (.cells #[.int .i64 A.k, .slice x1 A.s.length c1, .slice x2 A.e.length c2] t)).setCell ⟨q, 0, none⟩ (.int .i64 B.k)).setCell ⟨q, 1, none⟩ (.slice y1 B.s.length d1)).setCell ⟨q, 2, none⟩ (.slice y2 B.e.length d2)) q y1 y2 d1 d2 B :=
  ⟨(Bx1.new t hA.1 hA.2).away (fun e => by have := hQ.lt; omega) nA2 _ _ _, Bx1.put (hQ.fr ((Chg.refl _ _).alloc _)) (hB.1.fr ((Chg.refl _ _).alloc _)) (hB.2.fr ((Chg.refl _ _).alloc _)) nB2⟩
theorem clo_two {w : World} {x1 x2 y1 y2 : Option Addr} {c1 c2 d1 d2 : Nat} {A B : Ar} {t : TypeId} (hA : LsB w x1 x2 c1 c2 A) (hB : LsB w y1 y2 d1 d2 B) :
    Bx1 ((w.alloc (.cells #[.int .i64 A.k, .slice x1 A.s.length c1, .slice x2 A.e.length c2] t)).alloc (.cells #[.int .i64 B.k, .slice y1 B.s.length d1, .slice y2 B.e.length d2] t)) w.heap.size x1 x2 c1 c2 A ∧
    Bx1 ((w.alloc (.cells #[.int .i64 A.k, .slice x1 A.s.length c1, .slice x2 A.e.length c2] t)).alloc (.cells #[.int .i64 B.k, .slice y1 B.s.length d1, .slice y2 B.e.length d2] t)) (w.heap.size + 1) y1 y2 d1 d2 B := by
  have h := Bx1.new (A := B) t (hB.1.fr ((Chg.refl (fun _ => False) w).alloc (.cells #[.int .i64 A.k, .slice x1 A.s.length c1, .slice x2 A.e.length c2] t))) (hB.2.fr ((Chg.refl (fun _ => False) w).alloc (.cells #[.int .i64 A.k, .slice x1 A.s.length c1, .slice x2 A.e.length c2] t)))
  rw [World.size_alloc] at h
  exact ⟨(Bx1.new t hA.1 hA.2).fr ((Chg.refl _ _).alloc _), h⟩
/-- Two slices, one behind the other in the block z, each of which may be written; nothing else is. -/
structure RelP (wc : World) (z : Nat) (sv pv : Value) (nS nP : Nat) (w : World) : Prop where
  c0 : w.cell? ⟨z, 0, none⟩ = some sv
  c1 : w.cell? ⟨z, 1, none⟩ = some pv
  ws : Wrt w sv nS
  wp : Wrt w pv nP
  ch : Chg (fun _ => False) wc w
theorem RelP.set {wc : World} {z : Nat} {sv pv : Value} {nS nP : Nat} {w : World} (h : RelP wc z sv pv nS nP w) {b i : Nat} {y : Int} (hb : b ≠ z) (hw : wc.heap.size ≤ b) : RelP wc z sv pv nS nP (w.setCell ⟨b, i, none⟩ (.int .i64 y)) :=
  ⟨(World.cell?_setCell_other _ _ _ _ (fun e => hb (by cases e; rfl))).trans h.c0, (World.cell?_setCell_other _ _ _ _ (fun e => hb (by cases e; rfl))).trans h.c1, h.ws.set _ _, h.wp.set _ _, h.ch.setCell (.inr hw) _⟩
theorem grt_no2 {m : Nat} {A B : Ar} (h : (grt16 m A || grt16 m B) = false) : A.e.length ≤ m ∧ B.e.length ≤ m ∧ A.s.length ≤ 100 ∧ B.s.length ≤ 100 := by
  unfold grt16 at h
  simp only [Bool.or_eq_false_iff, decide_eq_false_iff_not] at h
  omega
set_option maxRecDepth 100000 in
set_option maxHeartbeats 8000000 in
theorem foldProducts_walk (f g : Int) (u : Value) (A : Ar) (v : Value) (B : Ar) (W : World) (_h : (Lit.int .i64 f).wf = true) (_k : (Lit.int .i64 g).wf = true) (h1 : OkArr W u A) (h2 : OkArr W v B) : Calls Try.prog 7 #[.int .i64 f, .int .i64 g, u, v] W (True_ W) := by
  clear _h _k
  have hA := h1.1
  have hB := h2.1
  have HIA := Lib.hid (show ∀ x ∈ A.e, In x from h1.2.2.2)
  have HIB := Lib.hid (show ∀ x ∈ B.e, In x from h2.2.2.2)
  clear h1 h2
  obtain ⟨vs, ve, rfl, hs, he⟩ := hA
  obtain ⟨us, ue, rfl, ht, hf⟩ := hB
  obtain ⟨sa, cs, rfl, _⟩ := hs.form
  obtain ⟨ea, ce, rfl, _⟩ := he.form
  obtain ⟨ta, ct, rfl, _⟩ := ht.form
  obtain ⟨fa, cf, rfl, _⟩ := hf.form
  have hK1 := (Chg.refl (fun _ => False) W).alloc (.cells #[.int .i64 A.k, .slice sa A.s.length cs, .slice ea A.e.length ce] 25)
  have hK2 := (Chg.refl (fun _ => False) (W.alloc (.cells #[.int .i64 A.k, .slice sa A.s.length cs, .slice ea A.e.length ce] 25))).alloc (.cells #[.int .i64 B.k, .slice ta B.s.length ct, .slice fa B.e.length cf] 25)
  have hbb := Bx1.new (A := B) 25 (ht.fr hK1) (hf.fr hK1)
  rw [World.size_alloc] at hbb
  have HBA := Lib.hid ((Bx1.new (A := A) 25 hs he).fr hK2)
  have HBB := Lib.hid hbb
  have HC := Lib.hid (hK1.tr hK2)
  clear hs he ht hf hK1 hK2 hbb
  obtain ⟨gr, hgr⟩ : ∃ b, (grt16 100 A || grt16 100 B) = b := ⟨_, rfl⟩
  have HGR := Lib.hid hgr
  clear hgr
  obtain ⟨v2, hv2⟩ : ∃ v, (W.alloc (.cells #[.int .i64 A.k, .slice sa A.s.length cs, .slice ea A.e.length ce] 25)).alloc (.cells #[.int .i64 B.k, .slice ta B.s.length ct, .slice fa B.e.length cf] 25) = v := ⟨_, rfl⟩
  rw [hv2] at HBA HBB HC
  have hg1 := great16_any 100 sa ea ta fa cs ce ct cf v2.heap.size A B (v2.alloc (.cells #[.int .i64 A.k, .slice sa A.s.length cs, .slice ea A.e.length ce, .int .i64 B.k, .slice ta B.s.length ct, .slice fa B.e.length cf] 25)) ⟨⟨new_cell _ _ _ rfl, new_cell _ _ _ rfl⟩, new_cell _ _ _ rfl, new_cell _ _ _ rfl⟩ gr HGR.out
  unfold SaidB at hg1
  have hCa := (Chg.refl (fun _ => False) v2).alloc (.cells #[.int .i64 A.k, .slice sa A.s.length cs, .slice ea A.e.length ce, .int .i64 B.k, .slice ta B.s.length ct, .slice fa B.e.length cf] 25)
  have HV2 := Lib.hid hv2
  clear hv2
  go_enter Try.func7, Try.ntmps7
  go_upto_region 1 with (fail)
  rw [HV2.out]
  have a0 := HBA.out.a0
  have a1 := HBA.out.a1
  have a2 := HBA.out.a2
  have b0 := HBB.out.a0
  have b1 := HBB.out.a1
  have b2 := HBB.out.a2
  go_wp2_with fail
  refine hg1.mono ?_
  clear hg1
  rintro e9 w1 ⟨rfl, e2⟩
  rw [← e2] at hCa
  clear e2 a0 a1 a2 b0 b1 b2
  replace HBA := Lib.hid (HBA.out.fr hCa)
  replace HBB := Lib.hid (HBB.out.fr hCa)
  replace HC := Lib.hid (HC.out.tr hCa)
  clear hCa
  cases gr with
  | true =>
    go_wp2
    go_ret
    exact ⟨rfl, HC.out⟩
  | false =>
    have HG := Lib.hid (grt_no2 HGR.out)
    have HT1 := Lib.hid (show ∀ w', Chg (fun _ => False) w1 w' → Calls Try.prog 27 #[.agg #[.int .i64 A.k, .slice sa A.s.length cs, .slice ea A.e.length ce]] w' (GaveA w' A) from fun w' h => twin_any _ A w' (HBA.out.fr h).ara (by have := HG.out; omega) (by have := HG.out; omega))
    have HT2 := Lib.hid (show ∀ w', Chg (fun _ => False) w1 w' → Calls Try.prog 27 #[.agg #[.int .i64 B.k, .slice ta B.s.length ct, .slice fa B.e.length cf]] w' (GaveA w' B) from fun w' h => twin_any _ B w' (HBB.out.fr h).ara (by have := HG.out; omega) (by have := HG.out; omega))
    unfold GaveA at HT1 HT2
    have a0 := HBA.out.a0
    have a1 := HBA.out.a1
    have a2 := HBA.out.a2
    have b0 := HBB.out.a0
    have b1 := HBB.out.a1
    have b2 := HBB.out.a2
    obtain ⟨p0, hp0⟩ : ∃ p, W.heap.size = p := ⟨_, rfl⟩
    rw [hp0] at a0 a1 a2 b0 b1 b2 HBA HBB
    have HPP := Lib.hid hp0
    clear hp0
    have KP := Lib.hid (show ∀ w', Chg (fun _ => False) w1 w' → (Chg (fun _ => False) w1 w' ∧ w'.cell? ⟨p0, 0, none⟩ = some (.int .i64 A.k) ∧ w'.cell? ⟨p0, 1, none⟩ = some (.slice sa A.s.length cs) ∧ w'.cell? ⟨p0, 2, none⟩ = some (.slice ea A.e.length ce) ∧ w'.cell? ⟨p0 + 1, 0, none⟩ = some (.int .i64 B.k) ∧ w'.cell? ⟨p0 + 1, 1, none⟩ = some (.slice ta B.s.length ct) ∧ w'.cell? ⟨p0 + 1, 2, none⟩ = some (.slice fa B.e.length cf)) from fun w' h => ⟨h, h.cell a0 id, h.cell a1 id, h.cell a2 id, h.cell b0 id, h.cell b1 id, h.cell b2 id⟩)
    go_upto_region 3 with (fail)
    rw [HPP.out]
    go_cut [9, 10] from 32 (fun t9 t10 wc => ∃ (p q : Nat) (x1 x2 y1 y2 : Option Addr) (c1 c2 d1 d2 : Nat), t9 = .pointer (some ⟨p, 0, none⟩) ∧ t10 = .pointer (some ⟨q, 0, none⟩) ∧ Bx1 wc p x1 x2 c1 c2 A ∧ Bx1 wc q y1 y2 d1 d2 B ∧ Chg (fun _ => False) w1 wc)
    case first =>
      go_region_held3 (fun w' => Chg (fun _ => False) w1 w' ∧ w'.cell? ⟨p0, 0, none⟩ = some (.int .i64 A.k) ∧ w'.cell? ⟨p0, 1, none⟩ = some (.slice sa A.s.length cs) ∧ w'.cell? ⟨p0, 2, none⟩ = some (.slice ea A.e.length ce) ∧ w'.cell? ⟨p0 + 1, 0, none⟩ = some (.int .i64 B.k) ∧ w'.cell? ⟨p0 + 1, 1, none⟩ = some (.slice ta B.s.length ct) ∧ w'.cell? ⟨p0 + 1, 2, none⟩ = some (.slice fa B.e.length cf))
        ((with_reducible refine KP.out _ ?_; repeat (first | (with_reducible exact Chg.refl _ _) | (with_reducible refine chg_setP ?_ (by first | exact hs5 | exact hs6 | exact Nat.le_refl _ | exact Nat.le_succ _ | exact Nat.le_succ_of_le hs5 | exact Nat.le_succ_of_le hs6)) | (with_reducible refine chg_drewP ?_) | (with_reducible refine chg_allocP ?_) | (with_reducible refine Chg.tr ?_ hC6) | (with_reducible refine Chg.tr ?_ hC5))))
        (first
        | (go_at_call 27
           with_reducible refine (HT1.out _ ?_).mono ?_
           · repeat (first | (with_reducible exact Chg.refl _ _) | (with_reducible refine chg_drewP ?_) | (with_reducible refine chg_allocP ?_))
           rintro e9 w5 ⟨v5, rfl, ho5, hC5⟩
           obtain ⟨x1, c1, x2, c2, rfl, hw1, hw2⟩ := ara_new ho5
           have hx5 := fun k (hk : (Value.slice x1 A.s.length c1).ownBlock = some k ∨ (Value.slice x2 A.e.length c2).ownBlock = some k) => hk.elim (hw1.lt k) (hw2.lt k)
           have hl5 : LsB w5 x1 x2 c1 c2 A := ⟨hw1.ls, hw2.ls⟩
           clear hw1 hw2
           have hs5 : w1.heap.size ≤ w5.heap.size := by have := hC5.size; (try simp at this); omega
           first
           | (have hC5b : Chg (fun _ => False) ((w1.alloc (.cells #[.int .i64 0, .slice none 0 0, .slice none 0 0] 25)).alloc (.cells #[.int .i64 0, .slice none 0 0, .slice none 0 0] 25)) w5 := ((Chg.refl _ _).drew).tr hC5
              have hP5 := ((Bx.new w1 (.int .i64 0) (.slice none 0 0) (.slice none 0 0) 25).fr ((Chg.refl _ _).alloc (.cells #[.int .i64 0, .slice none 0 0, .slice none 0 0] 25))).fr hC5b
              have hQ5 := (Bx.new (w1.alloc (.cells #[.int .i64 0, .slice none 0 0, .slice none 0 0] 25)) (.int .i64 0) (.slice none 0 0) (.slice none 0 0) 25).fr hC5b
              rw [World.size_alloc] at hQ5
              have hlt5 : w1.heap.size + 2 ≤ w5.heap.size := hQ5.lt
              have hlo5 : ∀ k, _ → w1.heap.size + 2 ≤ k ∧ k < w5.heap.size := fun k hk => ⟨by have h9 : ((w1.alloc (.cells #[.int .i64 0, .slice none 0 0, .slice none 0 0] 25)).alloc (.cells #[.int .i64 0, .slice none 0 0, .slice none 0 0] 25)).heap.size ≤ k := (hx5 k hk).1; rw [World.size_alloc, World.size_alloc] at h9; exact h9, (hx5 k hk).2⟩)
           | (have hC5b : Chg (fun _ => False) (w1.alloc (.cells #[.int .i64 0, .slice none 0 0, .slice none 0 0] 25)) w5 := ((Chg.refl _ _).drew).tr hC5
              have hP5 := (Bx.new w1 (.int .i64 0) (.slice none 0 0) (.slice none 0 0) 25).fr hC5b
              have hlt5 : w1.heap.size + 1 ≤ w5.heap.size := hP5.lt
              have hlo5 : ∀ k, _ → w1.heap.size + 1 ≤ k ∧ k < w5.heap.size := fun k hk => ⟨by have h9 : (w1.alloc (.cells #[.int .i64 0, .slice none 0 0, .slice none 0 0] 25)).heap.size ≤ k := (hx5 k hk).1; rw [World.size_alloc] at h9; exact h9, (hx5 k hk).2⟩)
           | (have hlt5 : w1.heap.size ≤ w5.heap.size := hs5
              have hlo5 : ∀ k, _ → w1.heap.size ≤ k ∧ k < w5.heap.size := fun k hk => hx5 k hk))
        | (go_at_call 27
           with_reducible refine (HT2.out _ ?_).mono ?_
           · repeat (first | (with_reducible exact Chg.refl _ _) | (with_reducible refine chg_drewP ?_) | (with_reducible refine chg_allocP ?_) | (with_reducible refine Chg.tr ?_ hC5))
           rintro e9 w6 ⟨v6, rfl, ho6, hC6⟩
           obtain ⟨y1, d1, y2, d2, rfl, hw1, hw2⟩ := ara_new ho6
           have hx6 := fun k (hk : (Value.slice y1 B.s.length d1).ownBlock = some k ∨ (Value.slice y2 B.e.length d2).ownBlock = some k) => hk.elim (hw1.lt k) (hw2.lt k)
           have hl6 : LsB w6 y1 y2 d1 d2 B := ⟨hw1.ls, hw2.ls⟩
           clear hw1 hw2
           have hc56 : Chg (fun _ => False) w5 w6 := by first | exact hC6 | exact ((Chg.refl _ _).alloc _).tr hC6 | exact (((Chg.refl _ _).alloc _).alloc _).tr hC6
           have hs6 : w1.heap.size ≤ w6.heap.size := by have := hC6.size; (try simp at this); omega
           first
           | (have hP6 := hP5.fr hC6
              have hQ6 := hQ5.fr hC6
              have hlo6 : ∀ k, _ → w5.heap.size ≤ k ∧ k < w6.heap.size := fun k hk => hx6 k hk
              have hne : ¬ w1.heap.size = w1.heap.size + 1 := by omega
              obtain ⟨z0, z1, z2, f0, f1, f2⟩ := id hP6
              obtain ⟨y0', y1', y2', k0, k1, k2⟩ := id hQ6)
           | (have hC6b : Chg (fun _ => False) (w5.alloc (.cells #[.int .i64 0, .slice none 0 0, .slice none 0 0] 25)) w6 := hC6
              have hP6 := (hP5.fr ((Chg.refl _ _).alloc (.cells #[.int .i64 0, .slice none 0 0, .slice none 0 0] 25))).fr hC6b
              have hQ6 := (Bx.new w5 (.int .i64 0) (.slice none 0 0) (.slice none 0 0) 25).fr hC6b
              have hlo6 : ∀ k, _ → w5.heap.size + 1 ≤ k ∧ k < w6.heap.size := fun k hk => ⟨by have h9 : (w5.alloc (.cells #[.int .i64 0, .slice none 0 0, .slice none 0 0] 25)).heap.size ≤ k := (hx6 k hk).1; rw [World.size_alloc] at h9; exact h9, (hx6 k hk).2⟩
              have hne : ¬ w1.heap.size = w5.heap.size := by omega
              have hne' : ¬ w5.heap.size = w1.heap.size := by omega
              obtain ⟨z0, z1, z2, f0, f1, f2⟩ := id hP6
              obtain ⟨y0', y1', y2', k0, k1, k2⟩ := id hQ6)
           | (have hP6 := hP5.fr hC6
              have hlo6 : ∀ k, _ → w5.heap.size ≤ k ∧ k < w6.heap.size := fun k hk => hx6 k hk
              have hlt6 := hP6.lt
              have hne : ¬ w1.heap.size = w6.heap.size := by omega
              have hne' : ¬ w6.heap.size = w1.heap.size := by omega
              clear hlt6
              obtain ⟨z0, z1, z2, f0, f1, f2⟩ := hP6.fr ((Chg.refl _ w6).alloc (.cells #[.int .i64 0, .slice none 0 0, .slice none 0 0] 25))
              obtain ⟨z0', z1', z2', f0', f1', f2'⟩ := hP6.fr ((Chg.refl _ w6).alloc (.cells #[.int .i64 A.k, .slice x1 A.s.length c1, .slice x2 A.e.length c2] 25))
              obtain ⟨n0, n1, n2, m0, m1, m2⟩ := Bx.new w6 (.int .i64 0) (.slice none 0 0) (.slice none 0 0) 25)
           | (have hC6b : Chg (fun _ => False) ((w5.alloc (.cells #[.int .i64 0, .slice none 0 0, .slice none 0 0] 25)).alloc (.cells #[.int .i64 0, .slice none 0 0, .slice none 0 0] 25)) w6 := hC6
              have hP6 := ((Bx.new w5 (.int .i64 0) (.slice none 0 0) (.slice none 0 0) 25).fr ((Chg.refl _ _).alloc (.cells #[.int .i64 0, .slice none 0 0, .slice none 0 0] 25))).fr hC6b
              have hQ6 := (Bx.new (w5.alloc (.cells #[.int .i64 0, .slice none 0 0, .slice none 0 0] 25)) (.int .i64 0) (.slice none 0 0) (.slice none 0 0) 25).fr hC6b
              rw [World.size_alloc] at hQ6
              have hlo6 : ∀ k, _ → w5.heap.size + 2 ≤ k ∧ k < w6.heap.size := fun k hk => ⟨by have h9 : ((w5.alloc (.cells #[.int .i64 0, .slice none 0 0, .slice none 0 0] 25)).alloc (.cells #[.int .i64 0, .slice none 0 0, .slice none 0 0] 25)).heap.size ≤ k := (hx6 k hk).1; rw [World.size_alloc, World.size_alloc] at h9; exact h9, (hx6 k hk).2⟩
              have hne : ¬ w5.heap.size = w5.heap.size + 1 := by omega
              obtain ⟨z0, z1, z2, f0, f1, f2⟩ := id hP6
              obtain ⟨y0', y1', y2', k0, k1, k2⟩ := id hQ6)
           | (have hC6b : Chg (fun _ => False) (w5.alloc (.cells #[.int .i64 0, .slice none 0 0, .slice none 0 0] 25)) w6 := hC6
              have hP6 := (Bx.new w5 (.int .i64 0) (.slice none 0 0) (.slice none 0 0) 25).fr hC6b
              have hlo6 : ∀ k, _ → w5.heap.size + 1 ≤ k ∧ k < w6.heap.size := fun k hk => ⟨by have h9 : (w5.alloc (.cells #[.int .i64 0, .slice none 0 0, .slice none 0 0] 25)).heap.size ≤ k := (hx6 k hk).1; rw [World.size_alloc] at h9; exact h9, (hx6 k hk).2⟩
              have hlt6 := hP6.lt
              have hne : ¬ w5.heap.size = w6.heap.size := by omega
              have hne' : ¬ w6.heap.size = w5.heap.size := by omega
              clear hlt6
              obtain ⟨z0, z1, z2, f0, f1, f2⟩ := hP6.fr ((Chg.refl _ w6).alloc (.cells #[.int .i64 0, .slice none 0 0, .slice none 0 0] 25))
              obtain ⟨z0', z1', z2', f0', f1', f2'⟩ := hP6.fr ((Chg.refl _ w6).alloc (.cells #[.int .i64 A.k, .slice x1 A.s.length c1, .slice x2 A.e.length c2] 25))
              obtain ⟨n0, n1, n2, m0, m1, m2⟩ := Bx.new w6 (.int .i64 0) (.slice none 0 0) (.slice none 0 0) 25)
           | (have hlo6 : ∀ k, _ → w5.heap.size ≤ k ∧ k < w6.heap.size := fun k hk => hx6 k hk)))
      all_goals
        rename_i hHd
        have hl5' := hl5.fr hc56
        have hlt6 : w5.heap.size ≤ w6.heap.size := hc56.size
        go_wp2_with fail
        go_meet
        refine ⟨_, _, x1, x2, y1, y2, c1, c2, d1, d2, rfl, rfl, and_assoc.1 ⟨?_, hHd.1⟩⟩
        first
        | (with_reducible exact clo_two hl5' hl6)
        | (with_reducible exact (clo_two hl6 hl5').symm)
        | ((with_reducible refine clo_set hP6 hQ6 (by omega) hl5' hl6 ?_ ?_ ?_ ?_) <;> (intro k hk; first | (have := hlo5 k hk; omega) | (have := hlo6 k hk; omega)))
        | ((with_reducible refine clo_set hQ6 hP6 (by omega) hl5' hl6 ?_ ?_ ?_ ?_) <;> (intro k hk; first | (have := hlo5 k hk; omega) | (have := hlo6 k hk; omega)))
        | ((with_reducible refine clo_new hP6 hl5' hl6 ?_ ?_) <;> (intro k hk; first | (have := hlo5 k hk; omega) | (have := hlo6 k hk; omega)))
        | (have h7 := hP6.lt
           (with_reducible refine clo_set (hP6.fr ((Chg.refl _ _).alloc _)) (Bx.new w6 _ _ _ _) (by omega) (hl5'.fr ((Chg.refl _ _).alloc _)) (hl6.fr ((Chg.refl _ _).alloc _)) ?_ ?_ ?_ ?_) <;> (intro k hk; first | (have := hlo5 k hk; omega) | (have := hlo6 k hk; omega)))
    case rest =>
      obtain ⟨p, q, x1, x2, y1, y2, c1, c2, d1, d2, rfl, rfl, hbx, hby, hcc⟩ := hcut
      have HBX := Lib.hid hbx
      have HBY := Lib.hid hby
      clear KP a0 a1 a2 b0 b1 b2
      replace HBA := Lib.hid (HBA.out.fr hcc)
      replace HBB := Lib.hid (HBB.out.fr hcc)
      replace HC := Lib.hid (HC.out.tr hcc)
      have HC3 := Lib.hid (Chg.refl (fun _ => False) wc)
      have HBA3 := HBA
      have HBB3 := HBB
      have HBX3 := HBX
      have HBY3 := HBY
      have HC30 := HC
      clear hbx hby hcc
      obtain ⟨E1, hE1⟩ : ∃ X, ouE f A B = X := ⟨_, rfl⟩
      obtain ⟨S1, hS1⟩ : ∃ X, lsE E1 (A.s ++ B.s) = X := ⟨_, rfl⟩
      have HE1 := Lib.hid (And.intro hE1 hS1)
      have HS1 := Lib.hid (show S1.length ≤ 200 by rw [← hS1]; exact lsE_len (by rw [List.length_append]; have := HG.out; omega))
      clear hE1 hS1
      obtain ⟨E3, hE3⟩ : ∃ X, isE f g A B = X := ⟨_, rfl⟩
      obtain ⟨S3, hS3⟩ : ∃ X, lsE E3 (shpI A B) = X := ⟨_, rfl⟩
      obtain ⟨L3, hL3⟩ : ∃ X, lgE E3 (lngI A B) = X := ⟨_, rfl⟩
      have HE3 := Lib.hid (And.intro hE3 (And.intro hS3 hL3))
      have HS3 := Lib.hid (show S3.length ≤ 200 by rw [← hS3]; exact lsE_len (by unfold shpI; rw [List.length_append, List.length_dropLast, List.length_drop]; have := HG.out; omega))
      clear hE3 hS3 hL3
      have hh := (outerS_any f _ _ A B wc HBX.out.ara HBY.out.ara (by have := HG.out; omega) (by have := HG.out; omega)).mono os_of
      unfold GvOS at hh
      rw [HE1.out.1, HE1.out.2] at hh
      have m0 := HBX.out.a0
      have m1 := HBX.out.a1
      have m2 := HBX.out.a2
      have n0 := HBY.out.a0
      have n1 := HBY.out.a1
      have n2 := HBY.out.a2
      go_wp2_with fail
      refine hh.mono ?_
      clear m0 m1 m2 n0 n1 n2
      clear hh
      rintro e9 w4 ⟨vv, rfl, hoo, hCC⟩
      obtain ⟨s1, s2, rfl⟩ := own_name hoo
      replace HBA := Lib.hid (HBA.out.fr hCC)
      replace HBB := Lib.hid (HBB.out.fr hCC)
      replace HBX := Lib.hid (HBX.out.fr hCC)
      replace HBY := Lib.hid (HBY.out.fr hCC)
      replace HC := Lib.hid (HC.out.tr hCC)
      replace HC3 := Lib.hid (HC3.out.tr hCC)
      have HOS := Lib.hid hoo
      clear hoo hCC
      have hh := (r16outerS_any f _ _ A B w4 HBA.out.ara HBB.out.ara (by have := HG.out; omega) (by have := HG.out; omega)).mono os_of
      unfold GvOS at hh
      rw [HE1.out.1, HE1.out.2] at hh
      have m0 := HBA.out.a0
      have m1 := HBA.out.a1
      have m2 := HBA.out.a2
      have n0 := HBB.out.a0
      have n1 := HBB.out.a1
      have n2 := HBB.out.a2
      go_wp2_with fail
      refine hh.mono ?_
      clear m0 m1 m2 n0 n1 n2
      clear hh
      rintro e9 w5 ⟨vv, rfl, hoo, hCC⟩
      obtain ⟨t1, t2, rfl⟩ := own_name hoo
      replace HBA := Lib.hid (HBA.out.fr hCC)
      replace HBB := Lib.hid (HBB.out.fr hCC)
      replace HBX := Lib.hid (HBX.out.fr hCC)
      replace HBY := Lib.hid (HBY.out.fr hCC)
      replace HOS := Lib.hid (HOS.out.fr hCC)
      replace HC := Lib.hid (HC.out.tr hCC)
      replace HC3 := Lib.hid (HC3.out.tr hCC)
      have HOT := Lib.hid hoo
      clear hoo hCC
      have H5 := Lib.hid (show wc.heap.size ≤ w5.heap.size from HC3.out.size)
      have hh := (innerS_any f g _ _ A B w5 HBX.out.ara HBY.out.ara (by have := HG.out; omega) (by have := HG.out; omega)).mono is_of
      unfold GvIS at hh
      rw [HE3.out.1, HE3.out.2.1, HE3.out.2.2] at hh
      have m0 := HBX.out.a0
      have m1 := HBX.out.a1
      have m2 := HBX.out.a2
      have n0 := HBY.out.a0
      have n1 := HBY.out.a1
      have n2 := HBY.out.a2
      go_wp2_with fail
      refine hh.mono ?_
      clear m0 m1 m2 n0 n1 n2
      clear hh
      rintro e9 w6 ⟨vv, rfl, hoo, hCC⟩
      obtain ⟨p1, p2, rfl⟩ := own_name hoo
      replace HBA := Lib.hid (HBA.out.fr hCC)
      replace HBB := Lib.hid (HBB.out.fr hCC)
      replace HBX := Lib.hid (HBX.out.fr hCC)
      replace HBY := Lib.hid (HBY.out.fr hCC)
      replace HOS := Lib.hid (HOS.out.fr hCC)
      replace HOT := Lib.hid (HOT.out.fr hCC)
      replace HC := Lib.hid (HC.out.tr hCC)
      replace HC3 := Lib.hid (HC3.out.tr hCC)
      have HOP := Lib.hid hoo
      clear hoo hCC
      have hh := (r16innerS_any f g _ _ A B w6 HBA.out.ara HBB.out.ara (by have := HG.out; omega) (by have := HG.out; omega)).mono is_of
      unfold GvIS at hh
      rw [HE3.out.1, HE3.out.2.1, HE3.out.2.2] at hh
      have m0 := HBA.out.a0
      have m1 := HBA.out.a1
      have m2 := HBA.out.a2
      have n0 := HBB.out.a0
      have n1 := HBB.out.a1
      have n2 := HBB.out.a2
      go_wp2_with fail
      refine hh.mono ?_
      clear m0 m1 m2 n0 n1 n2
      clear hh
      rintro e9 w7 ⟨vv, rfl, hoo, hCC⟩
      obtain ⟨q1, q2, rfl⟩ := own_name hoo
      replace HBA := Lib.hid (HBA.out.fr hCC)
      replace HBB := Lib.hid (HBB.out.fr hCC)
      replace HBX := Lib.hid (HBX.out.fr hCC)
      replace HBY := Lib.hid (HBY.out.fr hCC)
      replace HOS := Lib.hid (HOS.out.fr hCC)
      replace HOT := Lib.hid (HOT.out.fr hCC)
      replace HOP := Lib.hid (HOP.out.fr hCC)
      replace HC := Lib.hid (HC.out.tr hCC)
      replace HC3 := Lib.hid (HC3.out.tr hCC)
      have HOQ := Lib.hid hoo
      clear hoo hCC
      have H5C := Lib.hid (show wc.heap.size ≤ w5.heap.size from H5.out)
      have HSK := Lib.hid (show ∀ k, (Value.slice s1 S1.length s2).ownBlock = some k → wc.heap.size ≤ k ∧ k < w7.heap.size from HOS.out.lt)
      have HPK := Lib.hid (show ∀ k, (Value.slice p1 S3.length p2).ownBlock = some k → w5.heap.size ≤ k ∧ k < w7.heap.size from HOP.out.lt)
      have H37 := Lib.hid (show wc.heap.size ≤ w7.heap.size from HC3.out.size)
      obtain ⟨CA, hCA⟩ : ∃ X, outA f A B = X := ⟨_, rfl⟩
      obtain ⟨CE, hCE⟩ : ∃ X, outE f A B = X := ⟨_, rfl⟩
      have HCL := Lib.hid (hCA ▸ out_len f A B (by have := HG.out; omega) (by have := HG.out; omega) (by have := HG.out; omega) (by have := HG.out; omega))
      have HCA := Lib.hid (And.intro hCA hCE)
      clear hCA hCE
      obtain ⟨UA, hUA⟩ : ∃ X, innA f g A B = X := ⟨_, rfl⟩
      obtain ⟨UE, hUE⟩ : ∃ X, innE f g A B = X := ⟨_, rfl⟩
      have HUL := Lib.hid (hUA ▸ inn_len f g A B (by have := HG.out; omega) (by have := HG.out; omega))
      have HUA := Lib.hid (And.intro hUA hUE)
      clear hUA hUE
      have hh := outer_any f _ _ A B _ HBX.out.ara HBY.out.ara (by have := HG.out; omega) (by have := HG.out; omega) HIA.out HIB.out
      unfold GaveAE at hh
      rw [HCA.out.1, HCA.out.2] at hh
      have m0 := HBX.out.a0
      have m1 := HBX.out.a1
      have m2 := HBX.out.a2
      have n0 := HBY.out.a0
      have n1 := HBY.out.a1
      have n2 := HBY.out.a2
      go_wp2_with fail
      refine hh.mono ?_
      clear m0 m1 m2 n0 n1 n2
      clear hh
      rintro e9 w8 ⟨vv, rfl, hoo, hCC⟩
      obtain ⟨i1, i2, i3, i4, rfl, ho1, ho2⟩ := ara_new hoo
      replace HBA := Lib.hid (HBA.out.fr hCC)
      replace HBB := Lib.hid (HBB.out.fr hCC)
      replace HBX := Lib.hid (HBX.out.fr hCC)
      replace HBY := Lib.hid (HBY.out.fr hCC)
      replace HOS := Lib.hid (HOS.out.fr hCC)
      replace HOT := Lib.hid (HOT.out.fr hCC)
      replace HOP := Lib.hid (HOP.out.fr hCC)
      replace HOQ := Lib.hid (HOQ.out.fr hCC)
      replace HC := Lib.hid (HC.out.tr hCC)
      replace HC3 := Lib.hid (HC3.out.tr hCC)
      have HBC := Lib.hid (BxO.new (A := CA) 25 ho1 ho2 hCC.size)
      have hCa := (Chg.refl (fun _ => False) w8).alloc (.cells #[.int .i64 CA.k, .slice i1 CA.s.length i2, .slice i3 CA.e.length i4] 25)
      replace HBA := Lib.hid (HBA.out.fr hCa)
      replace HBB := Lib.hid (HBB.out.fr hCa)
      replace HBX := Lib.hid (HBX.out.fr hCa)
      replace HBY := Lib.hid (HBY.out.fr hCa)
      replace HOS := Lib.hid (HOS.out.fr hCa)
      replace HOT := Lib.hid (HOT.out.fr hCa)
      replace HOP := Lib.hid (HOP.out.fr hCa)
      replace HOQ := Lib.hid (HOQ.out.fr hCa)
      replace HC := Lib.hid (HC.out.tr hCa)
      replace HC3 := Lib.hid (HC3.out.tr hCa)
      clear hCa hCC hoo ho1 ho2
      have hh := r16outer_any f _ _ A B _ HBA.out.ara HBB.out.ara (by have := HG.out; omega) (by have := HG.out; omega) HIA.out HIB.out
      unfold GaveAE at hh
      rw [HCA.out.1, HCA.out.2] at hh
      have m0 := HBA.out.a0
      have m1 := HBA.out.a1
      have m2 := HBA.out.a2
      have n0 := HBB.out.a0
      have n1 := HBB.out.a1
      have n2 := HBB.out.a2
      go_wp2_with fail
      refine hh.mono ?_
      clear m0 m1 m2 n0 n1 n2
      clear hh
      rintro e9 w9 ⟨vv, rfl, hoo, hCC⟩
      obtain ⟨j1, j2, j3, j4, rfl, ho1, ho2⟩ := ara_new hoo
      replace HBA := Lib.hid (HBA.out.fr hCC)
      replace HBB := Lib.hid (HBB.out.fr hCC)
      replace HBX := Lib.hid (HBX.out.fr hCC)
      replace HBY := Lib.hid (HBY.out.fr hCC)
      replace HOS := Lib.hid (HOS.out.fr hCC)
      replace HOT := Lib.hid (HOT.out.fr hCC)
      replace HOP := Lib.hid (HOP.out.fr hCC)
      replace HOQ := Lib.hid (HOQ.out.fr hCC)
      replace HBC := Lib.hid (HBC.out.fr hCC)
      replace HC := Lib.hid (HC.out.tr hCC)
      replace HC3 := Lib.hid (HC3.out.tr hCC)
      have HBD := Lib.hid (Bx1.new (A := CA) 25 ho1.ls ho2.ls)
      have hCa := (Chg.refl (fun _ => False) w9).alloc (.cells #[.int .i64 CA.k, .slice j1 CA.s.length j2, .slice j3 CA.e.length j4] 25)
      replace HBA := Lib.hid (HBA.out.fr hCa)
      replace HBB := Lib.hid (HBB.out.fr hCa)
      replace HBX := Lib.hid (HBX.out.fr hCa)
      replace HBY := Lib.hid (HBY.out.fr hCa)
      replace HOS := Lib.hid (HOS.out.fr hCa)
      replace HOT := Lib.hid (HOT.out.fr hCa)
      replace HOP := Lib.hid (HOP.out.fr hCa)
      replace HOQ := Lib.hid (HOQ.out.fr hCa)
      replace HBC := Lib.hid (HBC.out.fr hCa)
      replace HC := Lib.hid (HC.out.tr hCa)
      replace HC3 := Lib.hid (HC3.out.tr hCa)
      clear hCa hCC hoo ho1 ho2
      have HLU := Lib.hid (cell_lt HBC.out.a0)
      have hh := inner_any f g _ _ A B _ HBX.out.ara HBY.out.ara (by have := HG.out; omega) (by have := HG.out; omega) HIA.out HIB.out
      unfold GaveAE at hh
      rw [HUA.out.1, HUA.out.2] at hh
      have m0 := HBX.out.a0
      have m1 := HBX.out.a1
      have m2 := HBX.out.a2
      have n0 := HBY.out.a0
      have n1 := HBY.out.a1
      have n2 := HBY.out.a2
      go_wp2_with fail
      refine hh.mono ?_
      clear m0 m1 m2 n0 n1 n2
      clear hh
      rintro e9 wd ⟨vv, rfl, hoo, hCC⟩
      obtain ⟨k1, k2, k3, k4, rfl, ho1, ho2⟩ := ara_new hoo
      replace HBA := Lib.hid (HBA.out.fr hCC)
      replace HBB := Lib.hid (HBB.out.fr hCC)
      replace HBX := Lib.hid (HBX.out.fr hCC)
      replace HBY := Lib.hid (HBY.out.fr hCC)
      replace HOS := Lib.hid (HOS.out.fr hCC)
      replace HOT := Lib.hid (HOT.out.fr hCC)
      replace HOP := Lib.hid (HOP.out.fr hCC)
      replace HOQ := Lib.hid (HOQ.out.fr hCC)
      replace HBC := Lib.hid (HBC.out.fr hCC)
      replace HBD := Lib.hid (HBD.out.fr hCC)
      replace HC := Lib.hid (HC.out.tr hCC)
      replace HC3 := Lib.hid (HC3.out.tr hCC)
      have HBU := Lib.hid (BxO.new (A := UA) 25 ho1 ho2 hCC.size)
      have hCa := (Chg.refl (fun _ => False) wd).alloc (.cells #[.int .i64 UA.k, .slice k1 UA.s.length k2, .slice k3 UA.e.length k4] 25)
      replace HBA := Lib.hid (HBA.out.fr hCa)
      replace HBB := Lib.hid (HBB.out.fr hCa)
      replace HBX := Lib.hid (HBX.out.fr hCa)
      replace HBY := Lib.hid (HBY.out.fr hCa)
      replace HOS := Lib.hid (HOS.out.fr hCa)
      replace HOT := Lib.hid (HOT.out.fr hCa)
      replace HOP := Lib.hid (HOP.out.fr hCa)
      replace HOQ := Lib.hid (HOQ.out.fr hCa)
      replace HBC := Lib.hid (HBC.out.fr hCa)
      replace HBD := Lib.hid (HBD.out.fr hCa)
      replace HC := Lib.hid (HC.out.tr hCa)
      replace HC3 := Lib.hid (HC3.out.tr hCa)
      clear hCa hCC hoo ho1 ho2
      have hh := r16inner_any f g _ _ A B _ HBA.out.ara HBB.out.ara (by have := HG.out; omega) (by have := HG.out; omega) HIA.out HIB.out
      unfold GaveAE at hh
      rw [HUA.out.1, HUA.out.2] at hh
      have m0 := HBA.out.a0
      have m1 := HBA.out.a1
      have m2 := HBA.out.a2
      have n0 := HBB.out.a0
      have n1 := HBB.out.a1
      have n2 := HBB.out.a2
      go_wp2_with fail
      refine hh.mono ?_
      clear m0 m1 m2 n0 n1 n2
      clear hh
      rintro e9 wu ⟨vv, rfl, hoo, hCC⟩
      obtain ⟨l1, l2, l3, l4, rfl, ho1, ho2⟩ := ara_new hoo
      replace HBA := Lib.hid (HBA.out.fr hCC)
      replace HBB := Lib.hid (HBB.out.fr hCC)
      replace HBX := Lib.hid (HBX.out.fr hCC)
      replace HBY := Lib.hid (HBY.out.fr hCC)
      replace HOS := Lib.hid (HOS.out.fr hCC)
      replace HOT := Lib.hid (HOT.out.fr hCC)
      replace HOP := Lib.hid (HOP.out.fr hCC)
      replace HOQ := Lib.hid (HOQ.out.fr hCC)
      replace HBC := Lib.hid (HBC.out.fr hCC)
      replace HBD := Lib.hid (HBD.out.fr hCC)
      replace HBU := Lib.hid (HBU.out.fr hCC)
      replace HC := Lib.hid (HC.out.tr hCC)
      replace HC3 := Lib.hid (HC3.out.tr hCC)
      have HBV := Lib.hid (Bx1.new (A := UA) 25 ho1.ls ho2.ls)
      have hCa := (Chg.refl (fun _ => False) wu).alloc (.cells #[.int .i64 UA.k, .slice l1 UA.s.length l2, .slice l3 UA.e.length l4] 25)
      replace HBA := Lib.hid (HBA.out.fr hCa)
      replace HBB := Lib.hid (HBB.out.fr hCa)
      replace HBX := Lib.hid (HBX.out.fr hCa)
      replace HBY := Lib.hid (HBY.out.fr hCa)
      replace HOS := Lib.hid (HOS.out.fr hCa)
      replace HOT := Lib.hid (HOT.out.fr hCa)
      replace HOP := Lib.hid (HOP.out.fr hCa)
      replace HOQ := Lib.hid (HOQ.out.fr hCa)
      replace HBC := Lib.hid (HBC.out.fr hCa)
      replace HBD := Lib.hid (HBD.out.fr hCa)
      replace HBU := Lib.hid (HBU.out.fr hCa)
      replace HC := Lib.hid (HC.out.tr hCa)
      replace HC3 := Lib.hid (HC3.out.tr hCa)
      clear hCa hCC hoo ho1 ho2
      have hh := r11shapes_any _ _ S1 S1 _ HOS.out.ls HOT.out.ls (by have := HS1.out; omega)
      rw [decide_eq_true rfl] at hh
      unfold GaveBo at hh
      go_wp2_with fail
      refine hh.mono ?_
      clear hh
      rintro e9 wv ⟨rfl, hCC⟩
      replace HBA := Lib.hid (HBA.out.fr hCC)
      replace HBB := Lib.hid (HBB.out.fr hCC)
      replace HBX := Lib.hid (HBX.out.fr hCC)
      replace HBY := Lib.hid (HBY.out.fr hCC)
      replace HOS := Lib.hid (HOS.out.fr hCC)
      replace HOT := Lib.hid (HOT.out.fr hCC)
      replace HOP := Lib.hid (HOP.out.fr hCC)
      replace HOQ := Lib.hid (HOQ.out.fr hCC)
      replace HBC := Lib.hid (HBC.out.fr hCC)
      replace HBD := Lib.hid (HBD.out.fr hCC)
      replace HBU := Lib.hid (HBU.out.fr hCC)
      replace HBV := Lib.hid (HBV.out.fr hCC)
      replace HC := Lib.hid (HC.out.tr hCC)
      replace HC3 := Lib.hid (HC3.out.tr hCC)
      clear hCC
      have hh := r11shapes_any _ _ S3 S3 _ HOP.out.ls HOQ.out.ls (by have := HS3.out; omega)
      rw [decide_eq_true rfl] at hh
      unfold GaveBo at hh
      have e1 : (E1 != E1) = false := by simp
      go_wp2_with fail
      refine hh.mono ?_
      clear hh
      rintro e9 ww ⟨rfl, hCC⟩
      replace HBA := Lib.hid (HBA.out.fr hCC)
      replace HBB := Lib.hid (HBB.out.fr hCC)
      replace HBX := Lib.hid (HBX.out.fr hCC)
      replace HBY := Lib.hid (HBY.out.fr hCC)
      replace HOS := Lib.hid (HOS.out.fr hCC)
      replace HOT := Lib.hid (HOT.out.fr hCC)
      replace HOP := Lib.hid (HOP.out.fr hCC)
      replace HOQ := Lib.hid (HOQ.out.fr hCC)
      replace HBC := Lib.hid (HBC.out.fr hCC)
      replace HBD := Lib.hid (HBD.out.fr hCC)
      replace HBU := Lib.hid (HBU.out.fr hCC)
      replace HBV := Lib.hid (HBV.out.fr hCC)
      replace HC := Lib.hid (HC.out.tr hCC)
      replace HC3 := Lib.hid (HC3.out.tr hCC)
      clear hCC
      have hh := r11same_any _ _ CA CA _ HBC.out.ara HBD.out.ara HCL.out.2 HCL.out.1
      rw [sameA_iff.2 rfl] at hh
      unfold GaveBo at hh
      have m0 := HBC.out.a0
      have m1 := HBC.out.a1
      have m2 := HBC.out.a2
      have n0 := HBD.out.a0
      have n1 := HBD.out.a1
      have n2 := HBD.out.a2
      have e2 : (L3 != L3) = false := by simp
      have e3 : (E3 != E3) = false := by simp
      go_wp2_with fail
      refine hh.mono ?_
      clear m0 m1 m2 n0 n1 n2
      clear hh
      rintro e9 wx ⟨rfl, hCC⟩
      replace HBA := Lib.hid (HBA.out.fr hCC)
      replace HBB := Lib.hid (HBB.out.fr hCC)
      replace HBX := Lib.hid (HBX.out.fr hCC)
      replace HBY := Lib.hid (HBY.out.fr hCC)
      replace HOS := Lib.hid (HOS.out.fr hCC)
      replace HOT := Lib.hid (HOT.out.fr hCC)
      replace HOP := Lib.hid (HOP.out.fr hCC)
      replace HOQ := Lib.hid (HOQ.out.fr hCC)
      replace HBC := Lib.hid (HBC.out.fr hCC)
      replace HBD := Lib.hid (HBD.out.fr hCC)
      replace HBU := Lib.hid (HBU.out.fr hCC)
      replace HBV := Lib.hid (HBV.out.fr hCC)
      replace HC := Lib.hid (HC.out.tr hCC)
      replace HC3 := Lib.hid (HC3.out.tr hCC)
      clear hCC
      have hh := r11same_any _ _ UA UA _ HBU.out.ara HBV.out.ara HUL.out.2 HUL.out.1
      rw [sameA_iff.2 rfl] at hh
      unfold GaveBo at hh
      have m0 := HBU.out.a0
      have m1 := HBU.out.a1
      have m2 := HBU.out.a2
      have n0 := HBV.out.a0
      have n1 := HBV.out.a1
      have n2 := HBV.out.a2
      have e4 : (CE != CE) = false := by simp
      go_wp2_with fail
      refine hh.mono ?_
      clear m0 m1 m2 n0 n1 n2
      clear hh
      rintro e9 wy ⟨rfl, hCC⟩
      replace HBA := Lib.hid (HBA.out.fr hCC)
      replace HBB := Lib.hid (HBB.out.fr hCC)
      replace HBX := Lib.hid (HBX.out.fr hCC)
      replace HBY := Lib.hid (HBY.out.fr hCC)
      replace HOS := Lib.hid (HOS.out.fr hCC)
      replace HOT := Lib.hid (HOT.out.fr hCC)
      replace HOP := Lib.hid (HOP.out.fr hCC)
      replace HOQ := Lib.hid (HOQ.out.fr hCC)
      replace HBC := Lib.hid (HBC.out.fr hCC)
      replace HBU := Lib.hid (HBU.out.fr hCC)
      replace HBV := Lib.hid (HBV.out.fr hCC)
      replace HC := Lib.hid (HC.out.tr hCC)
      replace HC3 := Lib.hid (HC3.out.tr hCC)
      clear hCC
      have e5 : (UE != UE) = false := by simp
      have hh := spoil_any CA.k _ _ _ _ _ _ wy HBC.out.os HBC.out.oe HCL.out.1 HCL.out.2
      have m0 := HBC.out.a0
      have m1 := HBC.out.a1
      have m2 := HBC.out.a2
      go_wp2_with fail
      refine hh.mono ?_
      clear hh m0 m1 m2
      rintro e9 wz ⟨⟨vv, rfl⟩, hCx⟩
      have HSC := Lib.hid (show ∀ q, ((Value.slice i1 CA.s.length i2).ownBlock = some q ∨ (Value.slice i3 CA.e.length i4).ownBlock = some q) → w7.heap.size ≤ q ∧ q < w8.heap.size from HBC.out.lt)
      replace HBU := Lib.hid (HBU.out.chg hCx (fun q hq => by have := (HSC.out q hq).2; have := HLU.out; omega))
      replace HOS := Lib.hid (HOS.out.chg hCx (fun k e hs => by have := (HSK.out k e).2; have := (HSC.out k hs).1; omega))
      replace HOP := Lib.hid (HOP.out.chg hCx (fun k e hs => by have := (HPK.out k e).2; have := (HSC.out k hs).1; omega))
      have hC3' : Chg (fun _ => False) wc wz := Chg.trans HC3.out hCx (fun _ _ h => h) (fun i hi h => by have := (HSC.out i h).1; have := H37.out; omega)
      have H78 := Lib.hid HBC.out.bp
      clear hCx HBC HBA HBB HBX HBY HC HOT HOQ
      have hh := spoil_any UA.k _ _ _ _ _ _ wz HBU.out.os HBU.out.oe HUL.out.1 HUL.out.2
      have m0 := HBU.out.a0
      have m1 := HBU.out.a1
      have m2 := HBU.out.a2
      go_wp2_with fail
      refine hh.mono ?_
      clear hh m0 m1 m2
      rintro e9 wt ⟨⟨vv, rfl⟩, hCy⟩
      have HSU := Lib.hid (show ∀ q, ((Value.slice k1 UA.s.length k2).ownBlock = some q ∨ (Value.slice k3 UA.e.length k4).ownBlock = some q) → w7.heap.size < q from fun q hq => by have := (HBU.out.lt q hq).1; have := HLU.out; have := H78.out; omega)
      replace HOS := Lib.hid (HOS.out.chg hCy (fun k e hs => by have := (HSK.out k e).2; have := HSU.out k hs; omega))
      replace HOP := Lib.hid (HOP.out.chg hCy (fun k e hs => by have := (HPK.out k e).2; have := HSU.out k hs; omega))
      have HCE := Lib.hid (show Chg (fun _ => False) wc wt from Chg.trans hC3' hCy (fun _ _ h => h) (fun i hi h => by have := HSU.out i h; have := H37.out; omega))
      clear hCy hC3' HBU
      have HWS := Lib.hid (Wrt.of HOS.out)
      have HWP := Lib.hid (Wrt.of HOP.out)
      have hzS : ∀ k, (Value.slice s1 S1.length s2).ownBlock = some k → wc.heap.size ≤ k ∧ k < wt.heap.size := fun k e => ⟨(HSK.out k e).1, (HOS.out.lt k e).2⟩
      have hzP : ∀ k, (Value.slice p1 S3.length p2).ownBlock = some k → wc.heap.size ≤ k ∧ k < wt.heap.size := fun k e => ⟨Nat.le_trans H5C.out (HPK.out k e).1, (HOP.out.lt k e).2⟩
      have HSN := Lib.hid (And.intro HS1.out HS3.out)
      generalize S1.length = nS at *
      generalize S3.length = nP at *
      have HZS := Lib.hid hzS
      have HZP := Lib.hid hzP
      obtain ⟨z, hz⟩ : ∃ z, wt.heap.size = z := ⟨_, rfl⟩
      have HR0 := Lib.hid (show RelP wc z (.slice s1 nS s2) (.slice p1 nP p2) nS nP (wt.alloc (.cells #[.slice s1 nS s2, .slice p1 nP p2] 22)) from by
        rw [← hz]
        exact ⟨new_cell _ _ _ rfl, new_cell _ _ _ rfl, HWS.out.chg ((Chg.refl (fun _ => False) _).alloc _) (fun _ _ h => h), HWP.out.chg ((Chg.refl (fun _ => False) _).alloc _) (fun _ _ h => h), HCE.out.alloc _⟩)
      rw [hz] at HZS HZP
      have HZ := Lib.hid hz
      clear hz hzS hzP
      go_wp2
      rw [HZ.out]
      go_loopw [157] (fun i wr => ∃ j : Nat, j ≤ 2 ∧ i = .int .i64 j ∧ RelP wc z (.slice s1 nS s2) (.slice p1 nP p2) nS nP wr) (fun i _ => 2 - (intOf i).toNat)
      case atStart => exact ⟨0, by omega, rfl, HR0.out⟩
      case round =>
        obtain ⟨j, hj, rfl, hR⟩ := hrel
        have HR := Lib.hid hR
        have g0 := hR.c0
        have g1 := hR.c1
        clear hR
        rcases (show j = 0 ∨ j = 1 ∨ j = 2 by omega) with rfl | rfl | rfl
        · clear hj
          go_wp2
          clear g0 g1
          go_loopw [163] (fun i wz => ∃ k : Nat, k ≤ nS ∧ i = .int .i64 k ∧ RelP wc z (.slice s1 nS s2) (.slice p1 nP p2) nS nP wz) (fun i _ => nS - (intOf i).toNat)
          case atStart => exact ⟨0, Nat.zero_le _, rfl, HR.out⟩
          case round =>
            obtain ⟨k, hk, rfl, hR⟩ := hrel
            by_cases hlt : k < nS
            · have d1 : decide ((k : Int) < (nS : Int)) = true := decide_eq_true (by omega)
              have d2 : decide (k < nS) = true := decide_eq_true hlt
              have hk0 : (0 : Int) ≤ (k : Int) := by omega
              have hk1 : (k : Int) < (nS : Int) := by omega
              have hkw : IntKind.i64.wrap ((k : Int) + 1) = (k : Int) + 1 := IntWalk.i64_in _ (by have := HSN.out; omega)
              obtain ⟨b, o, c9, x, e1, hc, hf⟩ := hR.ws k hlt
              injection e1 with e1 e3 e4
              clear e3 e4
              subst e1
              have hzz := HZS.out b rfl
              have HS9 := Lib.hid (hR.set (i := o + k) (y := IntKind.i64.wrap (x + 1)) (show b ≠ z by omega) hzz.1)
              generalize hw9 : IntKind.i64.wrap (x + 1) = y9 at *
              have HLT := Lib.hid hlt
              clear hR hzz hlt hk
              go_wp2
              go_roundw
              case rel => exact ⟨k + 1, HLT.out, by go_num, HS9.out⟩
              case measure => exact fit_meas k nS HLT.out
            · obtain rfl : k = nS := by omega
              have d1 : decide ((k : Int) < (k : Int)) = false := decide_eq_false (by omega)
              have d2 : decide (k < k) = false := decide_eq_false (by omega)
              have HRE := Lib.hid hR
              clear hR hlt hk
              go_wp2
              go_roundw
              case rel => exact ⟨1, by omega, rfl, HRE.out⟩
              case measure => simp [intOf]
        · clear hj
          go_wp2
          clear g0 g1
          go_loopw [163] (fun i wz => ∃ k : Nat, k ≤ nP ∧ i = .int .i64 k ∧ RelP wc z (.slice s1 nS s2) (.slice p1 nP p2) nS nP wz) (fun i _ => nP - (intOf i).toNat)
          case atStart => exact ⟨0, Nat.zero_le _, rfl, HR.out⟩
          case round =>
            obtain ⟨k, hk, rfl, hR⟩ := hrel
            by_cases hlt : k < nP
            · have d1 : decide ((k : Int) < (nP : Int)) = true := decide_eq_true (by omega)
              have d2 : decide (k < nP) = true := decide_eq_true hlt
              have hk0 : (0 : Int) ≤ (k : Int) := by omega
              have hk1 : (k : Int) < (nP : Int) := by omega
              have hkw : IntKind.i64.wrap ((k : Int) + 1) = (k : Int) + 1 := IntWalk.i64_in _ (by have := HSN.out; omega)
              obtain ⟨b, o, c9, x, e1, hc, hf⟩ := hR.wp k hlt
              injection e1 with e1 e3 e4
              clear e3 e4
              subst e1
              have hzz := HZP.out b rfl
              have HS9 := Lib.hid (hR.set (i := o + k) (y := IntKind.i64.wrap (x + 1)) (show b ≠ z by omega) hzz.1)
              generalize hw9 : IntKind.i64.wrap (x + 1) = y9 at *
              have HLT := Lib.hid hlt
              clear hR hzz hlt hk
              go_wp2
              go_roundw
              case rel => exact ⟨k + 1, HLT.out, by go_num, HS9.out⟩
              case measure => exact fit_meas k nP HLT.out
            · obtain rfl : k = nP := by omega
              have d1 : decide ((k : Int) < (k : Int)) = false := decide_eq_false (by omega)
              have d2 : decide (k < k) = false := decide_eq_false (by omega)
              have HRE := Lib.hid hR
              clear hR hlt hk
              go_wp2
              go_roundw
              case rel => exact ⟨2, by omega, rfl, HRE.out⟩
              case measure => simp [intOf]
        · clear hj g0 g1
          have HCF := Lib.hid HR.out.ch
          have HBA := Lib.hid (HBA3.out.fr HCF.out)
          have HBB := Lib.hid (HBB3.out.fr HCF.out)
          have HBX := Lib.hid (HBX3.out.fr HCF.out)
          have HBY := Lib.hid (HBY3.out.fr HCF.out)
          have hh := r11same_any _ _ A A _ HBX.out.ara HBA.out.ara (by have := HG.out; omega) (by have := HG.out; omega)
          rw [sameA_iff.2 rfl] at hh
          unfold GaveBo at hh
          have m0 := HBX.out.a0
          have m1 := HBX.out.a1
          have m2 := HBX.out.a2
          have n0 := HBA.out.a0
          have n1 := HBA.out.a1
          have n2 := HBA.out.a2
          go_wp2_with fail
          refine hh.mono ?_
          clear hh m0 m1 m2 n0 n1 n2
          rintro e9 wq ⟨rfl, hCq⟩
          replace HBB := Lib.hid (HBB.out.fr hCq)
          replace HBY := Lib.hid (HBY.out.fr hCq)
          have HCG := Lib.hid (HCF.out.tr hCq)
          clear hCq
          have hh := r11same_any _ _ B B _ HBY.out.ara HBB.out.ara (by have := HG.out; omega) (by have := HG.out; omega)
          rw [sameA_iff.2 rfl] at hh
          unfold GaveBo at hh
          have m0 := HBY.out.a0
          have m1 := HBY.out.a1
          have m2 := HBY.out.a2
          have n0 := HBB.out.a0
          have n1 := HBB.out.a1
          have n2 := HBB.out.a2
          go_wp2_with fail
          refine hh.mono ?_
          clear hh m0 m1 m2 n0 n1 n2
          rintro e9 wo ⟨rfl, hCo⟩
          go_wp2
          go_ret
          exact ⟨rfl, HC30.out.tr (HCG.out.tr hCo)⟩
end Go.Proofs.Ytjmlekdgipinfaa
