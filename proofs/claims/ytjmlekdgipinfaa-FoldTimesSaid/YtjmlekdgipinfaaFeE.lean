/- FoldTimes: each element of an inner product of two arrays is that of the row and the column that stand behind it, alone. -/
import Derived.Test.YtjmlekdgipinfaaFeD
import Derived.Deep.DeepCutAuto
namespace Go.Proofs.Ytjmlekdgipinfaa
open Go.RowKit Go.Shelf

abbrev True_ := @Tru16
/-- The two arrays' boxes. -/
structure Bx2 (w : World) (p q : Nat) (sa ea ta fa : Option Addr) (cs ce ct cf : Nat) (A B : Ar) : Prop where
  a0 : w.cell? ⟨p, 0, none⟩ = some (.int .i64 A.k)
  a1 : w.cell? ⟨p, 1, none⟩ = some (.slice sa A.s.length cs)
  a2 : w.cell? ⟨p, 2, none⟩ = some (.slice ea A.e.length ce)
  b0 : w.cell? ⟨q, 0, none⟩ = some (.int .i64 B.k)
  b1 : w.cell? ⟨q, 1, none⟩ = some (.slice ta B.s.length ct)
  b2 : w.cell? ⟨q, 2, none⟩ = some (.slice fa B.e.length cf)
  ls : Ls w (.slice sa A.s.length cs) A.s ∧ Ls w (.slice ea A.e.length ce) A.e ∧ Ls w (.slice ta B.s.length ct) B.s ∧ Ls w (.slice fa B.e.length cf) B.e
theorem Bx2.fr {w w' : World} {p q : Nat} {sa ea ta fa : Option Addr} {cs ce ct cf : Nat} {A B : Ar} (h : Bx2 w p q sa ea ta fa cs ce ct cf A B) (hC : Chg (fun _ => False) w w') : Bx2 w' p q sa ea ta fa cs ce ct cf A B :=
  ⟨hC.cell h.a0 id, hC.cell h.a1 id, hC.cell h.a2 id, hC.cell h.b0 id, hC.cell h.b1 id, hC.cell h.b2 id, h.ls.1.fr hC, h.ls.2.1.fr hC, h.ls.2.2.1.fr hC, h.ls.2.2.2.fr hC⟩
theorem Bx2.araA {w : World} {p q : Nat} {sa ea ta fa : Option Addr} {cs ce ct cf : Nat} {A B : Ar} (h : Bx2 w p q sa ea ta fa cs ce ct cf A B) : Ara w (.agg #[.int .i64 A.k, .slice sa A.s.length cs, .slice ea A.e.length ce]) A := ⟨_, _, rfl, h.ls.1, h.ls.2.1⟩
theorem Bx2.araB {w : World} {p q : Nat} {sa ea ta fa : Option Addr} {cs ce ct cf : Nat} {A B : Ar} (h : Bx2 w p q sa ea ta fa cs ce ct cf A B) : Ara w (.agg #[.int .i64 B.k, .slice ta B.s.length ct, .slice fa B.e.length cf]) B := ⟨_, _, rfl, h.ls.2.2.1, h.ls.2.2.2⟩
theorem grt_not {m : Nat} {A B : Ar} (h : (grt16 m A || grt16 m B) = false) : A.e.length ≤ m ∧ B.e.length ≤ m ∧ A.s.length ≤ 100 ∧ B.s.length ≤ 100 := by
  unfold grt16 at h
  simp only [Bool.or_eq_false_iff, decide_eq_false_iff_not] at h
  omega
/-- A row in new memory, in whatever order it was made. -/
theorem box_rb (w : World) (k : Int) (L : Nat) (ax : Option Addr) (cx : Nat) {e : List Int} (h : Ls w (.slice ax L cx) e) (he : e.length = L) (t1 t2 : TypeId) :
    BoxA ((w.alloc (.cells #[.int .i64 L] t1)).alloc (.cells #[.int .i64 k, .slice (some ⟨w.heap.size, 0, none⟩) 1 1, .slice ax L cx] t2)).drew (w.heap.size + 1) ⟨k, [(L : Int)], e⟩ := by
  subst he
  have h1 := (own_lit w t1 [(e.length : Int)] 1 rfl #[.int .i64 e.length] rfl (by simp)).ls
  have h2 := BoxA.new (w := w.alloc (.cells #[.int .i64 e.length] t1)) (A := ⟨k, [(e.length : Int)], e⟩) t2 ⟨_, _, rfl, h1, h.fr ((Chg.refl _ w).alloc _)⟩
  rw [World.size_alloc] at h2
  exact h2.fr (Chg.refl _ _).drew
theorem box_br (w : World) (k : Int) (L : Nat) (ax : Option Addr) (cx : Nat) {e : List Int} (h : Ls w (.slice ax L cx) e) (he : e.length = L) (t1 t2 : TypeId) :
    BoxA ((w.alloc (.cells #[.int .i64 k, .slice (some ⟨w.heap.size + 1, 0, none⟩) 1 1, .slice ax L cx] t2)).alloc (.cells #[.int .i64 L] t1)).drew w.heap.size ⟨k, [(L : Int)], e⟩ := by
  subst he
  have h1 := (own_lit (w.alloc (.cells #[.int .i64 k, .slice (some ⟨w.heap.size + 1, 0, none⟩) 1 1, .slice ax e.length cx] t2)) t1 [(e.length : Int)] 1 rfl #[.int .i64 e.length] rfl (by simp)).ls
  rw [World.size_alloc] at h1
  obtain ⟨c0, c1, c2⟩ := cell_two w (.int .i64 k) (.slice (some ⟨w.heap.size + 1, 0, none⟩) 1 1) (.slice ax e.length cx) t2
  have hC := ((Chg.refl (fun _ => False) (w.alloc (.cells #[.int .i64 k, .slice (some ⟨w.heap.size + 1, 0, none⟩) 1 1, .slice ax e.length cx] t2))).alloc (.cells #[.int .i64 e.length] t1)).drew
  exact ⟨_, _, _, _, ⟨hC.cell c0 id, hC.cell c1 id, hC.cell c2 id⟩, _, _, rfl, h1.fr (Chg.refl _ _).drew, (h.fr ((Chg.refl _ w).alloc _)).fr hC⟩
/-- A place's number. -/
theorem at_facts {j L k n nb : Nat} (hj : j < L) (hk : k < n) (hbl : nb = L * n) (hn : nb ≤ 10000) : ∃ r q, j * n + k = q ∧ q < nb ∧ IntKind.i64.wrap ((j : Int) * (n : Int)) = (r : Nat) ∧ IntKind.i64.wrap (((r : Nat) : Int) + (k : Int)) = (q : Nat) := by
  have h1 : (j + 1) * n ≤ nb := by rw [hbl]; exact Nat.mul_le_mul_right _ hj
  have h2 : (j + 1) * n = j * n + n := by rw [Nat.add_mul]; omega
  obtain ⟨r, hr⟩ : ∃ r, j * n = r := ⟨_, rfl⟩
  rw [h2, hr] at h1
  refine ⟨r, r + k, by rw [hr], by omega, ?_, ?_⟩
  · rw [← Int.natCast_mul, hr]; exact IntWalk.i64_in _ (by omega)
  · rw [← Int.natCast_add]; exact IntWalk.i64_in _ (by omega)
theorem col_In {ys : List Int} {n k L : Nat} (h : ∀ x ∈ ys, In x) : ∀ x ∈ colL ys n k L, In x := by
  intro x hx
  unfold colL at hx
  obtain ⟨j, _, rfl⟩ := List.mem_map.1 hx
  rw [List.getD_eq_getElem?_getD]
  by_cases hj : j * n + k < ys.length
  · rw [List.getElem?_eq_getElem hj]; exact h _ (List.getElem_mem hj)
  · rw [List.getElem?_eq_none (by omega)]; unfold In; decide
/-- A column under way in block b. -/
structure Clk (K : Int) (w W : World) (b base : Nat) (vs v : Value) (xs : List Int) : Prop where
  bx : Bx W b (.int .i64 K) vs v
  el : Own W base 2 v xs
  ch : Chg (fun _ => False) w W
  lb : w.heap.size ≤ b
  lt : b < base
theorem Clk.more {K : Int} {w W Wa w2 : World} {b base : Nat} {x : Int} {vs v v2 : Value} {xs : List Int} {n : Nat} (h : Clk K w W b base vs v xs) (hA : Chg (fun _ => False) W Wa) (hg : Wa.grownBy w2 v.ownBlock)
    (h2 : w2.ownsRow base 2 1 v2 n (xs.map I ++ [.int .i64 x])) (hn : n = xs.length + 1) :
    (w2.cell? ⟨b, 2, none⟩ = some v ∧ w2.frozen? ⟨b, 2, none⟩ = false) ∧ Clk K w (w2.setCell ⟨b, 2, none⟩ v2) b base vs v2 (xs ++ [x]) := by
  subst hn
  have h3 : Chg (fun q => v.ownBlock = some q) W w2 := (Chg.mono hA (fun _ _ h => h.elim)).grown hg (fun k e => .inl e)
  have hbx := h.bx.chg h3 (fun e => by have := (h.el.lt b e).1; have := h.lt; omega)
  have hel : Own w2 base 2 v2 (xs ++ [x]) := by
    unfold Own
    rw [List.length_append, List.map_append]
    exact h2
  have hch : Chg (fun _ => False) w w2 := h.ch.trans h3 (fun _ _ h => h) (fun i hi e => by have := (h.el.lt i e).1; have := h.lt; have := h.lb; omega)
  exact ⟨⟨hbx.c2, hbx.f2⟩, hbx.set2 v2, own_set hel (a := ⟨b, 2, none⟩) h.lt v2, hch.setCell (p := ⟨b, 2, none⟩) (.inr h.lb) v2, h.lb, h.lt⟩
/-- A row's ends. -/
theorem row_facts {i m L na : Nat} (hi : i < m) (hal : na = m * L) (hn : na ≤ 10000) : ∃ r0 r1, i * L = r0 ∧ (i + 1) * L = r1 ∧ r1 ≤ na ∧ r0 ≤ r1 ∧ r1 - r0 = L ∧ IntKind.i64.wrap ((i : Int) * (L : Int)) = (r0 : Int) ∧ IntKind.i64.wrap (((i : Int) + 1) * (L : Int)) = (r1 : Int) := by
  have h1 : (i + 1) * L ≤ na := by rw [hal]; exact Nat.mul_le_mul_right _ hi
  have h2 : (i + 1) * L = i * L + L := by rw [Nat.add_mul]; omega
  obtain ⟨r0, hr0⟩ : ∃ r, i * L = r := ⟨_, rfl⟩
  obtain ⟨r1, hr1⟩ : ∃ r, (i + 1) * L = r := ⟨_, rfl⟩
  rw [hr0, hr1] at h2
  rw [hr1] at h1
  refine ⟨r0, r1, hr0, hr1, h1, by omega, by omega, ?_, ?_⟩
  · rw [← Int.natCast_mul, hr0]; exact IntWalk.i64_in _ (by omega)
  · rw [← Int.natCast_succ, ← Int.natCast_mul, hr1]; exact IntWalk.i64_in _ (by omega)
set_option maxRecDepth 100000 in
set_option maxHeartbeats 60000000 in
theorem foldTimes_walk (f g : Int) (u : Value) (A : Ar) (v : Value) (B : Ar) (W : World) (_h : (Lit.int .i64 f).wf = true) (_k : (Lit.int .i64 g).wf = true) (h1 : OkArr W u A) (h2 : OkArr W v B) : Calls Try.prog 8 #[.int .i64 f, .int .i64 g, u, v] W (True_ W) := by
  clear _h _k
  have hA := h1.1
  have hB := h2.1
  have HIA := Lib.hid (show ∀ x ∈ A.e, In x from h1.2.2.2)
  have HIB := Lib.hid (show ∀ x ∈ B.e, In x from h2.2.2.2)
  clear h1 h2
  have hal := alive_any
  obtain ⟨vs, ve, rfl, hs, he⟩ := hA
  obtain ⟨us, ue, rfl, ht, hf⟩ := hB
  obtain ⟨sa, cs, rfl, _⟩ := hs.form
  obtain ⟨ea, ce, rfl, _⟩ := he.form
  obtain ⟨ta, ct, rfl, _⟩ := ht.form
  obtain ⟨fa, cf, rfl, _⟩ := hf.form
  have HL := Lib.hid (show Ls W _ A.s ∧ Ls W _ A.e ∧ Ls W _ B.s ∧ Ls W _ B.e from ⟨hs, he, ht, hf⟩)
  clear hs he ht hf
  go_enter Try.func8, Try.ntmps8
  go_wp2_with fail
  obtain ⟨v1, hv1⟩ : ∃ v, W.alloc (.cells #[.int .i64 A.k, .slice sa A.s.length cs, .slice ea A.e.length ce] 25) = v := ⟨_, rfl⟩
  obtain ⟨v2, hv2⟩ : ∃ v, v1.alloc (.cells #[.int .i64 B.k, .slice ta B.s.length ct, .slice fa B.e.length cf] 25) = v := ⟨_, rfl⟩
  rw [hv1, hv2]
  have z1 : v1.heap.size = W.heap.size + 1 := by rw [← hv1, World.size_alloc]
  have g1 : Chg (fun _ => False) W v1 := by rw [← hv1]; exact (Chg.refl _ _).alloc _
  have g2 : Chg (fun _ => False) v1 v2 := by rw [← hv2]; exact (Chg.refl _ _).alloc _
  obtain ⟨a0, a1, a2⟩ := cell_two W (.int .i64 A.k) (.slice sa A.s.length cs) (.slice ea A.e.length ce) 25
  rw [hv1] at a0 a1 a2
  obtain ⟨b0, b1, b2⟩ := cell_two v1 (.int .i64 B.k) (.slice ta B.s.length ct) (.slice fa B.e.length cf) 25
  rw [z1, hv2] at b0 b1 b2
  have HB2 := Lib.hid (show Bx2 v2 W.heap.size (W.heap.size + 1) sa ea ta fa cs ce ct cf A B from ⟨g2.cell a0 id, g2.cell a1 id, g2.cell a2 id, b0, b1, b2, HL.out.1.fr (g1.tr g2), HL.out.2.1.fr (g1.tr g2), HL.out.2.2.1.fr (g1.tr g2), HL.out.2.2.2.fr (g1.tr g2)⟩)
  have HC := Lib.hid (g1.tr g2)
  clear HL a0 a1 a2 b0 b1 b2 g1 g2 hv1 hv2 z1
  have a0 := HB2.out.a0
  have a1 := HB2.out.a1
  have a2 := HB2.out.a2
  have b0 := HB2.out.b0
  have b1 := HB2.out.b1
  have b2 := HB2.out.b2
  refine (hal _).mono ?_
  clear hal
  rintro e9 w1 ⟨rfl, hC1⟩
  clear a0 a1 a2 b0 b1 b2
  replace HB2 := Lib.hid (HB2.out.fr hC1)
  replace HC := Lib.hid (HC.out.tr hC1)
  have a0 := HB2.out.a0
  have a1 := HB2.out.a1
  have a2 := HB2.out.a2
  have b0 := HB2.out.b0
  have b1 := HB2.out.b1
  have b2 := HB2.out.b2
  clear hC1
  obtain ⟨gr, hgr⟩ : ∃ b, (grt16 100 A || grt16 100 B) = b := ⟨_, rfl⟩
  have HGR := Lib.hid hgr
  clear hgr
  have hg1 := great16_any 100 sa ea ta fa cs ce ct cf w1.heap.size A B (w1.alloc (.cells #[.int .i64 A.k, .slice sa A.s.length cs, .slice ea A.e.length ce, .int .i64 B.k, .slice ta B.s.length ct, .slice fa B.e.length cf] 25)) ⟨⟨new_cell _ _ _ rfl, new_cell _ _ _ rfl⟩, new_cell _ _ _ rfl, new_cell _ _ _ rfl⟩ gr HGR.out
  unfold SaidB at hg1
  have hCa := (Chg.refl (fun _ => False) w1).alloc (.cells #[.int .i64 A.k, .slice sa A.s.length cs, .slice ea A.e.length ce, .int .i64 B.k, .slice ta B.s.length ct, .slice fa B.e.length cf] 25)
  go_wp2_with fail
  refine hg1.mono ?_
  clear hg1
  rintro e9 w2 ⟨rfl, e2⟩
  rw [← e2] at hCa
  clear e2
  clear a0 a1 a2 b0 b1 b2
  replace HB2 := Lib.hid (HB2.out.fr hCa)
  replace HC := Lib.hid (HC.out.tr hCa)
  have a0 := HB2.out.a0
  have a1 := HB2.out.a1
  have a2 := HB2.out.a2
  have b0 := HB2.out.b0
  have b1 := HB2.out.b1
  have b2 := HB2.out.b2
  clear hCa
  cases gr with
  | true =>
    go_wp2
    go_ret
    exact ⟨rfl, HC.out⟩
  | false =>
    have HG := Lib.hid (grt_not HGR.out)
    clear HGR
    by_cases hsA : A.s.length = 2
    · have e1 : ((A.s.length : Int) != 2) = false := by rw [bne_eq_false_iff_eq]; omega
      by_cases hsB : B.s.length = 2
      · have e2 : ((B.s.length : Int) != 2) = false := by rw [bne_eq_false_iff_eq]; omega
        have hin := inner_any f g _ _ A B w2 HB2.out.araA HB2.out.araB (by have := HG.out; omega) (by have := HG.out; omega) HIA.out HIB.out
        unfold GaveAE at hin
        obtain ⟨C, hC⟩ : ∃ X, innA f g A B = X := ⟨_, rfl⟩
        obtain ⟨EI, hEI⟩ : ∃ X, innE f g A B = X := ⟨_, rfl⟩
        rw [hC, hEI] at hin
        have HIN := Lib.hid (And.intro hC hEI)
        have HS := Lib.hid (And.intro hsA hsB)
        clear hC hEI hsA hsB
        go_wp2_with fail
        refine hin.mono ?_
        clear hin
        rintro e9 w3 ⟨vc, rfl, hoc, hC3⟩
        obtain ⟨c1, n1, c2, n2, rfl, hcs, hce⟩ := ara_new hoc
        clear a0 a1 a2 b0 b1 b2
        replace HB2 := Lib.hid (HB2.out.fr hC3)
        replace HC := Lib.hid (HC.out.tr hC3)
        have a0 := HB2.out.a0
        have a1 := HB2.out.a1
        have a2 := HB2.out.a2
        have b0 := HB2.out.b0
        have b1 := HB2.out.b1
        have b2 := HB2.out.b2
        by_cases hz : EI = 0
        · subst hz
          obtain ⟨m, L, n, hsA, hsB, hm, hL, hn, hmn, hal, hbl, hCA, hone⟩ := times_law HS.out.1 HS.out.2 HIN.out.2
          rw [HIN.out.1] at hCA
          have hCx := (Chg.refl (fun _ => False) w3).alloc (.cells #[.int .i64 C.k, .slice c1 C.s.length n1, .slice c2 C.e.length n2] 25)
          obtain ⟨d0, d1, d2⟩ := cell_two w3 (.int .i64 C.k) (.slice c1 C.s.length n1) (.slice c2 C.e.length n2) 25
          have HCL := Lib.hid (And.intro (hcs.ls.fr hCx) (hce.ls.fr hCx))
          have HCA := Lib.hid hCA
          have HONE := Lib.hid hone
          have HBD := Lib.hid (And.intro hm (And.intro hL (And.intro hn (And.intro hmn (And.intro hal hbl)))))
          clear hcs hce hoc hC3 hCA hone hm hL hn hmn hal hbl
          have HSS := Lib.hid (And.intro hsA hsB)
          clear hsA hsB
          obtain ⟨xc, hxc⟩ : ∃ X, w3.heap.size = X := ⟨_, rfl⟩
          obtain ⟨w4, hw4⟩ : ∃ X, w3.alloc (.cells #[.int .i64 C.k, .slice c1 C.s.length n1, .slice c2 C.e.length n2] 25) = X := ⟨_, rfl⟩
          rw [hxc] at d0 d1 d2
          rw [hw4] at d0 d1 d2 hCx
          rw [hw4] at HCL
          have HXC := Lib.hid hxc
          have HW4 := Lib.hid hw4
          clear hxc hw4
          go_upto_region 7 with (fail)
          rw [HXC.out, HW4.out]
          clear HXC HW4
          clear a0 a1 a2 b0 b1 b2
          replace HB2 := Lib.hid (HB2.out.fr hCx)
          replace HC := Lib.hid (HC.out.tr hCx)
          have a0 := HB2.out.a0
          have a1 := HB2.out.a1
          have a2 := HB2.out.a2
          have b0 := HB2.out.b0
          have b1 := HB2.out.b1
          have b2 := HB2.out.b2
          clear hCx
          obtain ⟨ba, oa, qa, ea1, p0⟩ := HB2.out.ls.1.at (j := 0) (by rw [HS.out.1]; decide)
          injection ea1 with ea1 ea2 ea3
          subst ea1
          clear ea2 ea3
          obtain ⟨ba2, oa2, qa2, ea1, p1⟩ := HB2.out.ls.1.at (j := 1) (by rw [HS.out.1]; decide)
          injection ea1 with ea1 ea2 ea3
          injection ea1 with ea1
          injection ea1 with ea4 ea5
          subst ea4
          subst ea5
          clear ea2 ea3
          obtain ⟨bb, ob, qb, eb1, q0⟩ := HB2.out.ls.2.2.1.at (j := 0) (by rw [HS.out.2]; decide)
          injection eb1 with eb1 eb2 eb3
          subst eb1
          clear eb2 eb3
          obtain ⟨bb2, ob2, qb2, eb1, q1⟩ := HB2.out.ls.2.2.1.at (j := 1) (by rw [HS.out.2]; decide)
          injection eb1 with eb1 eb2 eb3
          injection eb1 with eb1
          injection eb1 with eb4 eb5
          subst eb4
          subst eb5
          clear eb2 eb3
          simp only [HSS.out.1, HSS.out.2, List.getElem_cons_zero, List.getElem_cons_succ, Nat.add_zero] at p0 p1 q0 q1
          have s0 : (0 : Int) < (A.s.length : Int) := by have := HS.out; omega
          have s1 : (1 : Int) < (A.s.length : Int) := by have := HS.out; omega
          have s2 : (0 : Int) < (B.s.length : Int) := by have := HS.out; omega
          have s3 : (1 : Int) < (B.s.length : Int) := by have := HS.out; omega
          have s4 : 0 < A.s.length := by have := HS.out; omega
          have s5 : 0 < B.s.length := by have := HS.out; omega
          have s6 : 1 < A.s.length := by have := HS.out; omega
          have s7 : 1 < B.s.length := by have := HS.out; omega
          clear e1 e2
          go_region
          have eL : ((L : Int) != (L : Int)) = false := by simp
          have hsh := r11shapes_any _ _ C.s [(m : Int), (n : Int)] (w4.drew.alloc (.cells #[.int .i64 m, .int .i64 n] 3)) (HCL.out.1.fr ((Chg.refl _ w4).drew.alloc _)) (own_lit w4.drew 3 [(m : Int), (n : Int)] 2 rfl #[.int .i64 m, .int .i64 n] rfl (by simp)).ls (by rw [HCA.out]; simp)
          unfold GaveBo at hsh
          rw [decide_eq_true (show C.s = [(m : Int), (n : Int)] by rw [HCA.out])] at hsh
          have hCy := (Chg.refl (fun _ => False) w4).drew.alloc (.cells #[.int .i64 m, .int .i64 n] 3)
          go_wp2_with fail
          refine hsh.mono ?_
          clear hsh p0 p1 q0 q1 s0 s1 s2 s3 s4 s5 s6 s7
          rintro e9 w5 ⟨rfl, hC5⟩
          replace hC5 := hCy.tr hC5
          clear hCy
          clear a0 a1 a2 b0 b1 b2
          replace HB2 := Lib.hid (HB2.out.fr hC5)
          replace HC := Lib.hid (HC.out.tr hC5)
          have a0 := HB2.out.a0
          have a1 := HB2.out.a1
          have a2 := HB2.out.a2
          have b0 := HB2.out.b0
          have b1 := HB2.out.b1
          have b2 := HB2.out.b2
          replace d2 := hC5.cell d2 id
          replace HCL := Lib.hid (HCL.out.2.fr hC5)
          clear d0 d1 hC5
          go_wp2
          go_loopw [15] (fun v wr => ∃ i : Nat, i ≤ m ∧ v = .int .i64 i ∧ Chg (fun _ => False) w5 wr) (fun v _ => m - (intOf v).toNat)
          case atStart => exact ⟨0, Nat.zero_le _, rfl, Chg.refl _ _⟩
          case round =>
           as_aux_lemma =>
            obtain ⟨i, hi, rfl, hCr⟩ := hrel
            obtain ⟨wo, rfl⟩ : ∃ wo : World, wo = wr := ⟨_, rfl⟩
            have HCR := Lib.hid hCr
            clear a0 a1 a2 b0 b1 b2
            replace HB2 := Lib.hid (HB2.out.fr hCr)
            replace HC := Lib.hid (HC.out.tr hCr)
            have a0 := HB2.out.a0
            have a1 := HB2.out.a1
            have a2 := HB2.out.a2
            have b0 := HB2.out.b0
            have b1 := HB2.out.b1
            have b2 := HB2.out.b2
            replace d2 := hCr.cell d2 id
            replace HCL := Lib.hid (HCL.out.fr hCr)
            clear hCr
            by_cases hlt : i < m
            · have HLT := Lib.hid hlt
              have hd1 : decide (i < m) = true := decide_eq_true hlt
              clear hlt hi
              go_wp2
              go_loopw [16] (fun v wr => ∃ k : Nat, k ≤ n ∧ v = .int .i64 k ∧ Chg (fun _ => False) wo wr) (fun v _ => n - (intOf v).toNat)
              case atStart => exact ⟨0, Nat.zero_le _, rfl, Chg.refl _ _⟩
              case round =>
               as_aux_lemma =>
                obtain ⟨k, hk, rfl, hCr⟩ := hrel
                obtain ⟨wk, rfl⟩ : ∃ wk : World, wk = wr := ⟨_, rfl⟩
                have HCK := Lib.hid hCr
                clear a0 a1 a2 b0 b1 b2
                replace HB2 := Lib.hid (HB2.out.fr hCr)
                replace HC := Lib.hid (HC.out.tr hCr)
                have a0 := HB2.out.a0
                have a1 := HB2.out.a1
                have a2 := HB2.out.a2
                have b0 := HB2.out.b0
                have b1 := HB2.out.b1
                have b2 := HB2.out.b2
                replace d2 := hCr.cell d2 id
                replace HCL := Lib.hid (HCL.out.fr hCr)
                clear hCr
                by_cases hlt : k < n
                · have HLK := Lib.hid hlt
                  have hd2 : decide (k < n) = true := decide_eq_true hlt
                  clear hlt hk
                  have hkw : IntKind.i64.wrap ((i : Int) + 1) = (i : Int) + 1 := IntWalk.i64_in _ (by have := HLT.out; have := HBD.out; omega)
                  obtain ⟨r0, r1, hr0, hr1, hrl, hr01, hr2, m1, m2⟩ := row_facts HLT.out HBD.out.2.2.2.2.1 (by have := HG.out; omega)
                  obtain ⟨ax, cx, hls, hrun, _⟩ := HB2.out.ls.2.1.cut r0 r1 L hr01 hrl hr2
                  rw [← hr0, ← hr1] at hls
                  have HROW := Lib.hid (show (i + 1) * L ≤ A.e.length by rw [hr1]; exact hrl)
                  have HLX := Lib.hid (show Ls wk (.slice ax L cx) (rowL A.e i L) from hls)
                  clear hls hr0 hr1 hrl hr01 hr2
                  go_wp2
                  obtain ⟨X, hX⟩ : ∃ X : Ar, X = ⟨A.k, [(L : Int)], rowL A.e i L⟩ := ⟨_, rfl⟩
                  have gA : W.heap.size < wk.heap.size := cell_lt a0
                  have gB : W.heap.size + 1 < wk.heap.size := cell_lt b0
                  go_cut [17] (fun s17 wx => ∃ x, s17 = .pointer (some ⟨x, 0, none⟩) ∧ BoxA wx x X ∧ Chg (fun _ => False) wk wx)
                  case first =>
                   as_aux_lemma =>
                    go_region
                    all_goals go_wp2
                    all_goals go_meet
                    all_goals rw [hX]
                    · exact ⟨_, rfl, box_rb _ _ _ _ _ HLX.out (rowL_length HROW.out) _ _, (((Chg.refl _ wk).alloc _).alloc _).drew⟩
                    · exact ⟨_, rfl, box_br _ _ _ _ _ HLX.out (rowL_length HROW.out) _ _, (((Chg.refl _ wk).alloc _).alloc _).drew⟩
                  case rest =>
                   as_aux_lemma =>
                    obtain ⟨x17, rfl, hX17, hCx⟩ := hcut
                    clear gA gB hrun m1 m2 hkw
                    clear a0 a1 a2 b0 b1 b2
                    replace HB2 := Lib.hid (HB2.out.fr hCx)
                    replace HC := Lib.hid (HC.out.tr hCx)
                    have a0 := HB2.out.a0
                    have a1 := HB2.out.a1
                    have a2 := HB2.out.a2
                    have b0 := HB2.out.b0
                    have b1 := HB2.out.b1
                    have b2 := HB2.out.b2
                    replace d2 := hCx.cell d2 id
                    replace HCL := Lib.hid (HCL.out.fr hCx)
                    have HX17 := Lib.hid hX17
                    have HCX := Lib.hid (HCK.out.tr hCx)
                    clear hX17 hCx HLX
                    obtain ⟨we, hwe⟩ : ∃ X, wc.alloc (.cells #[.int .i64 L] 3) = X := ⟨_, rfl⟩
                    have hze : wc.heap.size + 1 = we.heap.size := by rw [← hwe]; simp
                    have hre := own_lit wc 3 [(L : Int)] 1 rfl #[.int .i64 L] rfl (by simp)
                    have hCe := (Chg.refl (fun _ => False) wc).alloc (.cells #[.int .i64 L] 3)
                    rw [hwe] at hre hCe
                    have HRE := Lib.hid hre.ls
                    have hM0 : Clk B.k we (we.alloc (.cells #[.int .i64 B.k, .slice (some ⟨wc.heap.size, 0, none⟩) 1 1, .slice none 0 0] 25)) we.heap.size (we.heap.size + 1) (.slice (some ⟨wc.heap.size, 0, none⟩) 1 1) (.slice none 0 0) [] :=
                      ⟨Bx.new we _ _ _ _, Own.nil _ _ _, (Chg.refl _ _).alloc _, Nat.le_refl _, by omega⟩
                    have HCE := Lib.hid hCe
                    have HWE := Lib.hid hwe
                    have HZE := Lib.hid hze
                    clear hre hCe hwe hze
                    go_wp2
                    rw [HWE.out, HZE.out]
                    obtain ⟨wy, hwy⟩ : ∃ X, we.alloc (.cells #[.int .i64 B.k, .slice (some ⟨wc.heap.size, 0, none⟩) 1 1, .slice none 0 0] 25) = X := ⟨_, rfl⟩
                    rw [hwy] at hM0 ⊢
                    have HM0 := Lib.hid hM0
                    obtain ⟨xr, hxr⟩ : ∃ x, wc.heap.size = x := ⟨_, rfl⟩
                    rw [hxr] at HM0 HRE
                    obtain ⟨xy, hxy⟩ : ∃ x, we.heap.size = x := ⟨_, rfl⟩
                    rw [hxy] at HM0 ⊢
                    obtain ⟨i0, hi, hz0, hz1, hz2⟩ := info_parts info_long
                    clear hM0 HWE HZE hwy hxr hxy
                    go_loopw [19] (fun v wr => ∃ j : Nat, j ≤ L ∧ v = .int .i64 j ∧ ∃ u, Clk B.k we wr xy (xy + 1) (.slice (some ⟨xr, 0, none⟩) 1 1) u (colL B.e n k j)) (fun v _ => L - (intOf v).toNat)
                    case atStart => exact ⟨0, Nat.zero_le _, rfl, _, HM0.out⟩
                    case round =>
                     as_aux_lemma =>
                      obtain ⟨j, hj, rfl, u, hM⟩ := hrel
                      have hCj := HCE.out.tr hM.ch
                      have HCJ := Lib.hid hCj
                      clear a0 a1 a2 b0 b1 b2
                      replace HB2 := Lib.hid (HB2.out.fr hCj)
                      replace HC := Lib.hid (HC.out.tr hCj)
                      have a0 := HB2.out.a0
                      have a1 := HB2.out.a1
                      have a2 := HB2.out.a2
                      have b0 := HB2.out.b0
                      have b1 := HB2.out.b1
                      have b2 := HB2.out.b2
                      replace d2 := hCj.cell d2 id
                      replace HCL := Lib.hid (HCL.out.fr hCj)
                      clear hCj
                      obtain ⟨xs, hxs⟩ : ∃ xs, colL B.e n k j = xs := ⟨_, rfl⟩
                      have hxl : xs.length = j := by rw [← hxs, colL_length]
                      rw [hxs] at hM
                      obtain ⟨al, Ll, cl, rfl, hL⟩ := own_nm hM.el
                      by_cases hlt : j < L
                      · as_aux_lemma =>
                          have HLJ := Lib.hid hlt
                          have hd3 : decide (j < L) = true := decide_eq_true hlt
                          have hkj : IntKind.i64.wrap ((j : Int) + 1) = (j : Int) + 1 := IntWalk.i64_in _ (by have := HBD.out; omega)
                          have HXL := Lib.hid hxl
                          have HXS := Lib.hid (show colL B.e n k (j + 1) = xs ++ [B.e.getD (j * n + k) 0] by rw [colL_succ, hxs])
                          obtain ⟨r0, q, hq, hqb, m1, m2⟩ := at_facts HLJ.out HLK.out HBD.out.2.2.2.2.2 (by have := HG.out; omega)
                          rw [hq] at HXS
                          obtain ⟨xb, ob, cxb, eb1, hy⟩ := HB2.out.ls.2.2.2.at hqb
                          injection eb1 with eb1 eb2 eb3
                          subst eb1
                          clear eb2 eb3
                          rw [List.getD_eq_getElem?_getD, List.getElem?_eq_getElem hqb, Option.getD_some] at HXS
                          generalize B.e[q] = y at *
                          have q0 : (0 : Int) ≤ (q : Int) := Int.natCast_nonneg q
                          have q1 : (q : Int) < (B.e.length : Int) := Int.ofNat_lt.2 hqb
                          have c2 := hM.bx.c2
                          have f2 := hM.bx.f2
                          have hgw : xy < wr.heap.size := hM.bx.lt
                          have gB : W.heap.size + 1 < wr.heap.size := cell_lt b0
                          have gX : xb < wr.heap.size := cell_lt hy
                          have HB := Lib.hid (show xs.length + 1 ≤ maxLen ∧ (xs.length + 1) * 8 ≤ 140737488355328 by rw [hxl]; have := HBD.out.2.1; unfold maxLen; omega)
                          have HL := Lib.hid (show xy + 1 ≤ (wr.alloc (.cells #[.int .i64 y] 2)).drew.heap.size by have := hM.bx.lt; simp; omega)
                          have HM := Lib.hid hM
                          clear hM hlt hj hxl hxs hq hqb
                          go_wp2
                          go_region_law (refine step_append_own (by rfl) (.tmp 118) (.tmp 128) 23 (by rfl) (xy + 1) 2 i0 (.int .i64 0) 1 8 Try.underlying23 hi hz0 hz1 hz2 rfl (by decide) (.slice al Ll cl) xs.length (xs.map I) (by simp [Act.eval]) (HM.out.el.alloc _) (some ⟨wr.heap.size, 0, none⟩) 1 1 [.int .i64 y] (by simp [Act.eval]) rfl (fun j u hu => ⟨_, rfl, cell_one_new wr _ _ j u hu⟩) (by simp [Value.oneCell']) HB.out.1 HB.out.2 HL.out ?_; intro v2 w4 hown2 hg2 _ hO2; obtain ⟨⟨hd1, hd2⟩, hM4⟩ := HM.out.more (((Chg.refl _ wr).alloc _).drew) hg2 hown2 rfl; obtain ⟨al2, L2, cl2, rfl, hL2⟩ := own_nm hM4.el)
                          all_goals
                            clear m1 m2 c2 f2
                            go_wp2
                            go_roundw
                            case rel => exact ⟨j + 1, HLJ.out, by go_num, _, by rw [HXS.out]; exact hM4⟩
                            case measure => exact fit_meas j L HLJ.out
                      · as_aux_lemma =>
                          obtain rfl : L = j := by omega
                          have hd3 : decide (L < L) = false := decide_eq_false hlt
                          obtain ⟨Y, hY⟩ : ∃ Y : Ar, Y = ⟨B.k, [(L : Int)], colL B.e n k L⟩ := ⟨_, rfl⟩
                          obtain ⟨z1, z2⟩ := HONE.out i k HLT.out HLK.out X Y hX hY
                          obtain ⟨sx, csx, ex, cex, ⟨g0, g1, g2⟩, hAX⟩ := HX17.out.fr HCJ.out
                          have c0 := hM.bx.c0
                          have c1 := hM.bx.c1
                          have c2 := hM.bx.c2
                          have hAY : Ara wr (.agg #[.int .i64 B.k, .slice (some ⟨xr, 0, none⟩) 1 1, .slice al Ll cl]) Y := by
                            rw [hY]
                            exact ⟨_, _, rfl, HRE.out.fr hM.ch, by rw [hxs]; exact hM.el.ls⟩
                          have hin := inner_any f g _ _ X Y wr hAX hAY (by rw [hX]; show (rowL A.e i L).length ≤ 1000000; unfold rowL; rw [List.length_drop, List.length_take]; have := HG.out; omega) (by rw [hY]; show (colL B.e n k L).length ≤ 1000000; rw [colL_length]; have := HBD.out; omega) (by rw [hX]; exact rowL_In HIA.out) (by rw [hY]; exact col_In HIB.out)
                          rw [z1, z2] at hin
                          unfold GaveAE at hin
                          have hzc : ∃ hq : i * n + k < C.e.length, C.e[i * n + k] = (inP f (mixP g A.k B.k) A B n L (i * n + k)).1 := by
                            have hlt2 : i * n + k < m * n := by
                              have : (i + 1) * n ≤ m * n := Nat.mul_le_mul_right _ HLT.out
                              rw [Nat.add_mul] at this
                              have := HLK.out
                              omega
                            have h9 : C.e[i * n + k]? = some (inP f (mixP g A.k B.k) A B n L (i * n + k)).1 := by rw [HCA.out]; simp [tabV, tabP, hlt2]
                            exact List.getElem?_eq_some_iff.1 h9
                          generalize (inP f (mixP g A.k B.k) A B n L (i * n + k)).1 = z at *
                          obtain ⟨r0, q, hq, hqb, m1, m2⟩ := at_facts HLT.out HLK.out (show m * n = m * n from rfl) (by have := HBD.out; omega)
                          obtain ⟨hqc, hqz⟩ := hzc
                          have hqz2 : ∃ hq : q < C.e.length, C.e[q] = z := by
                            subst hq
                            exact ⟨hqc, hqz⟩
                          obtain ⟨hqc2, hqz3⟩ := hqz2
                          obtain ⟨bc, oc, qc, ec, hcv⟩ := HCL.out.at hqc2
                          injection ec with ec ec2 ec3
                          subst ec
                          clear ec2 ec3
                          rw [hqz3] at hcv
                          have q0 : (0 : Int) ≤ (q : Int) := Int.natCast_nonneg q
                          have q1 : (q : Int) < (C.e.length : Int) := Int.ofNat_lt.2 hqc2
                          obtain ⟨Z, hZ⟩ : ∃ Z : Ar, (⟨1, [], [z]⟩ : Ar) = Z := ⟨_, rfl⟩
                          rw [hZ] at hin
                          have HZ := Lib.hid hZ
                          have HCH := Lib.hid (HCX.out.tr HCJ.out)
                          clear hM hZ hlt hj hxs hxl hX hY z1 z2 hAX hAY hq hqb hqc hqz hqc2 hqz3 a0 a1 a2 b0 b1 b2
                          go_wp2_with fail
                          refine hin.mono ?_
                          clear hin
                          rintro e9 wz ⟨vz, rfl, hoz, hCz⟩
                          obtain ⟨t1, k1, t2, k2, rfl, _, _⟩ := ara_new hoz
                          have hb20 := (Chg.refl (fun _ => False) wz).alloc (.cells #[.int .i64 Z.k, .slice t1 Z.s.length k1, .slice t2 Z.e.length k2] 25)
                          obtain ⟨h0, h1, h2⟩ := cell_two wz (.int .i64 Z.k) (.slice t1 Z.s.length k1) (.slice t2 Z.e.length k2) 25
                          replace d2 := (hCz.tr hb20).cell d2 id
                          replace hcv := (hCz.tr hb20).cell hcv id
                          have HZA := Lib.hid (hoz.ara.fr hb20)
                          replace HCH := Lib.hid (HCH.out.tr (hCz.tr hb20))
                          clear hoz hCz hb20
                          have hkk : IntKind.i64.wrap ((k : Int) + 1) = (k : Int) + 1 := IntWalk.i64_in _ (by clear m1 m2; have := HLK.out; have := HBD.out; omega)
                          have HKK := Lib.hid hkk
                          clear hkk
                          go_wp2
                          obtain ⟨w9, hw9⟩ : ∃ X, wz.alloc (.cells #[.int .i64 Z.k, .slice t1 Z.s.length k1, .slice t2 Z.e.length k2] 25) = X := ⟨_, rfl⟩
                          obtain ⟨x20, hx20⟩ : ∃ X, wz.heap.size = X := ⟨_, rfl⟩
                          rw [hw9] at h0 h1 h2 d2 hcv ⊢
                          rw [hw9] at HZA HCH
                          rw [hx20] at h0 h1 h2 ⊢
                          have H1 := Lib.hid (show ∀ w', Chg (fun _ => False) w9 w' → Calls Try.prog 40 #[.int .i64 z] w' (GaveA w' Z) from fun w' _ => by
                            have h5 := ascalar_any z w'
                            rw [HZ.out] at h5
                            exact h5)
                          have H2 := Lib.hid (show ∀ w' v, Chg (fun _ => False) w9 w' → Ara w' v Z → Calls Try.prog 39 #[.agg #[.int .i64 Z.k, .slice t1 Z.s.length k1, .slice t2 Z.e.length k2], .int .i64 0, v] w' (GaveBo w' true) from fun w' v h hv => by
                            have h5 := is_any _ _ Z Z 0 w' (HZA.out.fr h) hv (by rw [← HZ.out]; simp) (by rw [← HZ.out]; simp)
                            rw [isB_iff.2 ⟨rfl, rfl⟩] at h5
                            exact h5)
                          have KP := Lib.hid (show ∀ w', Chg (fun _ => False) w9 w' → (Chg (fun _ => False) w9 w' ∧ w'.cell? ⟨x20, 0, none⟩ = some (.int .i64 Z.k) ∧ w'.cell? ⟨x20, 1, none⟩ = some (.slice t1 Z.s.length k1) ∧ w'.cell? ⟨x20, 2, none⟩ = some (.slice t2 Z.e.length k2) ∧ w'.cell? ⟨xc, 2, none⟩ = some (.slice (some ⟨bc, oc, none⟩) C.e.length n2) ∧ w'.cell? ⟨bc, oc + q, none⟩ = some (.int .i64 z)) from fun w' h => ⟨h, h.cell h0 id, h.cell h1 id, h.cell h2 id, h.cell d2 id, h.cell hcv id⟩)
                          clear hw9 hx20 h0 h1 h2 d2 hcv
                          go_region_held3 (fun w' => (Chg (fun _ => False) w9 w' ∧ w'.cell? ⟨x20, 0, none⟩ = some (.int .i64 Z.k) ∧ w'.cell? ⟨x20, 1, none⟩ = some (.slice t1 Z.s.length k1) ∧ w'.cell? ⟨x20, 2, none⟩ = some (.slice t2 Z.e.length k2) ∧ w'.cell? ⟨xc, 2, none⟩ = some (.slice (some ⟨bc, oc, none⟩) C.e.length n2) ∧ w'.cell? ⟨bc, oc + q, none⟩ = some (.int .i64 z))) ((refine KP.out _ ?_; repeat (first | (with_reducible exact Chg.refl _ _) | (with_reducible assumption) | (with_reducible refine chg_drew' ?_) | (with_reducible refine Chg.tr ?_ hq2) | (with_reducible refine Chg.tr ?_ hq1)))) (first
                            | (go_at_call 40
                               (with_reducible refine (H1.out _ ?_).mono ?_)
                               · exact (Chg.refl _ _).drew
                               rintro e9 q1 ⟨u1, rfl, hu1, hq1⟩
                               have hu1a := Lib.hid hu1.ara)
                            | (go_at_call 39
                               with_reducible refine (H2.out _ _ ?_ ?_).mono ?_
                               · repeat (first | (with_reducible exact Chg.refl _ _) | (with_reducible assumption) | (with_reducible refine chg_drew' ?_) | (with_reducible refine Chg.tr ?_ hq1))
                               · exact hu1a.out
                               rintro e9 q2 ⟨rfl, hq2⟩))
                          all_goals
                            rename_i hHd
                            have HHD := Lib.hid hHd.1
                            have hkk := HKK.out
                            clear hHd m1 m2
                            go_wp2
                            go_roundw
                            case rel => exact ⟨k + 1, HLK.out, congrArg (Value.int IntKind.i64) (Int.natCast_succ k).symm, HCH.out.tr HHD.out⟩
                            case measure => exact fit_meas k n HLK.out
                · have hd2 : decide (k < n) = false := decide_eq_false hlt
                  have hkw : IntKind.i64.wrap ((i : Int) + 1) = (i : Int) + 1 := IntWalk.i64_in _ (by have := HLT.out; have := HBD.out; omega)
                  clear hlt hk
                  go_wp2
                  go_roundw
                  case rel => exact ⟨i + 1, HLT.out, congrArg (Value.int IntKind.i64) (Int.natCast_succ i).symm, HCR.out.tr HCK.out⟩
                  case measure => exact fit_meas i _ HLT.out
            · have hd1 : decide (i < m) = false := decide_eq_false hlt
              clear hlt hi
              go_wp2
              go_ret
              exact ⟨rfl, HC.out⟩
        · have e3 : (EI != 0) = true := bne_iff_ne.2 hz
          clear hz hoc hcs hce hC3
          go_wp2
          go_ret
          exact ⟨rfl, HC.out.alloc _⟩
      · have e2 : ((B.s.length : Int) != 2) = true := by rw [bne_iff_ne]; omega
        clear hsA hsB
        go_wp2
        go_ret
        exact ⟨rfl, HC.out⟩
    · have e1 : ((A.s.length : Int) != 2) = true := by rw [bne_iff_ne]; omega
      clear hsA
      go_wp2
      go_ret
      exact ⟨rfl, HC.out⟩
end Go.Proofs.Ytjmlekdgipinfaa
