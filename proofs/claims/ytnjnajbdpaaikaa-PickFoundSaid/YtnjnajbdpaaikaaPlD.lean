/- pick: index' function, walked. -/
import Derived.Test.YtnjnajbdpaaikaaPlC
namespace Go.Proofs.Ytnjnajbdpaaikaa
open Go.RowKit Go.Shelf
attribute [local go_sem] Oper.semAt_some

theorem ix_leave {w W : World} {D : Nat} {p : Int} {t : Array Value} (hK : W.heap[D]? = some (.deferred (some []))) (hD : w.heap.size ≤ D) (h3 : t[3]?.getD undef = .int .i64 0) (h4 : t[4]?.getD undef = .int .i64 p) (hC : Chg (fun _ => False) w W) :
    bodyPostM Fence.wide 8 Try.prog Try.f70 (GaveII w 0 p) .ret { tmps := t, defers := [{ target := .collected D, args := #[] }] } W := by
  refine leave_mark (v := .tuple #[.int .i64 0, .int .i64 p]) hK ?_ ⟨rfl, hC.putObj (.inr hD) _⟩
  simp [results, Try.f70, go_sem, h3, h4]
theorem Ls.chg_lt {S : Nat → Prop} {w w' : World} {v : Value} {xs : List Int} (h : Ls w v xs) (hC : Chg S w w') (hS : ∀ k, k < w.heap.size → ¬ S k) : Ls w' v xs :=
  ⟨Sl.form h, fun j u hu => by obtain ⟨b, o, c, e, hc⟩ := Sl.cells h j u hu; exact ⟨b, o, c, e, hC.cell hc (hS b (cell_lt hc))⟩⟩
theorem ko_chg {W W' : World} (h : Chg (fun _ => False) W W') : KeepsOthers W W' := ⟨h.size, fun k _ hk _ => (h.block k (Array.getElem?_eq_some_iff.1 hk).1 id).trans hk⟩
theorem p26_set {a b g i : Nat} {w w' : World} {u : Value} (hg : g = a ∨ g = b) (h : Chg (fun q => q = a ∨ q = b) w w') : Chg (fun q => q = a ∨ q = b) w (w'.setCell ⟨g, i, none⟩ u) := h.setCell (p := ⟨g, i, none⟩) (.inl hg) u
/-- Behind the first region of a round. -/
def CutI (b5 : Nat) (P : Int) (W wc : World) : Prop := wc.cell? ⟨b5, 0, none⟩ = some (.int .i64 P) ∧ wc.frozen? ⟨b5, 0, none⟩ = false ∧ Chg (fun q => q = b5) W wc ∧ KeepsOthers W wc
theorem CutI.of {b5 : Nat} {P P' : Int} {W W4 : World} (h : Chg (fun _ => False) W W4) (c5 : W.cell? ⟨b5, 0, none⟩ = some (.int .i64 P)) (f5 : W.frozen? ⟨b5, 0, none⟩ = false) : CutI b5 P' W (W4.setCell ⟨b5, 0, none⟩ (.int .i64 P')) :=
  ⟨World.cell?_setCell_same' _ _ _ (by rw [h.cell c5 id]; rfl), by rw [World.frozen?_setCell]; exact h.frozen c5 f5 id, pchg_set (Chg.mono h (fun _ _ h => h.elim)), (ko_chg h).trans (KeepsOthers.setCell _ _ _)⟩
theorem colI_next {b2 b5 b6 : Nat} {L : List Px} {n0 q P' U N B : Int} {w1 W wc W3 : World} {pre : List (Nat × PxV)} {x : Nat × PxV} (hsn : stR L n0 (pre ++ [x]) = (q, P', U)) (h0 : ∀ x ∈ pre, x.1 ≠ 0) (hx : x.1 ≠ 0)
    (hbd : (0 ≤ q ∧ q ≤ 4096) ∧ (0 ≤ U ∧ U ≤ 4096 ^ (pre.length + 1)) ∧ 0 ≤ P' ∧ P' ≤ ((pre.length + 1 : Nat) : Int) * 281474976710656) (hcut : CutI b5 P' W wc) (h3 : Chg (fun _ => False) wc W3)
    (c2 : W.cell? ⟨b2, 0, none⟩ = some (.int .i64 N)) (f2 : W.frozen? ⟨b2, 0, none⟩ = false) (c6 : W.cell? ⟨b6, 0, none⟩ = some (.int .i64 B)) (f6 : W.frozen? ⟨b6, 0, none⟩ = false) (n25 : b2 ≠ b5) (n26 : b2 ≠ b6) (n56 : b5 ≠ b6) (hC : Chg (fun q => q = b2 ∨ q = b5 ∨ q = b6) w1 W) :
    ColI b2 b5 b6 L n0 w1 (pre ++ [x]) ((W3.setCell ⟨b2, 0, none⟩ (.int .i64 q)).setCell ⟨b6, 0, none⟩ (.int .i64 U)) ∧ Chg (fun q => q = b2 ∨ q = b5 ∨ q = b6) W ((W3.setCell ⟨b2, 0, none⟩ (.int .i64 q)).setCell ⟨b6, 0, none⟩ (.int .i64 U)) ∧ KeepsOthers W ((W3.setCell ⟨b2, 0, none⟩ (.int .i64 q)).setCell ⟨b6, 0, none⟩ (.int .i64 U)) := by
  obtain ⟨d5, e5, hCc, hKO⟩ := hcut
  have a2 := h3.cell (hCc.cell c2 n25) id
  have b2' := h3.frozen (hCc.cell c2 n25) (hCc.frozen c2 f2 n25) id
  have a6 := h3.cell (hCc.cell c6 (fun e => n56 e.symm)) id
  have b6' := h3.frozen (hCc.cell c6 (fun e => n56 e.symm)) (hCc.frozen c6 f6 (fun e => n56 e.symm)) id
  have a5 := h3.cell d5 id
  have b5' := h3.frozen d5 e5 id
  have X1 : Chg (fun q => q = b2 ∨ q = b5 ∨ q = b6) W W3 := hCc.trans h3 (fun _ _ h => .inr (.inl h)) (fun _ _ h => h.elim)
  have X := (X1.setCell (p := ⟨b2, 0, none⟩) (.inl (.inl rfl)) (.int .i64 q)).setCell (p := ⟨b6, 0, none⟩) (.inl (.inr (.inr rfl))) (.int .i64 U)
  refine ⟨⟨fun y hy => ?_, ?_, ?_, hC.trans X (fun _ _ h => h) (fun _ _ h => h)⟩, X, ((hKO.trans (ko_chg h3)).trans (KeepsOthers.setCell _ _ _)).trans (KeepsOthers.setCell _ _ _)⟩
  · rcases List.mem_append.1 hy with hy | hy
    · exact h0 y hy
    · rw [List.mem_singleton.1 hy]; exact hx
  · rw [hsn, List.length_append]
    exact hbd
  · rw [hsn]
    have m26 : (⟨b6, 0, none⟩ : Addr) ≠ ⟨b2, 0, none⟩ := fun e => by injection e with e; exact n26 e.symm
    have m65 : (⟨b6, 0, none⟩ : Addr) ≠ ⟨b5, 0, none⟩ := fun e => by injection e with e; exact n56 e.symm
    have m25 : (⟨b2, 0, none⟩ : Addr) ≠ ⟨b5, 0, none⟩ := fun e => by injection e with e; exact n25 e
    refine ⟨⟨?_, by rw [World.frozen?_setCell, World.frozen?_setCell]; exact b2'⟩, ⟨?_, by rw [World.frozen?_setCell, World.frozen?_setCell]; exact b5'⟩, World.cell?_setCell_same' _ _ _ (by rw [World.cell?_setCell_other _ _ _ _ (fun e => m26 e.symm), a6]; rfl), by rw [World.frozen?_setCell, World.frozen?_setCell]; exact b6'⟩
    · rw [World.cell?_setCell_other _ _ _ _ m26]
      exact World.cell?_setCell_same' _ _ _ (by rw [a2]; rfl)
    · rw [World.cell?_setCell_other _ _ _ _ m65, World.cell?_setCell_other _ _ _ _ m25]
      exact a5
set_option maxRecDepth 100000 in
set_option maxHeartbeats 4000000 in
theorem ixw3_any (b i : Nat) (v : Value) (L : List Px) (w : World) (hb : w.cell? ⟨b, 0, none⟩ = some v) (hS : Pxs w v L) (hl : L.length ≤ 4) (hok : ∀ y ∈ L, PxOk y) (hi : (i : Int) ≤ 4096) : Calls Try.prog 70 (#[.int .i64 (i : Int)] ++ #[.pointer (some ⟨b, 0, none⟩)]) w (GaveII w 0 (ixR L.reverse i 0 1)) := by
  obtain ⟨VS, hVS, hVv⟩ := pxs_vals hS
  obtain ⟨ao, c, rfl⟩ := hS.form
  obtain ⟨n, hn⟩ : ∃ n, L.length = n := ⟨_, rfl⟩
  rw [hn] at hb hVS hl
  have HN := Lib.hid hn
  have hwh := stR_whole (L := L) (VS := VS) (by rw [hVS.1, hn]) (i : Int)
  rw [← hwh]
  have hOk : ∀ t, t < n → OkI w L (bxA VS t) := fun t ht => by
    have hlt : n - 1 - t < L.length := by omega
    obtain ⟨u, hu, hp⟩ := hVv (n - 1 - t) hlt
    refine ⟨L[n - 1 - t], ?_, ?_, hok _ (List.getElem_mem hlt)⟩
    · show L[VS.length - 1 - t]? = _
      rw [hVS.1]
      exact List.getElem?_eq_getElem hlt
    · show PxVal w (VS.getD (VS.length - 1 - t) default).val _
      rw [hVS.1]
      simp only [List.getD, hu, Option.getD_some]
      exact hp
  obtain ⟨v1, hv1⟩ : ∃ v1, w.alloc (.cells #[.int .i64 (i : Int)] 3) = v1 := ⟨_, rfl⟩
  obtain ⟨v2, hv2⟩ : ∃ v2, v1.alloc (.cells #[.int .i64 0] 3) = v2 := ⟨_, rfl⟩
  obtain ⟨v3, hv3⟩ : ∃ v3, v2.alloc (.cells #[.int .i64 1] 3) = v3 := ⟨_, rfl⟩
  obtain ⟨v4, hv4⟩ : ∃ v4, v3.alloc (.cells #[.slice ao n c] 97) = v4 := ⟨_, rfl⟩
  have s1 : v1.heap.size = w.heap.size + 1 := by rw [← hv1, World.size_alloc]
  have s2 : v2.heap.size = w.heap.size + 1 + 1 := by rw [← hv2, World.size_alloc, s1]
  have s3 : v3.heap.size = w.heap.size + 1 + 1 + 1 := by rw [← hv3, World.size_alloc, s2]
  have g1 : Chg (fun _ => False) w v1 := by rw [← hv1]; exact (Chg.refl _ _).alloc _
  have g2 : Chg (fun _ => False) v1 v2 := by rw [← hv2]; exact (Chg.refl _ _).alloc _
  have g3 : Chg (fun _ => False) v2 v3 := by rw [← hv3]; exact (Chg.refl _ _).alloc _
  have g4 : Chg (fun _ => False) v3 v4 := by rw [← hv4]; exact (Chg.refl _ _).alloc _
  have c2 := new_cell w #[.int .i64 (i : Int)] 3 (i := 0) (v := .int .i64 (i : Int)) rfl
  have f2 := new_frozen w #[.int .i64 (i : Int)] 3 0
  have c5 := new_cell v1 #[.int .i64 0] 3 (i := 0) (v := .int .i64 0) rfl
  have f5 := new_frozen v1 #[.int .i64 0] 3 0
  have c6 := new_cell v2 #[.int .i64 1] 3 (i := 0) (v := .int .i64 1) rfl
  have f6 := new_frozen v2 #[.int .i64 1] 3 0
  have c1 := new_cell v3 #[.slice ao n c] 97 (i := 0) (v := .slice ao n c) rfl
  rw [hv1] at c2 f2
  rw [hv2, s1] at c5 f5
  rw [hv3, s2] at c6 f6
  rw [hv4, s3] at c1
  replace f2 := (g2.tr (g3.tr g4)).frozen c2 f2 id
  replace c2 := (g2.tr (g3.tr g4)).cell c2 id
  replace f5 := (g3.tr g4).frozen c5 f5 id
  replace c5 := (g3.tr g4).cell c5 id
  replace f6 := g4.frozen c6 f6 id
  replace c6 := g4.cell c6 id
  have hax := axes_any ao n c v3
  rw [hv4, s3] at hax
  have hC04 := g1.tr (g2.tr (g3.tr g4))
  have hbl := cell_lt hb
  have HV := Lib.hid (And.intro hv1 (And.intro hv2 (And.intro hv3 hv4)))
  have hsq := axes_seq (w.heap.size + 1 + 1 + 1) w.heap.size (w.heap.size + 1) (w.heap.size + 1 + 1) n c ao VS (by omega) (OkI w L) hOk w v4 hC04 (by omega) (by omega) (by omega) (by omega) c1 hVS
  have HSQ := Lib.hid hsq
  have HC4 := Lib.hid hC04
  have HG3 := Lib.hid (g1.tr (g2.tr g3))
  have HVS := Lib.hid hVS
  have HS4 := Lib.hid (show v4.heap.size = w.heap.size + 1 + 1 + 1 + 1 by rw [← hv4, World.size_alloc, s3])
  have HI0 := Lib.hid (show ColI w.heap.size (w.heap.size + 1) (w.heap.size + 1 + 1) L (i : Int) v4 [] v4 from ⟨fun x hx => (by cases hx), ⟨⟨by show 0 ≤ (i : Int); omega, hi⟩, ⟨by show (0 : Int) ≤ 1; decide, by show (1 : Int) ≤ 4096 ^ 0; decide⟩, by show (0 : Int) ≤ 0; decide, by show (0 : Int) ≤ _; simp⟩, ⟨⟨c2, f2⟩, ⟨c5, f5⟩, c6, f6⟩, Chg.refl _ _⟩)
  clear hv1 hv2 hv3 hv4 s1 s2 s3 g1 g2 g3 g4 c2 f2 c5 f5 c6 f6 c1 hsq hC04 hVS hVv hS hOk hwh hok hn
  (refine calls_of_wp_marks Try.func70 rfl ?_; simp only [Try.ntmps70, List.size_toArray, List.length_cons, List.length_nil, Nat.reduceAdd, Nat.reduceSub, Array.replicate_succ, Array.replicate_zero, List.push_toArray, List.append_toArray, List.nil_append, List.cons_append])
  go_wp2_with fail
  go_step3
  go_wp2_with fail
  rw [HV.out.1, HV.out.2.1, HV.out.2.2.1]
  have hb3 := HG3.out.cell hb id
  go_step3
  go_wp2_with (go_at_call 71; refine hax.mono ?_; clear hax; rintro e9 w7 ⟨rfl, rfl⟩)
  clear hb3
  refine wp_rangeKp (gf := 95) (lb := #[.pointer (some ⟨w.heap.size + 1 + 1 + 1, 0, none⟩)]) rfl (enters_of Try.func95 (by kernel_rfl) rfl)
    (fun q h => h.elim) (fun q h => h.1) HSQ.out (fun _ => rfl)
    (ColI w.heap.size (w.heap.size + 1) (w.heap.size + 1 + 1) L (i : Int) w7) (StpI w.heap.size (w.heap.size + 1) (w.heap.size + 1 + 1) L (i : Int) w7)
    (ColI.own _ _ _ _ _ _ _ (Nat.le_refl _)) (fun c => StpI.own _ _ _ _ _ _ c _ (Nat.le_refl _)) (ColI.abides _ _ _ _ _ _) (fun c => StpI.abides _ _ _ _ _ _ c)
    (fun c pre W h k hk => h.2.2.2.block k hk.1 (fun e => by rcases e with e | e | e; exact hk.2.1 e; exact hk.2.2.1 e; exact hk.2.2.2 e)) HI0.out ?a1
    (fun x W => W.alloc (.cells #[.int .i64 x.2.l, .bool x.2.a, .slice x.2.sa x.2.m x.2.k] 102)) (fun _ W => World.grownBy_alloc W _ none)
    (fun p W => W.cell? ⟨p.2, 0, none⟩ = some (.int .i64 p.1.2.l) ∧ W.cell? ⟨p.2, 1, none⟩ = some (.bool p.1.2.a) ∧ W.cell? ⟨p.2, 2, none⟩ = some (.slice p.1.2.sa p.1.2.m p.1.2.k))
    (fun _ _ _ _ hs hg hr => ⟨cell_kept hs.1 hg (fun r e => (hr r e).2), cell_kept hs.2.1 hg (fun r e => (hr r e).2), cell_kept hs.2.2 hg (fun r e => (hr r e).2)⟩)
    (fun pre x W hI => ⟨new_cell W _ _ rfl, new_cell W _ _ rfl, new_cell W _ _ rfl⟩) ?assign ?body ?done ?stop
  case assign =>
    intro l x W K hK
    simp only [encX, PxV.val]
    gi_wp2
    generalize W.heap.size = m at hK ⊢
    exact hK
  case body =>
    rintro l pre ⟨j, y⟩ m W ⟨z, hz, hzv, hzo⟩ ⟨h0, ⟨⟨hN0, hN1⟩, ⟨hB0, hB1⟩, hP0, hP1⟩, ⟨⟨c2, f2⟩, ⟨c5, f5⟩, c6, f6⟩, hC⟩ ⟨m0, m1, m2⟩ hm hlen
    obtain ⟨yl, ya, ysa, ym, yk⟩ := y
    obtain ⟨ve, hve, hze⟩ := hzv
    simp only [PxV.val] at hve
    injection hve with hve
    injection hve with hve
    injection hve with e1 hve
    injection hve with e2 hve
    injection hve with e3 hve
    clear hve
    injection e1 with e0 e1
    injection e2 with e2
    clear e0
    subst e1 e2 e3
    simp only at hz
    replace m0 : W.cell? ⟨m, 0, none⟩ = some (.int .i64 z.l) := m0
    replace m1 : W.cell? ⟨m, 1, none⟩ = some (.bool z.all) := m1
    replace m2 : W.cell? ⟨m, 2, none⟩ = some (.slice ysa ym yk) := m2
    have hsn := stR_snoc L (i : Int) pre (j, ⟨z.l, z.all, ysa, ym, yk⟩)
    rw [show L.getD j noP = z by simp [List.getD, hz]] at hsn
    obtain ⟨⟨N, P, B⟩, hst⟩ : ∃ s, stR L (i : Int) pre = s := ⟨_, rfl⟩
    rw [hst] at hsn hN0 hN1 hB0 hB1 hP0 hP1 c2 c5 c6
    simp only at hN0 hN1 hB0 hB1 hP0 hP1 c2 c5 c6
    obtain ⟨⟨g1, g2⟩, ⟨g3, g4⟩, g5⟩ := hzo
    obtain ⟨mn, hmn⟩ : ∃ mn, mnP z = mn := ⟨_, rfl⟩
    have hr0 : 0 ≤ N % mn := Int.emod_nonneg _ (by omega)
    have hr1 : N % mn < mn := Int.emod_lt_of_pos _ (by omega)
    obtain ⟨r, hr⟩ := Int.eq_ofNat_of_zero_le hr0
    have hpb := plP_bd g5 hr0 (by rw [hmn]; exact hr1)
    unfold stY at hsn
    simp only [hmn] at hsn
    rw [hr] at hsn hpb hr0 hr1
    have hCw : Chg (fun _ => False) w W := HC4.out.trans hC (fun _ _ h => h) (fun i hi e => by rcases e with e | e | e <;> omega)
    have H1 := Lib.hid (show ∀ w', Chg (fun _ => False) W w' → Calls Try.prog 73 #[.agg #[.int .i64 z.l, .bool z.all, .slice ysa ym yk]] w' (GaveI w' mn) from fun w' h => by
      rw [← hmn]
      exact many_any _ z w' ⟨_, rfl, hze.fr (hCw.tr h)⟩)
    have H2 := Lib.hid (show ∀ w', Chg (fun _ => False) W w' → Calls Try.prog 72 #[.agg #[.int .i64 z.l, .bool z.all, .slice ysa ym yk], .int .i64 (r : Int)] w' (GaveI w' (plP z (r : Int))) from fun w' h =>
      place_any _ z r w' ⟨_, rfl, hze.fr (hCw.tr h)⟩ g5 g4 (by rw [hmn]; exact hr1))
    obtain ⟨pl, hpl⟩ : ∃ pl, plP z (r : Int) = pl := ⟨_, rfl⟩
    rw [hpl] at H2 hsn hpb
    obtain ⟨q, hq⟩ : ∃ q, N / mn = q := ⟨_, rfl⟩
    have hq0 : 0 ≤ q := by rw [← hq]; exact Int.ediv_nonneg hN0 (by omega)
    have hq1 : q ≤ 4096 := by rw [← hq]; exact Int.le_trans (Int.ediv_le_self _ hN0) hN1
    have t1 : Int.tdiv N mn = q := by rw [Int.tdiv_eq_ediv_of_nonneg hN0]; exact hq
    have t2 : Int.tmod N mn = (r : Int) := by rw [Int.tmod_eq_emod_of_nonneg hN0]; exact hr
    have hl3 : pre.length ≤ 3 := by omega
    have hB4 : B ≤ 68719476736 := by
      have := Nat.pow_le_pow_right (n := 4096) (by decide) hl3
      have e2 : ∀ m : Nat, (4096 : Int) ^ m = ((4096 ^ m : Nat) : Int) := fun m => by rw [Int.natCast_pow]; rfl
      rw [e2] at hB1
      omega
    have hT0 : 0 ≤ B * pl := Int.mul_nonneg hB0 hpb.1
    have hT1 : B * pl ≤ 68719476736 * 4096 := Int.mul_le_mul hB4 (by omega) hpb.1 (by decide)
    have hU0 : 0 ≤ B * z.l := Int.mul_nonneg hB0 g3
    have hU1 : B * z.l ≤ 68719476736 * 4096 := Int.mul_le_mul hB4 g4 g3 (by decide)
    have hU2 : B * z.l ≤ 4096 ^ (pre.length + 1) := by
      rw [Int.pow_succ]
      exact Int.mul_le_mul hB1 g4 g3 (Int.le_trans hB0 hB1)
    obtain ⟨T, hT⟩ : ∃ T, B * pl = T := ⟨_, rfl⟩
    obtain ⟨U, hU⟩ : ∃ U, B * z.l = U := ⟨_, rfl⟩
    rw [hT] at hT0 hT1 hsn
    rw [hU] at hU0 hU1 hU2 hsn
    rw [hq] at hsn
    have hPT : P + T ≤ ((pre.length + 1 : Nat) : Int) * 281474976710656 := by omega
    have HSN := Lib.hid hsn
    have HBD := Lib.hid (And.intro (And.intro hq0 hq1) (And.intro (And.intro hU0 hU2) (And.intro (show 0 ≤ P + T by omega) hPT)))
    have HPB := Lib.hid (show 0 ≤ P + T ∧ P + T ≤ 4 * 281474976710656 by constructor <;> omega)
    have HC := Lib.hid hC
    have HCW := Lib.hid hCw
    have H0 := Lib.hid h0
    have HM := Lib.hid hm
    have hmW : m < W.heap.size := cell_lt m0
    have HMS := Lib.hid (show w.heap.size + 1 + 1 + 1 + 1 ≤ m by have := HS4.out; omega)
    have KP5 := Lib.hid (show ∀ w', Chg (fun q => q = w.heap.size + 1) W w' → (w'.cell? ⟨w.heap.size + 1 + 1, 0, none⟩ = some (.int .i64 B) ∧ w'.cell? ⟨w.heap.size, 0, none⟩ = some (.int .i64 N) ∧ w'.cell? ⟨m, 0, none⟩ = some (.int .i64 z.l) ∧ w'.cell? ⟨m, 1, none⟩ = some (.bool z.all) ∧ w'.cell? ⟨m, 2, none⟩ = some (.slice ysa ym yk)) from fun w' h =>
      ⟨h.cell c6 (by show ¬ w.heap.size + 1 + 1 = w.heap.size + 1; omega), h.cell c2 (by show ¬ w.heap.size = w.heap.size + 1; omega), h.cell m0 (by show ¬ m = w.heap.size + 1; have := HMS.out; omega), h.cell m1 (by show ¬ m = w.heap.size + 1; have := HMS.out; omega), h.cell m2 (by show ¬ m = w.heap.size + 1; have := HMS.out; omega)⟩)
    have k1 : IntKind.i64.wrap (r : Int) = (r : Int) := IntWalk.i64_in _ (by omega)
    have k2 : IntKind.i64.wrap (B * pl) = T := by rw [hT]; exact IntWalk.i64_in _ (by omega)
    have k3 : IntKind.i64.wrap (P + T) = P + T := IntWalk.i64_in _ (by omega)
    have k4 : IntKind.i64.wrap q = q := IntWalk.i64_in _ (by omega)
    have k5 : IntKind.i64.wrap (B * z.l) = U := by rw [hU]; exact IntWalk.i64_in _ (by omega)
    have n0 : ¬ mn = 0 := by omega
    have HDV := Lib.hid (And.intro t1 (And.intro k4 k5))
    have HZE := Lib.hid hze
    have HMN := Lib.hid hmn
    clear hst hsn hN0 hN1 hB0 hB1 hP0 hP1 g1 g2 g3 g4 g5 hmn hr0 hr1 hr hpb hpl hq hq0 hq1 t1 hl3 hB4 hT0 hT1 hU0 hU1 hU2 hT hU hPT hC hCw h0 hm hze hz k4 k5 hlen
    gi_wp2_with fail
    gi_cut [] from 13 (fun wc => CutI (w.heap.size + 1) (P + T) W wc)
    case first =>
      rename_i J1 K1 hJ1 hK1
      refine in_round_held (S := fun w' => w'.cell? ⟨w.heap.size + 1 + 1, 0, none⟩ = some (.int .i64 B) ∧ w'.cell? ⟨w.heap.size, 0, none⟩ = some (.int .i64 N) ∧ w'.cell? ⟨m, 0, none⟩ = some (.int .i64 z.l) ∧ w'.cell? ⟨m, 1, none⟩ = some (.bool z.all) ∧ w'.cell? ⟨m, 2, none⟩ = some (.slice ysa ym yk)) (by kernel_rfl) (by kernel_rfl) (KP5.out _ (Chg.refl _ _).drew) (fun hHeld => ?_)
      refine' wpAnyH_take (i := 1) (oi := _) (v := .int .i64 B) ?hia1 (by kernel_rfl) (by kernel_rfl) (by kernel_rfl) ?hqa1 (Or.inl ⟨?hwa1, fun w hSw => ?hya1⟩) hHeld ?hka1
      case hia1 => (simp only [List.getElem?_toArray, List.getElem?_cons_succ, List.getElem?_cons_zero]; rfl)
      case hqa1 => exact fun _ _ _ h => h
      case hwa1 => rfl
      case hya1 => first | (go_simp; done) | (go_simp; with_reducible rfl)
      simp only [Act.put, List.setIfInBounds_toArray, List.set_cons_zero, List.set_cons_succ]
      refine' wpAnyH_take (i := 2) (oi := _) (v := .agg #[.int .i64 z.l, .bool z.all, .slice ysa ym yk]) ?hia2 (by kernel_rfl) (by kernel_rfl) (by kernel_rfl) ?hqa2 (Or.inl ⟨?hwa2, fun w hSw => ?hya2⟩) hHeld ?hka2
      case hia2 => (simp only [List.getElem?_toArray, List.getElem?_cons_succ, List.getElem?_cons_zero]; rfl)
      case hqa2 => exact fun _ _ _ h => h
      case hwa2 => rfl
      case hya2 => first | (go_simp; done) | (go_simp; with_reducible rfl)
      simp only [Act.put, List.setIfInBounds_toArray, List.set_cons_zero, List.set_cons_succ]
      refine' wpAnyH_take (i := 3) (oi := _) (v := .int .i64 N) ?hia3 (by kernel_rfl) (by kernel_rfl) (by kernel_rfl) ?hqa3 (Or.inl ⟨?hwa3, fun w hSw => ?hya3⟩) hHeld ?hka3
      case hia3 => (simp only [List.getElem?_toArray, List.getElem?_cons_succ, List.getElem?_cons_zero]; rfl)
      case hqa3 => exact fun _ _ _ h => h
      case hwa3 => rfl
      case hya3 => first | (go_simp; done) | (go_simp; with_reducible rfl)
      simp only [Act.put, List.setIfInBounds_toArray, List.set_cons_zero, List.set_cons_succ]
      refine' wpAnyH_take (i := 4) (oi := _) (v := .agg #[.int .i64 z.l, .bool z.all, .slice ysa ym yk]) ?hia4 (by kernel_rfl) (by kernel_rfl) (by kernel_rfl) ?hqa4 (Or.inl ⟨?hwa4, fun w hSw => ?hya4⟩) hHeld ?hka4
      case hia4 => (simp only [List.getElem?_toArray, List.getElem?_cons_succ, List.getElem?_cons_zero]; rfl)
      case hqa4 => exact fun _ _ _ h => h
      case hwa4 => rfl
      case hya4 => first | (go_simp; done) | (go_simp; with_reducible rfl)
      simp only [Act.put, List.setIfInBounds_toArray, List.set_cons_zero, List.set_cons_succ]
      refine wpAnyH_ready (rs := [0, 5]) (by kernel_rfl) (by simp) ?_
      refine AllReadyH.cons rfl (fun K hK => ?_) (AllReadyH.cons rfl (fun K hK => ?_) AllReadyH.nil)
      · go_simp
        refine hK.out _ _ (KP5.out _ (Chg.refl _ _).drew) (fun hHeld => ?_)
        clear hK K
        refine wpAnyH_ready (rs := [5]) (by kernel_rfl) (by simp) ?_
        refine AllReadyH.cons rfl (fun K hK => ?_) AllReadyH.nil
        go_simp
        with_reducible refine (H1.out _ ((Chg.refl (fun _ => False) W).drew)).mono ?_
        rintro e9 W3 ⟨rfl, hC3⟩
        have h3 : Chg (fun _ => False) W W3 := Chg.tr ((Chg.refl (fun _ => False) W).drew) hC3
        have d5 := h3.cell c5 id
        refine hK.out _ _ (KP5.out _ (Chg.mono h3 (fun _ _ h => h.elim))) (fun hHeld => ?_)
        clear hK K
        refine' wpAnyH_take (i := 6) (oi := _) (v := .int .i64 (r : Int)) ?hib6 (by kernel_rfl) (by kernel_rfl) (by kernel_rfl) ?hqb6 (Or.inl ⟨?hwb6, fun w hSw => ?hyb6⟩) hHeld ?hkb6
        case hib6 => (simp only [List.getElem?_toArray, List.getElem?_cons_succ, List.getElem?_cons_zero]; rfl)
        case hqb6 => exact fun _ _ _ h => h
        case hwb6 => rfl
        case hyb6 => first | (go_simp; done) | (go_simp; with_reducible rfl)
        simp only [Act.put, List.setIfInBounds_toArray, List.set_cons_zero, List.set_cons_succ]
        refine wpAnyH_ready (rs := [7]) (by kernel_rfl) (by simp) ?_
        refine AllReadyH.cons rfl (fun K hK => ?_) AllReadyH.nil
        go_simp
        with_reducible refine (H2.out _ h3).mono ?_
        rintro e9 W4 ⟨rfl, hC4⟩
        have h4 : Chg (fun _ => False) W W4 := h3.tr hC4
        have e5 := h4.cell c5 id
        have g5 := h4.frozen c5 f5 id
        refine hK.out _ _ (KP5.out _ (Chg.mono h4 (fun _ _ h => h.elim))) (fun hHeld => ?_)
        clear hK K
        refine' wpAnyH_take (i := 8) (oi := _) (v := .int .i64 T) ?hib8 (by kernel_rfl) (by kernel_rfl) (by kernel_rfl) ?hqb8 (Or.inl ⟨?hwb8, fun w hSw => ?hyb8⟩) hHeld ?hkb8
        case hib8 => (simp only [List.getElem?_toArray, List.getElem?_cons_succ, List.getElem?_cons_zero]; rfl)
        case hqb8 => exact fun _ _ _ h => h
        case hwb8 => rfl
        case hyb8 => first | (go_simp; done) | (go_simp; with_reducible rfl)
        simp only [Act.put, List.setIfInBounds_toArray, List.set_cons_zero, List.set_cons_succ]
        refine' wpAnyH_take (i := 9) (oi := _) (v := .int .i64 (P + T)) ?hib9 (by kernel_rfl) (by kernel_rfl) (by kernel_rfl) ?hqb9 (Or.inl ⟨?hwb9, fun w hSw => ?hyb9⟩) hHeld ?hkb9
        case hib9 => (simp only [List.getElem?_toArray, List.getElem?_cons_succ, List.getElem?_cons_zero]; rfl)
        case hqb9 => exact fun _ _ _ h => h
        case hwb9 => rfl
        case hyb9 => first | (go_simp; done) | (go_simp; with_reducible rfl)
        simp only [Act.put, List.setIfInBounds_toArray, List.set_cons_zero, List.set_cons_succ]
        refine wpAnyH_ready (rs := [10]) (by kernel_rfl) (by simp) ?_
        refine AllReadyH.cons rfl (fun K hK => ?_) AllReadyH.nil
        go_simp
        refine hK.out _ _ (KP5.out _ (pchg_set (Chg.mono h4 (fun _ _ h => h.elim)))) (fun hHeld => ?_)
        clear hK K
        refine wpAnyH_done (by kernel_rfl) ?_ _
        refine onlyN_end ?_
        refine hK1 _ _ (Met.intro (hJ1 _ _ ?_))
        (repeat apply Exists.intro)
        exact ⟨CutI.of h4 c5 f5, rfl⟩
      · go_simp
        with_reducible refine (H1.out _ ((Chg.refl (fun _ => False) W).drew)).mono ?_
        rintro e9 W3 ⟨rfl, hC3⟩
        have h3 : Chg (fun _ => False) W W3 := Chg.tr ((Chg.refl (fun _ => False) W).drew) hC3
        have d5 := h3.cell c5 id
        refine hK.out _ _ (KP5.out _ (Chg.mono h3 (fun _ _ h => h.elim))) (fun hHeld => ?_)
        clear hK K
        refine' wpAnyH_take (i := 6) (oi := _) (v := .int .i64 (r : Int)) ?hic6 (by kernel_rfl) (by kernel_rfl) (by kernel_rfl) ?hqc6 (Or.inl ⟨?hwc6, fun w hSw => ?hyc6⟩) hHeld ?hkc6
        case hic6 => (simp only [List.getElem?_toArray, List.getElem?_cons_succ, List.getElem?_cons_zero]; rfl)
        case hqc6 => exact fun _ _ _ h => h
        case hwc6 => rfl
        case hyc6 => first | (go_simp; done) | (go_simp; with_reducible rfl)
        simp only [Act.put, List.setIfInBounds_toArray, List.set_cons_zero, List.set_cons_succ]
        refine wpAnyH_ready (rs := [0, 7]) (by kernel_rfl) (by simp) ?_
        refine AllReadyH.cons rfl (fun K hK => ?_) (AllReadyH.cons rfl (fun K hK => ?_) AllReadyH.nil)
        · go_simp
          refine hK.out _ _ (KP5.out _ (Chg.mono h3 (fun _ _ h => h.elim))) (fun hHeld => ?_)
          clear hK K
          refine wpAnyH_ready (rs := [7]) (by kernel_rfl) (by simp) ?_
          refine AllReadyH.cons rfl (fun K hK => ?_) AllReadyH.nil
          go_simp
          with_reducible refine (H2.out _ h3).mono ?_
          rintro e9 W4 ⟨rfl, hC4⟩
          have h4 : Chg (fun _ => False) W W4 := h3.tr hC4
          have e5 := h4.cell c5 id
          have g5 := h4.frozen c5 f5 id
          refine hK.out _ _ (KP5.out _ (Chg.mono h4 (fun _ _ h => h.elim))) (fun hHeld => ?_)
          clear hK K
          refine' wpAnyH_take (i := 8) (oi := _) (v := .int .i64 T) ?hid8 (by kernel_rfl) (by kernel_rfl) (by kernel_rfl) ?hqd8 (Or.inl ⟨?hwd8, fun w hSw => ?hyd8⟩) hHeld ?hkd8
          case hid8 => (simp only [List.getElem?_toArray, List.getElem?_cons_succ, List.getElem?_cons_zero]; rfl)
          case hqd8 => exact fun _ _ _ h => h
          case hwd8 => rfl
          case hyd8 => first | (go_simp; done) | (go_simp; with_reducible rfl)
          simp only [Act.put, List.setIfInBounds_toArray, List.set_cons_zero, List.set_cons_succ]
          refine' wpAnyH_take (i := 9) (oi := _) (v := .int .i64 (P + T)) ?hid9 (by kernel_rfl) (by kernel_rfl) (by kernel_rfl) ?hqd9 (Or.inl ⟨?hwd9, fun w hSw => ?hyd9⟩) hHeld ?hkd9
          case hid9 => (simp only [List.getElem?_toArray, List.getElem?_cons_succ, List.getElem?_cons_zero]; rfl)
          case hqd9 => exact fun _ _ _ h => h
          case hwd9 => rfl
          case hyd9 => first | (go_simp; done) | (go_simp; with_reducible rfl)
          simp only [Act.put, List.setIfInBounds_toArray, List.set_cons_zero, List.set_cons_succ]
          refine wpAnyH_ready (rs := [10]) (by kernel_rfl) (by simp) ?_
          refine AllReadyH.cons rfl (fun K hK => ?_) AllReadyH.nil
          go_simp
          refine hK.out _ _ (KP5.out _ (pchg_set (Chg.mono h4 (fun _ _ h => h.elim)))) (fun hHeld => ?_)
          clear hK K
          refine wpAnyH_done (by kernel_rfl) ?_ _
          refine onlyN_end ?_
          refine hK1 _ _ (Met.intro (hJ1 _ _ ?_))
          (repeat apply Exists.intro)
          exact ⟨CutI.of h4 c5 f5, rfl⟩
        · go_simp
          with_reducible refine (H2.out _ h3).mono ?_
          rintro e9 W4 ⟨rfl, hC4⟩
          have h4 : Chg (fun _ => False) W W4 := h3.tr hC4
          have e5 := h4.cell c5 id
          have g5 := h4.frozen c5 f5 id
          refine hK.out _ _ (KP5.out _ (Chg.mono h4 (fun _ _ h => h.elim))) (fun hHeld => ?_)
          clear hK K
          refine' wpAnyH_take (i := 8) (oi := _) (v := .int .i64 T) ?hie8 (by kernel_rfl) (by kernel_rfl) (by kernel_rfl) ?hqe8 (Or.inl ⟨?hwe8, fun w hSw => ?hye8⟩) hHeld ?hke8
          case hie8 => (simp only [List.getElem?_toArray, List.getElem?_cons_succ, List.getElem?_cons_zero]; rfl)
          case hqe8 => exact fun _ _ _ h => h
          case hwe8 => rfl
          case hye8 => first | (go_simp; done) | (go_simp; with_reducible rfl)
          simp only [Act.put, List.setIfInBounds_toArray, List.set_cons_zero, List.set_cons_succ]
          refine wpAnyH_ready (rs := [0]) (by kernel_rfl) (by simp) ?_
          refine AllReadyH.cons rfl (fun K hK => ?_) AllReadyH.nil
          go_simp
          refine hK.out _ _ (KP5.out _ (Chg.mono h4 (fun _ _ h => h.elim))) (fun hHeld => ?_)
          clear hK K
          refine' wpAnyH_take (i := 9) (oi := _) (v := .int .i64 (P + T)) ?hie9 (by kernel_rfl) (by kernel_rfl) (by kernel_rfl) ?hqe9 (Or.inl ⟨?hwe9, fun w hSw => ?hye9⟩) hHeld ?hke9
          case hie9 => (simp only [List.getElem?_toArray, List.getElem?_cons_succ, List.getElem?_cons_zero]; rfl)
          case hqe9 => exact fun _ _ _ h => h
          case hwe9 => rfl
          case hye9 => first | (go_simp; done) | (go_simp; with_reducible rfl)
          simp only [Act.put, List.setIfInBounds_toArray, List.set_cons_zero, List.set_cons_succ]
          refine wpAnyH_ready (rs := [10]) (by kernel_rfl) (by simp) ?_
          refine AllReadyH.cons rfl (fun K hK => ?_) AllReadyH.nil
          go_simp
          refine hK.out _ _ (KP5.out _ (pchg_set (Chg.mono h4 (fun _ _ h => h.elim)))) (fun hHeld => ?_)
          clear hK K
          refine wpAnyH_done (by kernel_rfl) ?_ _
          refine onlyN_end ?_
          refine hK1 _ _ (Met.intro (hJ1 _ _ ?_))
          (repeat apply Exists.intro)
          exact ⟨CutI.of h4 c5 f5, rfl⟩
    case rest =>
      by_cases hj0 : j = 0
      · have d1 : ((j : Int) == 0) = true := by rw [hj0]; rfl
        have HJ0 := Lib.hid hj0
        have HCUT := Lib.hid hcut
        clear hj0 hcut
        gi_wp2
        obtain ⟨d5, e5, hCc, hKO⟩ := HCUT.out
        have hsf : StpI w.heap.size (w.heap.size + 1) (w.heap.size + 1 + 1) L (i : Int) w7 (.exit 0) (pre ++ [(j, ⟨z.l, z.all, ysa, ym, yk⟩)]) wc := by
          refine ⟨rfl, ⟨_, by simp; rfl, HJ0.out⟩, ?_, HC.out.trans hCc (fun _ _ h => h) (fun _ _ h => .inr (.inl h))⟩
          rw [HSN.out]
          exact d5
        exact ⟨hKO.from _, hsf⟩
      · have d1 : ((j : Int) == 0) = false := beq_eq_false_iff_ne.2 (by omega)
        obtain ⟨t1, k4, k5⟩ := HDV.out
        have hCc := hcut.2.2.1
        have b2c := hCc.cell c2 (by show ¬ w.heap.size = w.heap.size + 1; omega)
        have b6c := hCc.cell c6 (by show ¬ w.heap.size + 1 + 1 = w.heap.size + 1; omega)
        have b2f := hCc.frozen c2 f2 (by show ¬ w.heap.size = w.heap.size + 1; omega)
        have b6f := hCc.frozen c6 f6 (by show ¬ w.heap.size + 1 + 1 = w.heap.size + 1; omega)
        have n0c := hCc.cell m0 (by show ¬ m = w.heap.size + 1; have := HMS.out; omega)
        have n1c := hCc.cell m1 (by show ¬ m = w.heap.size + 1; have := HMS.out; omega)
        have n2c := hCc.cell m2 (by show ¬ m = w.heap.size + 1; have := HMS.out; omega)
        have KP7 := Lib.hid (show ∀ w', Chg (fun q => q = w.heap.size ∨ q = w.heap.size + 1 + 1) wc w' → (w'.cell? ⟨m, 0, none⟩ = some (.int .i64 z.l) ∧ w'.cell? ⟨m, 1, none⟩ = some (.bool z.all) ∧ w'.cell? ⟨m, 2, none⟩ = some (.slice ysa ym yk)) from fun w' h =>
          ⟨h.cell n0c (by have := HMS.out; show ¬ (m = w.heap.size ∨ m = w.heap.size + 1 + 1); omega), h.cell n1c (by have := HMS.out; show ¬ (m = w.heap.size ∨ m = w.heap.size + 1 + 1); omega), h.cell n2c (by have := HMS.out; show ¬ (m = w.heap.size ∨ m = w.heap.size + 1 + 1); omega)⟩)
        have H7 := Lib.hid (show ∀ w', Chg (fun _ => False) wc w' → Calls Try.prog 73 #[.agg #[.int .i64 z.l, .bool z.all, .slice ysa ym yk]] w' (GaveI w' mn) from fun w' h => by
          have hz2 := HZE.out
          rw [← HMN.out]
          exact many_any _ z w' ⟨_, rfl, (hz2.chg_lt (HCW.out.trans hCc (T := fun q => q = w.heap.size + 1) (fun _ _ h => h.elim) (fun _ _ h => h)) (fun k hk e => by
            have h4 : k = w.heap.size + 1 := e
            omega)).fr h⟩)
        have HCUT := hcut
        clear hCc n0c n1c n2c m0 m1 m2 c5 f5 t2 k1 k2 k3
        gi_wp2_with fail
        refine in_round_held (S := fun w' => w'.cell? ⟨m, 0, none⟩ = some (.int .i64 z.l) ∧ w'.cell? ⟨m, 1, none⟩ = some (.bool z.all) ∧ w'.cell? ⟨m, 2, none⟩ = some (.slice ysa ym yk)) (by kernel_rfl) (by kernel_rfl) (KP7.out _ (Chg.refl _ _).drew) (fun hHeld => ?_)
        refine' wpAnyH_take (i := 1) (oi := _) (v := .agg #[.int .i64 z.l, .bool z.all, .slice ysa ym yk]) ?hig1 (by kernel_rfl) (by kernel_rfl) (by kernel_rfl) ?hqg1 (Or.inl ⟨?hwg1, fun w hSw => ?hyg1⟩) hHeld ?hkg1
        case hig1 => (simp only [List.getElem?_toArray, List.getElem?_cons_succ, List.getElem?_cons_zero]; rfl)
        case hqg1 => exact fun _ _ _ h => h
        case hwg1 => rfl
        case hyg1 => first | (go_simp; done) | (go_simp; with_reducible rfl)
        simp only [Act.put, List.setIfInBounds_toArray, List.set_cons_zero, List.set_cons_succ]
        refine' wpAnyH_take (i := 5) (oi := _) (v := .pointer (some ⟨m, 0, none⟩)) ?hig5 (by kernel_rfl) (by kernel_rfl) (by kernel_rfl) ?hqg5 (Or.inl ⟨?hwg5, fun w hSw => ?hyg5⟩) hHeld ?hkg5
        case hig5 => (simp only [List.getElem?_toArray, List.getElem?_cons_succ, List.getElem?_cons_zero]; rfl)
        case hqg5 => exact fun _ _ _ h => h
        case hwg5 => rfl
        case hyg5 => first | (go_simp; done) | (go_simp; with_reducible rfl)
        simp only [Act.put, List.setIfInBounds_toArray, List.set_cons_zero, List.set_cons_succ]
        refine' wpAnyH_take (i := 6) (oi := _) (v := .int .i64 z.l) ?hig6 (by kernel_rfl) (by kernel_rfl) (by kernel_rfl) ?hqg6 (Or.inl ⟨?hwg6, fun w hSw => ?hyg6⟩) hHeld ?hkg6
        case hig6 => (simp only [List.getElem?_toArray, List.getElem?_cons_succ, List.getElem?_cons_zero]; rfl)
        case hqg6 => exact fun _ _ _ h => h
        case hwg6 => rfl
        case hyg6 => first | (go_simp; done) | (go_simp; with_reducible rfl)
        simp only [Act.put, List.setIfInBounds_toArray, List.set_cons_zero, List.set_cons_succ]
        refine wpAnyH_ready (rs := [0, 2, 4]) (by kernel_rfl) (by simp) ?_
        refine AllReadyH.cons rfl (fun K hK => ?_) (AllReadyH.cons rfl (fun K hK => ?_) (AllReadyH.cons rfl (fun K hK => ?_) AllReadyH.nil))
        · go_simp
          refine hK.out _ _ (KP7.out _ (Chg.refl _ _).drew) (fun hHeld => ?_)
          clear hK K
          refine wpAnyH_ready (rs := [2, 4]) (by kernel_rfl) (by simp) ?_
          refine AllReadyH.cons rfl (fun K hK => ?_) (AllReadyH.cons rfl (fun K hK => ?_) AllReadyH.nil)
          · go_simp
            with_reducible refine (H7.out _ ((Chg.refl (fun _ => False) wc).drew)).mono ?_
            rintro e9 W3 ⟨rfl, hC3⟩
            have h3 : Chg (fun _ => False) wc W3 := Chg.tr ((Chg.refl (fun _ => False) wc).drew) hC3
            have b2x := h3.frozen b2c b2f id
            have b6x := h3.frozen b6c b6f id
            have b2y := h3.cell b2c id
            have b6y := h3.cell b6c id
            refine hK.out _ _ (KP7.out _ (Chg.mono h3 (fun _ _ h => h.elim))) (fun hHeld => ?_)
            clear hK K
            refine' wpAnyH_take (i := 3) (oi := _) (v := .int .i64 q) ?hih3 (by kernel_rfl) (by kernel_rfl) (by kernel_rfl) ?hqh3 (Or.inl ⟨?hwh3, fun w hSw => ?hyh3⟩) hHeld ?hkh3
            case hih3 => (simp only [List.getElem?_toArray, List.getElem?_cons_succ, List.getElem?_cons_zero]; rfl)
            case hqh3 => exact fun _ _ _ h => h
            case hwh3 => rfl
            case hyh3 => first | (go_simp; done) | (go_simp; with_reducible rfl)
            simp only [Act.put, List.setIfInBounds_toArray, List.set_cons_zero, List.set_cons_succ]
            refine wpAnyH_ready (rs := [4, 8]) (by kernel_rfl) (by simp) ?_
            refine AllReadyH.cons rfl (fun K hK => ?_) (AllReadyH.cons rfl (fun K hK => ?_) AllReadyH.nil)
            · go_simp
              refine hK.out _ _ (KP7.out _ (Chg.mono h3 (fun _ _ h => h.elim))) (fun hHeld => ?_)
              clear hK K
              refine' wpAnyH_take (i := 7) (oi := _) (v := .int .i64 U) ?hih7 (by kernel_rfl) (by kernel_rfl) (by kernel_rfl) ?hqh7 (Or.inl ⟨?hwh7, fun w hSw => ?hyh7⟩) hHeld ?hkh7
              case hih7 => (simp only [List.getElem?_toArray, List.getElem?_cons_succ, List.getElem?_cons_zero]; rfl)
              case hqh7 => exact fun _ _ _ h => h
              case hwh7 => rfl
              case hyh7 => first | (go_simp; done) | (go_simp; with_reducible rfl)
              simp only [Act.put, List.setIfInBounds_toArray, List.set_cons_zero, List.set_cons_succ]
              refine wpAnyH_ready (rs := [8]) (by kernel_rfl) (by simp) ?_
              refine AllReadyH.cons rfl (fun K hK => ?_) AllReadyH.nil
              go_simp
              refine hK.out _ _ (KP7.out _ (p26_set (.inl rfl) (Chg.mono h3 (fun _ _ h => h.elim)))) (fun hHeld => ?_)
              clear hK K
              refine wpAnyH_ready (rs := [9]) (by kernel_rfl) (by simp) ?_
              refine AllReadyH.cons rfl (fun K hK => ?_) AllReadyH.nil
              go_simp
              refine hK.out _ _ (KP7.out _ (p26_set (.inr rfl) (p26_set (.inl rfl) (Chg.mono h3 (fun _ _ h => h.elim))))) (fun hHeld => ?_)
              clear hK K
              refine wpAnyH_done (by kernel_rfl) ?_ _
              refine onlyN_end ?_
              obtain ⟨hcf, hX, hKK⟩ := colI_next HSN.out H0.out hj0 HBD.out hcut h3 c2 f2 c6 f6 (by omega) (by omega) (by omega) HC.out
              exact ⟨hKK.from _, Keep.of_chg hX (fun q hq => ⟨by have := HC.out.size; omega, fun h => by rcases h with h | h | h; exact hq.2.1 h; exact hq.2.2.1 h; exact hq.2.2.2 h⟩), hcf⟩
            · go_simp
              refine hK.out _ _ (KP7.out _ (p26_set (.inl rfl) (Chg.mono h3 (fun _ _ h => h.elim)))) (fun hHeld => ?_)
              clear hK K
              have b6z : (W3.setCell ⟨w.heap.size, 0, none⟩ (.int .i64 q)).cell? ⟨w.heap.size + 1 + 1, 0, none⟩ = some (.int .i64 B) := by rw [World.cell?_setCell_other _ _ _ _ (by simp)]; exact b6y
              refine wpAnyH_ready (rs := [4]) (by kernel_rfl) (by simp) ?_
              refine AllReadyH.cons rfl (fun K hK => ?_) AllReadyH.nil
              go_simp
              refine hK.out _ _ (KP7.out _ (p26_set (.inl rfl) (Chg.mono h3 (fun _ _ h => h.elim)))) (fun hHeld => ?_)
              clear hK K
              refine' wpAnyH_take (i := 7) (oi := _) (v := .int .i64 U) ?hihe7 (by kernel_rfl) (by kernel_rfl) (by kernel_rfl) ?hqhe7 (Or.inl ⟨?hwhe7, fun w hSw => ?hyhe7⟩) hHeld ?hkhe7
              case hihe7 => (simp only [List.getElem?_toArray, List.getElem?_cons_succ, List.getElem?_cons_zero]; rfl)
              case hqhe7 => exact fun _ _ _ h => h
              case hwhe7 => rfl
              case hyhe7 => first | (go_simp; done) | (go_simp; with_reducible rfl)
              simp only [Act.put, List.setIfInBounds_toArray, List.set_cons_zero, List.set_cons_succ]
              refine wpAnyH_ready (rs := [9]) (by kernel_rfl) (by simp) ?_
              refine AllReadyH.cons rfl (fun K hK => ?_) AllReadyH.nil
              go_simp
              refine hK.out _ _ (KP7.out _ (p26_set (.inr rfl) (p26_set (.inl rfl) (Chg.mono h3 (fun _ _ h => h.elim))))) (fun hHeld => ?_)
              clear hK K
              refine wpAnyH_done (by kernel_rfl) ?_ _
              refine onlyN_end ?_
              obtain ⟨hcf, hX, hKK⟩ := colI_next HSN.out H0.out hj0 HBD.out hcut h3 c2 f2 c6 f6 (by omega) (by omega) (by omega) HC.out
              exact ⟨hKK.from _, Keep.of_chg hX (fun q hq => ⟨by have := HC.out.size; omega, fun h => by rcases h with h | h | h; exact hq.2.1 h; exact hq.2.2.1 h; exact hq.2.2.2 h⟩), hcf⟩
          · go_simp
            refine hK.out _ _ (KP7.out _ (Chg.refl _ _).drew) (fun hHeld => ?_)
            clear hK K
            refine' wpAnyH_take (i := 7) (oi := _) (v := .int .i64 U) ?hii7 (by kernel_rfl) (by kernel_rfl) (by kernel_rfl) ?hqi7 (Or.inl ⟨?hwi7, fun w hSw => ?hyi7⟩) hHeld ?hki7
            case hii7 => (simp only [List.getElem?_toArray, List.getElem?_cons_succ, List.getElem?_cons_zero]; rfl)
            case hqi7 => exact fun _ _ _ h => h
            case hwi7 => rfl
            case hyi7 => first | (go_simp; done) | (go_simp; with_reducible rfl)
            simp only [Act.put, List.setIfInBounds_toArray, List.set_cons_zero, List.set_cons_succ]
            refine wpAnyH_ready (rs := [2]) (by kernel_rfl) (by simp) ?_
            refine AllReadyH.cons rfl (fun K hK => ?_) AllReadyH.nil
            go_simp
            with_reducible refine (H7.out _ ((Chg.refl (fun _ => False) wc).drew)).mono ?_
            rintro e9 W3 ⟨rfl, hC3⟩
            have h3 : Chg (fun _ => False) wc W3 := Chg.tr ((Chg.refl (fun _ => False) wc).drew) hC3
            have b2x := h3.frozen b2c b2f id
            have b6x := h3.frozen b6c b6f id
            have b2y := h3.cell b2c id
            have b6y := h3.cell b6c id
            refine hK.out _ _ (KP7.out _ (Chg.mono h3 (fun _ _ h => h.elim))) (fun hHeld => ?_)
            clear hK K
            refine' wpAnyH_take (i := 3) (oi := _) (v := .int .i64 q) ?hii3 (by kernel_rfl) (by kernel_rfl) (by kernel_rfl) ?hqi3 (Or.inl ⟨?hwi3, fun w hSw => ?hyi3⟩) hHeld ?hki3
            case hii3 => (simp only [List.getElem?_toArray, List.getElem?_cons_succ, List.getElem?_cons_zero]; rfl)
            case hqi3 => exact fun _ _ _ h => h
            case hwi3 => rfl
            case hyi3 => first | (go_simp; done) | (go_simp; with_reducible rfl)
            simp only [Act.put, List.setIfInBounds_toArray, List.set_cons_zero, List.set_cons_succ]
            refine wpAnyH_ready (rs := [8]) (by kernel_rfl) (by simp) ?_
            refine AllReadyH.cons rfl (fun K hK => ?_) AllReadyH.nil
            go_simp
            refine hK.out _ _ (KP7.out _ (p26_set (.inl rfl) (Chg.mono h3 (fun _ _ h => h.elim)))) (fun hHeld => ?_)
            clear hK K
            refine wpAnyH_ready (rs := [9]) (by kernel_rfl) (by simp) ?_
            refine AllReadyH.cons rfl (fun K hK => ?_) AllReadyH.nil
            go_simp
            refine hK.out _ _ (KP7.out _ (p26_set (.inr rfl) (p26_set (.inl rfl) (Chg.mono h3 (fun _ _ h => h.elim))))) (fun hHeld => ?_)
            clear hK K
            refine wpAnyH_done (by kernel_rfl) ?_ _
            refine onlyN_end ?_
            obtain ⟨hcf, hX, hKK⟩ := colI_next HSN.out H0.out hj0 HBD.out hcut h3 c2 f2 c6 f6 (by omega) (by omega) (by omega) HC.out
            exact ⟨hKK.from _, Keep.of_chg hX (fun q hq => ⟨by have := HC.out.size; omega, fun h => by rcases h with h | h | h; exact hq.2.1 h; exact hq.2.2.1 h; exact hq.2.2.2 h⟩), hcf⟩
        · go_simp
          with_reducible refine (H7.out _ ((Chg.refl (fun _ => False) wc).drew)).mono ?_
          rintro e9 W3 ⟨rfl, hC3⟩
          have h3 : Chg (fun _ => False) wc W3 := Chg.tr ((Chg.refl (fun _ => False) wc).drew) hC3
          have b2x := h3.frozen b2c b2f id
          have b6x := h3.frozen b6c b6f id
          have b2y := h3.cell b2c id
          have b6y := h3.cell b6c id
          refine hK.out _ _ (KP7.out _ (Chg.mono h3 (fun _ _ h => h.elim))) (fun hHeld => ?_)
          clear hK K
          refine wpAnyH_ready (rs := [0, 4]) (by kernel_rfl) (by simp) ?_
          refine AllReadyH.cons rfl (fun K hK => ?_) (AllReadyH.cons rfl (fun K hK => ?_) AllReadyH.nil)
          · go_simp
            refine hK.out _ _ (KP7.out _ (Chg.mono h3 (fun _ _ h => h.elim))) (fun hHeld => ?_)
            clear hK K
            refine' wpAnyH_take (i := 3) (oi := _) (v := .int .i64 q) ?hik3 (by kernel_rfl) (by kernel_rfl) (by kernel_rfl) ?hqk3 (Or.inl ⟨?hwk3, fun w hSw => ?hyk3⟩) hHeld ?hkk3
            case hik3 => (simp only [List.getElem?_toArray, List.getElem?_cons_succ, List.getElem?_cons_zero]; rfl)
            case hqk3 => exact fun _ _ _ h => h
            case hwk3 => rfl
            case hyk3 => first | (go_simp; done) | (go_simp; with_reducible rfl)
            simp only [Act.put, List.setIfInBounds_toArray, List.set_cons_zero, List.set_cons_succ]
            refine wpAnyH_ready (rs := [4, 8]) (by kernel_rfl) (by simp) ?_
            refine AllReadyH.cons rfl (fun K hK => ?_) (AllReadyH.cons rfl (fun K hK => ?_) AllReadyH.nil)
            · go_simp
              refine hK.out _ _ (KP7.out _ (Chg.mono h3 (fun _ _ h => h.elim))) (fun hHeld => ?_)
              clear hK K
              refine' wpAnyH_take (i := 7) (oi := _) (v := .int .i64 U) ?hik7 (by kernel_rfl) (by kernel_rfl) (by kernel_rfl) ?hqk7 (Or.inl ⟨?hwk7, fun w hSw => ?hyk7⟩) hHeld ?hkk7
              case hik7 => (simp only [List.getElem?_toArray, List.getElem?_cons_succ, List.getElem?_cons_zero]; rfl)
              case hqk7 => exact fun _ _ _ h => h
              case hwk7 => rfl
              case hyk7 => first | (go_simp; done) | (go_simp; with_reducible rfl)
              simp only [Act.put, List.setIfInBounds_toArray, List.set_cons_zero, List.set_cons_succ]
              refine wpAnyH_ready (rs := [8]) (by kernel_rfl) (by simp) ?_
              refine AllReadyH.cons rfl (fun K hK => ?_) AllReadyH.nil
              go_simp
              refine hK.out _ _ (KP7.out _ (p26_set (.inl rfl) (Chg.mono h3 (fun _ _ h => h.elim)))) (fun hHeld => ?_)
              clear hK K
              refine wpAnyH_ready (rs := [9]) (by kernel_rfl) (by simp) ?_
              refine AllReadyH.cons rfl (fun K hK => ?_) AllReadyH.nil
              go_simp
              refine hK.out _ _ (KP7.out _ (p26_set (.inr rfl) (p26_set (.inl rfl) (Chg.mono h3 (fun _ _ h => h.elim))))) (fun hHeld => ?_)
              clear hK K
              refine wpAnyH_done (by kernel_rfl) ?_ _
              refine onlyN_end ?_
              obtain ⟨hcf, hX, hKK⟩ := colI_next HSN.out H0.out hj0 HBD.out hcut h3 c2 f2 c6 f6 (by omega) (by omega) (by omega) HC.out
              exact ⟨hKK.from _, Keep.of_chg hX (fun q hq => ⟨by have := HC.out.size; omega, fun h => by rcases h with h | h | h; exact hq.2.1 h; exact hq.2.2.1 h; exact hq.2.2.2 h⟩), hcf⟩
            · go_simp
              refine hK.out _ _ (KP7.out _ (p26_set (.inl rfl) (Chg.mono h3 (fun _ _ h => h.elim)))) (fun hHeld => ?_)
              clear hK K
              have b6z : (W3.setCell ⟨w.heap.size, 0, none⟩ (.int .i64 q)).cell? ⟨w.heap.size + 1 + 1, 0, none⟩ = some (.int .i64 B) := by rw [World.cell?_setCell_other _ _ _ _ (by simp)]; exact b6y
              refine wpAnyH_ready (rs := [4]) (by kernel_rfl) (by simp) ?_
              refine AllReadyH.cons rfl (fun K hK => ?_) AllReadyH.nil
              go_simp
              refine hK.out _ _ (KP7.out _ (p26_set (.inl rfl) (Chg.mono h3 (fun _ _ h => h.elim)))) (fun hHeld => ?_)
              clear hK K
              refine' wpAnyH_take (i := 7) (oi := _) (v := .int .i64 U) ?hike7 (by kernel_rfl) (by kernel_rfl) (by kernel_rfl) ?hqke7 (Or.inl ⟨?hwke7, fun w hSw => ?hyke7⟩) hHeld ?hkke7
              case hike7 => (simp only [List.getElem?_toArray, List.getElem?_cons_succ, List.getElem?_cons_zero]; rfl)
              case hqke7 => exact fun _ _ _ h => h
              case hwke7 => rfl
              case hyke7 => first | (go_simp; done) | (go_simp; with_reducible rfl)
              simp only [Act.put, List.setIfInBounds_toArray, List.set_cons_zero, List.set_cons_succ]
              refine wpAnyH_ready (rs := [9]) (by kernel_rfl) (by simp) ?_
              refine AllReadyH.cons rfl (fun K hK => ?_) AllReadyH.nil
              go_simp
              refine hK.out _ _ (KP7.out _ (p26_set (.inr rfl) (p26_set (.inl rfl) (Chg.mono h3 (fun _ _ h => h.elim))))) (fun hHeld => ?_)
              clear hK K
              refine wpAnyH_done (by kernel_rfl) ?_ _
              refine onlyN_end ?_
              obtain ⟨hcf, hX, hKK⟩ := colI_next HSN.out H0.out hj0 HBD.out hcut h3 c2 f2 c6 f6 (by omega) (by omega) (by omega) HC.out
              exact ⟨hKK.from _, Keep.of_chg hX (fun q hq => ⟨by have := HC.out.size; omega, fun h => by rcases h with h | h | h; exact hq.2.1 h; exact hq.2.2.1 h; exact hq.2.2.2 h⟩), hcf⟩
          · go_simp
            refine hK.out _ _ (KP7.out _ (Chg.mono h3 (fun _ _ h => h.elim))) (fun hHeld => ?_)
            clear hK K
            refine' wpAnyH_take (i := 7) (oi := _) (v := .int .i64 U) ?hil7 (by kernel_rfl) (by kernel_rfl) (by kernel_rfl) ?hql7 (Or.inl ⟨?hwl7, fun w hSw => ?hyl7⟩) hHeld ?hkl7
            case hil7 => (simp only [List.getElem?_toArray, List.getElem?_cons_succ, List.getElem?_cons_zero]; rfl)
            case hql7 => exact fun _ _ _ h => h
            case hwl7 => rfl
            case hyl7 => first | (go_simp; done) | (go_simp; with_reducible rfl)
            simp only [Act.put, List.setIfInBounds_toArray, List.set_cons_zero, List.set_cons_succ]
            refine wpAnyH_ready (rs := [0]) (by kernel_rfl) (by simp) ?_
            refine AllReadyH.cons rfl (fun K hK => ?_) AllReadyH.nil
            go_simp
            refine hK.out _ _ (KP7.out _ (Chg.mono h3 (fun _ _ h => h.elim))) (fun hHeld => ?_)
            clear hK K
            refine' wpAnyH_take (i := 3) (oi := _) (v := .int .i64 q) ?hil3 (by kernel_rfl) (by kernel_rfl) (by kernel_rfl) ?hql3 (Or.inl ⟨?hwl3, fun w hSw => ?hyl3⟩) hHeld ?hkl3
            case hil3 => (simp only [List.getElem?_toArray, List.getElem?_cons_succ, List.getElem?_cons_zero]; rfl)
            case hql3 => exact fun _ _ _ h => h
            case hwl3 => rfl
            case hyl3 => first | (go_simp; done) | (go_simp; with_reducible rfl)
            simp only [Act.put, List.setIfInBounds_toArray, List.set_cons_zero, List.set_cons_succ]
            refine wpAnyH_ready (rs := [8]) (by kernel_rfl) (by simp) ?_
            refine AllReadyH.cons rfl (fun K hK => ?_) AllReadyH.nil
            go_simp
            refine hK.out _ _ (KP7.out _ (p26_set (.inl rfl) (Chg.mono h3 (fun _ _ h => h.elim)))) (fun hHeld => ?_)
            clear hK K
            refine wpAnyH_ready (rs := [9]) (by kernel_rfl) (by simp) ?_
            refine AllReadyH.cons rfl (fun K hK => ?_) AllReadyH.nil
            go_simp
            refine hK.out _ _ (KP7.out _ (p26_set (.inr rfl) (p26_set (.inl rfl) (Chg.mono h3 (fun _ _ h => h.elim))))) (fun hHeld => ?_)
            clear hK K
            refine wpAnyH_done (by kernel_rfl) ?_ _
            refine onlyN_end ?_
            obtain ⟨hcf, hX, hKK⟩ := colI_next HSN.out H0.out hj0 HBD.out hcut h3 c2 f2 c6 f6 (by omega) (by omega) (by omega) HC.out
            exact ⟨hKK.from _, Keep.of_chg hX (fun q hq => ⟨by have := HC.out.size; omega, fun h => by rcases h with h | h | h; exact hq.2.1 h; exact hq.2.2.1 h; exact hq.2.2.2 h⟩), hcf⟩
        · go_simp
          refine hK.out _ _ (KP7.out _ (Chg.refl _ _).drew) (fun hHeld => ?_)
          clear hK K
          refine' wpAnyH_take (i := 7) (oi := _) (v := .int .i64 U) ?him7 (by kernel_rfl) (by kernel_rfl) (by kernel_rfl) ?hqm7 (Or.inl ⟨?hwm7, fun w hSw => ?hym7⟩) hHeld ?hkm7
          case him7 => (simp only [List.getElem?_toArray, List.getElem?_cons_succ, List.getElem?_cons_zero]; rfl)
          case hqm7 => exact fun _ _ _ h => h
          case hwm7 => rfl
          case hym7 => first | (go_simp; done) | (go_simp; with_reducible rfl)
          simp only [Act.put, List.setIfInBounds_toArray, List.set_cons_zero, List.set_cons_succ]
          refine wpAnyH_ready (rs := [0, 2]) (by kernel_rfl) (by simp) ?_
          refine AllReadyH.cons rfl (fun K hK => ?_) (AllReadyH.cons rfl (fun K hK => ?_) AllReadyH.nil)
          · go_simp
            refine hK.out _ _ (KP7.out _ (Chg.refl _ _).drew) (fun hHeld => ?_)
            clear hK K
            refine wpAnyH_ready (rs := [2]) (by kernel_rfl) (by simp) ?_
            refine AllReadyH.cons rfl (fun K hK => ?_) AllReadyH.nil
            go_simp
            with_reducible refine (H7.out _ ((Chg.refl (fun _ => False) wc).drew)).mono ?_
            rintro e9 W3 ⟨rfl, hC3⟩
            have h3 : Chg (fun _ => False) wc W3 := Chg.tr ((Chg.refl (fun _ => False) wc).drew) hC3
            have b2x := h3.frozen b2c b2f id
            have b6x := h3.frozen b6c b6f id
            have b2y := h3.cell b2c id
            have b6y := h3.cell b6c id
            refine hK.out _ _ (KP7.out _ (Chg.mono h3 (fun _ _ h => h.elim))) (fun hHeld => ?_)
            clear hK K
            refine' wpAnyH_take (i := 3) (oi := _) (v := .int .i64 q) ?hin3 (by kernel_rfl) (by kernel_rfl) (by kernel_rfl) ?hqn3 (Or.inl ⟨?hwn3, fun w hSw => ?hyn3⟩) hHeld ?hkn3
            case hin3 => (simp only [List.getElem?_toArray, List.getElem?_cons_succ, List.getElem?_cons_zero]; rfl)
            case hqn3 => exact fun _ _ _ h => h
            case hwn3 => rfl
            case hyn3 => first | (go_simp; done) | (go_simp; with_reducible rfl)
            simp only [Act.put, List.setIfInBounds_toArray, List.set_cons_zero, List.set_cons_succ]
            refine wpAnyH_ready (rs := [8]) (by kernel_rfl) (by simp) ?_
            refine AllReadyH.cons rfl (fun K hK => ?_) AllReadyH.nil
            go_simp
            refine hK.out _ _ (KP7.out _ (p26_set (.inl rfl) (Chg.mono h3 (fun _ _ h => h.elim)))) (fun hHeld => ?_)
            clear hK K
            refine wpAnyH_ready (rs := [9]) (by kernel_rfl) (by simp) ?_
            refine AllReadyH.cons rfl (fun K hK => ?_) AllReadyH.nil
            go_simp
            refine hK.out _ _ (KP7.out _ (p26_set (.inr rfl) (p26_set (.inl rfl) (Chg.mono h3 (fun _ _ h => h.elim))))) (fun hHeld => ?_)
            clear hK K
            refine wpAnyH_done (by kernel_rfl) ?_ _
            refine onlyN_end ?_
            obtain ⟨hcf, hX, hKK⟩ := colI_next HSN.out H0.out hj0 HBD.out hcut h3 c2 f2 c6 f6 (by omega) (by omega) (by omega) HC.out
            exact ⟨hKK.from _, Keep.of_chg hX (fun q hq => ⟨by have := HC.out.size; omega, fun h => by rcases h with h | h | h; exact hq.2.1 h; exact hq.2.2.1 h; exact hq.2.2.2 h⟩), hcf⟩
          · go_simp
            with_reducible refine (H7.out _ ((Chg.refl (fun _ => False) wc).drew)).mono ?_
            rintro e9 W3 ⟨rfl, hC3⟩
            have h3 : Chg (fun _ => False) wc W3 := Chg.tr ((Chg.refl (fun _ => False) wc).drew) hC3
            have b2x := h3.frozen b2c b2f id
            have b6x := h3.frozen b6c b6f id
            have b2y := h3.cell b2c id
            have b6y := h3.cell b6c id
            refine hK.out _ _ (KP7.out _ (Chg.mono h3 (fun _ _ h => h.elim))) (fun hHeld => ?_)
            clear hK K
            refine wpAnyH_ready (rs := [0]) (by kernel_rfl) (by simp) ?_
            refine AllReadyH.cons rfl (fun K hK => ?_) AllReadyH.nil
            go_simp
            refine hK.out _ _ (KP7.out _ (Chg.mono h3 (fun _ _ h => h.elim))) (fun hHeld => ?_)
            clear hK K
            refine' wpAnyH_take (i := 3) (oi := _) (v := .int .i64 q) ?hio3 (by kernel_rfl) (by kernel_rfl) (by kernel_rfl) ?hqo3 (Or.inl ⟨?hwo3, fun w hSw => ?hyo3⟩) hHeld ?hko3
            case hio3 => (simp only [List.getElem?_toArray, List.getElem?_cons_succ, List.getElem?_cons_zero]; rfl)
            case hqo3 => exact fun _ _ _ h => h
            case hwo3 => rfl
            case hyo3 => first | (go_simp; done) | (go_simp; with_reducible rfl)
            simp only [Act.put, List.setIfInBounds_toArray, List.set_cons_zero, List.set_cons_succ]
            refine wpAnyH_ready (rs := [8]) (by kernel_rfl) (by simp) ?_
            refine AllReadyH.cons rfl (fun K hK => ?_) AllReadyH.nil
            go_simp
            refine hK.out _ _ (KP7.out _ (p26_set (.inl rfl) (Chg.mono h3 (fun _ _ h => h.elim)))) (fun hHeld => ?_)
            clear hK K
            refine wpAnyH_ready (rs := [9]) (by kernel_rfl) (by simp) ?_
            refine AllReadyH.cons rfl (fun K hK => ?_) AllReadyH.nil
            go_simp
            refine hK.out _ _ (KP7.out _ (p26_set (.inr rfl) (p26_set (.inl rfl) (Chg.mono h3 (fun _ _ h => h.elim))))) (fun hHeld => ?_)
            clear hK K
            refine wpAnyH_done (by kernel_rfl) ?_ _
            refine onlyN_end ?_
            obtain ⟨hcf, hX, hKK⟩ := colI_next HSN.out H0.out hj0 HBD.out hcut h3 c2 f2 c6 f6 (by omega) (by omega) (by omega) HC.out
            exact ⟨hKK.from _, Keep.of_chg hX (fun q hq => ⟨by have := HC.out.size; omega, fun h => by rcases h with h | h | h; exact hq.2.1 h; exact hq.2.2.1 h; exact hq.2.2.2 h⟩), hcf⟩
  case done =>
    rintro D ys W hD rfl ⟨h0, hbd, ⟨⟨c2, f2⟩, ⟨c5, f5⟩, c6, f6⟩, hC⟩ hK
    have HCW := Lib.hid (show Chg (fun _ => False) w W from HC4.out.trans hC (fun _ _ h => h) (fun i hi e => by rcases e with e | e | e <;> omega))
    have hDw : w.heap.size ≤ D := by have := HC4.out.size; omega
    have HK := Lib.hid hK
    generalize (stR L (i : Int) (bxL VS)).2.1 = P at *
    clear h0 hbd c2 f2 c6 f6 f5 hC hK
    go_wp2
    go_region
    all_goals
      go_wp2
      exact ix_leave (W := W.drew) HK.out hDw rfl rfl HCW.out.drew
  case stop =>
    rintro D c' pre W hD ⟨q, hq, rfl⟩ ⟨rfl, ⟨x, hx, hx0⟩, c5, hC⟩ hK
    have hwhole : (bxL VS).take (q + 1) = bxL VS := by
      rw [bx_last (by rw [HVS.out.1]; exact hq)] at hx
      have hx := Option.some.inj hx
      rw [← hx] at hx0
      have h1 : VS.length - 1 - q = 0 := hx0
      rw [HVS.out.1] at h1
      rw [List.take_of_length_le (by rw [bxL_length, HVS.out.1]; omega)]
    rw [hwhole] at c5
    have HCW := Lib.hid (show Chg (fun _ => False) w W from HC4.out.trans hC (fun _ _ h => h) (fun i hi e => by rcases e with e | e | e <;> omega))
    have hDw : w.heap.size ≤ D := by have := HC4.out.size; omega
    have HK := Lib.hid hK
    generalize (stR L (i : Int) (bxL VS)).2.1 = P at *
    clear hwhole hC hK hx hx0
    go_wp2
    go_region
    all_goals
      go_wp2
      exact ix_leave (W := W.drew) HK.out hDw rfl rfl HCW.out.drew
end Go.Proofs.Ytnjnajbdpaaikaa
