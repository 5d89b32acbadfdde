/- MoldParts. -/
import Derived.Test.YtceooipljhjpaaaMdW
import Derived.Test.YtceooipljhjpaaaMeA
namespace Go.Proofs.Ytceooipljhjpaaa
open Go.RowKit Go.Shelf


theorem takeC (n : Int) (u v : Value) (l : List Int) (w : World) (hL : Ara w u ⟨1, [], [n]⟩) (hA : Ara w v (vecB l)) (h : l.length ≤ 4096) (hn : -4096 ≤ n ∧ n ≤ 4096) : Calls Try.prog 26 #[u, v] w (GaveAE w (vecB (tkV n l)) 0) := by
  have h1 := takeV n u v l w hL hA (by omega)
  have h2 := take_in h hn
  rw [h2.1, h2.2] at h1
  exact h1
theorem sizeOf_longM (w : World) : (sizeOf 2).run Try.prog w = .ok 1 w := by kernel_rfl
theorem Ls.lslice {w : World} {v : Value} {xs : List Int} (h : Ls w v xs) (hi : Nat) (h2 : hi ≤ xs.length) : ∃ ao c, Ls w (.slice ao hi c) (xs.take hi) ∧ (∀ W, (Instr.slice 23 v none (some (.int .i64 hi)) none).run Try.prog W = .ok (.slice ao hi c) W) := by
  obtain ⟨ao, c, hS, _, _, _, h5⟩ := Sl.slice (P := Try.prog) 23 2 Try.underlying23 sizeOf_longM h 0 hi (Nat.zero_le _) (by rw [List.length_map]; exact h2)
  refine ⟨ao, c, ?_, h5 rfl⟩
  unfold Ls
  rw [List.map_take]
  exact hS
set_option maxHeartbeats 400000 in
theorem matrixE (ae : Option Addr) (ce : Nat) (m : Int) (e : List Int) (w : World) (hm : 0 < m)  (hl : e.length ≤ 1000000) : Calls Try.prog 31 #[.int .i64 m, .slice ae e.length ce] w (fun r w' => ∃ sa sc, r = .returned (.agg #[.int .i64 1, .slice sa 2 sc, .slice ae e.length ce]) ∧ Own w' w.heap.size 3 (.slice sa 2 sc) [(e.length : Int) / m, m] ∧ Chg (fun _ => False) w w') := by
  have hm0 : ¬ m = 0 := by omega
  have hq : Int.tdiv (e.length : Int) m = (e.length : Int) / m := Int.tdiv_eq_ediv_of_nonneg (by omega)
  have hq0 : 0 ≤ (e.length : Int) / m := Int.ediv_nonneg (by omega) (by omega)
  have hq1 : (e.length : Int) / m ≤ e.length := Int.ediv_le_self _ (by omega)
  obtain ⟨q, hqq⟩ : ∃ q, (e.length : Int) / m = q := ⟨_, rfl⟩
  rw [hqq] at hq hq0 hq1
  have hw : IntKind.i64.wrap q = q := IntWalk.i64_in _ (by omega)
  have HR := Lib.hid hqq
  have hsl := own_lit (w.alloc (.cells #[.int .i64 1, .slice (some ⟨w.heap.size + 1, 0, none⟩) 2 2, .slice ae e.length ce] 25)) 3 [q, m] 2 rfl #[.int .i64 q, .int .i64 m] rfl (by simp)
  rw [World.size_alloc] at hsl
  have HC := Lib.hid (((Chg.refl (fun _ => False) w).alloc (.cells #[.int .i64 1, .slice (some ⟨w.heap.size + 1, 0, none⟩) 2 2, .slice ae e.length ce] 25)).alloc (.cells #[.int .i64 q, .int .i64 m] 3))
  have HSL := Lib.hid hsl
  clear hqq hq0 hq1 hsl
  go_enter Try.func31, Try.ntmps31
  go_wp2
  simp [bodyPost, results, Try.results31, go_sem]
  rw [HR.out]
  exact ⟨_, _, ⟨rfl, rfl⟩, HSL.out.mono (Nat.le_succ _), HC.out⟩
theorem BoxA.set2 {w0 w : World} {x base : Nat} {A : Ar} {v0 v1 v2 : Value} {sa ae : Option Addr} {ns ne cs ce : Nat} (hb : Bx w x v0 v1 v2) (h1 : Own w base 3 (.slice sa ns cs) A.s) (h2 : Ls w0 (.slice ae ne ce) A.e) (hC : Chg (fun _ => False) w0 w) (hx0 : w0.heap.size ≤ x) (hx : x < base) : BoxA (((w.setCell ⟨x, 0, none⟩ (.int .i64 A.k)).setCell ⟨x, 1, none⟩ (.slice sa ns cs)).setCell ⟨x, 2, none⟩ (.slice ae ne ce)) x A := by
  obtain ⟨z0, z1, z2, _, _, _⟩ := hb
  obtain ⟨_, _, e5, _⟩ := h1.ls.form
  obtain ⟨_, _, e6, _⟩ := h2.form
  injection e5 with _ e5 _
  injection e6 with _ e6 _
  subst e5 e6
  obtain ⟨⟨g0, g1⟩, g2⟩ := set3_cells (.int .i64 A.k) (.slice sa A.s.length cs) (.slice ae A.e.length ce) z0 z1 z2
  exact ⟨sa, cs, ae, ce, ⟨g0, g1, g2⟩, _, _, rfl, (own_set3 h1 hx _ _ _).ls, h2.fr (chg_set3 hC hx0 _ _ _)⟩
theorem tmod_bd (n : Int) (c : Nat) : -(c : Int) ≤ Int.tmod n ((c : Int) + 1) ∧ Int.tmod n ((c : Int) + 1) ≤ (c : Int) := by
  rcases Int.lt_or_le n 0 with h | h
  · obtain ⟨m, hm⟩ := Int.eq_ofNat_of_zero_le (show 0 ≤ -n by omega)
    rw [show n = -(m : Int) by omega, Int.neg_tmod, Int.tmod_eq_emod_of_nonneg (by omega)]
    have h1 := Int.emod_nonneg (m : Int) (show ((c : Int) + 1) ≠ 0 by omega)
    have h2 := Int.emod_lt_of_pos (m : Int) (show 0 < (c : Int) + 1 by omega)
    omega
  · rw [Int.tmod_eq_emod_of_nonneg h]
    have h1 := Int.emod_nonneg n (show ((c : Int) + 1) ≠ 0 by omega)
    have h2 := Int.emod_lt_of_pos n (show 0 < (c : Int) + 1 by omega)
    omega
def rowsA (D : Nat) (l : List Int) : Ar := matA (max 1 ((l.length / D : Nat) : Int)) (l.take (l.length / D * D))
theorem div_mul_le' (n D : Nat) : n / D * D ≤ n := Nat.div_mul_le_self n D
theorem ara_s {w : World} {k : Int} {vs ve : Value} {A : Ar} (h : Ara w (.agg #[.int .i64 k, vs, ve]) A) : Ls w vs A.s := by
  obtain ⟨_, _, e, h, _⟩ := h
  injection e with e
  injection e with e
  injection e with _ e
  injection e with e _
  rw [e]
  exact h
theorem lit_at {w : World} {b c n k : Nat} {xs : List Int} (h : Ls w (.slice (some ⟨b, 0, none⟩) n k) xs) (e : b = c) : Ls w (.slice (some ⟨c, 0, none⟩) n k) xs := by subst e; exact h
theorem Bx.at1 (w : World) (o : Obj) (t : TypeId) : Bx ((w.alloc o).alloc (.cells #[.int .i64 0, .slice none 0 0, .slice none 0 0] t)) (w.heap.size + 1) (.int .i64 0) (.slice none 0 0) (.slice none 0 0) := by
  have h := Bx.new (w.alloc o) (.int .i64 0) (.slice none 0 0) (.slice none 0 0) t
  rw [World.size_alloc] at h
  exact h
theorem rows_mat {D : Nat} {l : List Int} (h : (rowsA D l).e.length ≠ 0) : rowsA D l = matD D (l.length / D) (l.take (l.length / D * D)) ∧ (l.take (l.length / D * D)).length = D * (l.length / D) := by
  have hle := div_mul_le' l.length D
  have hlen : (l.take (l.length / D * D)).length = D * (l.length / D) := by
    rw [List.length_take, Nat.mul_comm D]
    exact Nat.min_eq_left hle
  refine ⟨?_, hlen⟩
  have ha : 0 < l.length / D := by
    rcases Nat.eq_zero_or_pos (l.length / D) with h0 | h0
    · exfalso
      apply h
      show (l.take (l.length / D * D)).length = 0
      rw [hlen, h0, Nat.mul_zero]
    · exact h0
  unfold rowsA matA matD
  rw [hlen]
  generalize l.length / D = a at *
  rw [show max 1 (a : Int) = (a : Int) by omega, Int.natCast_mul, Int.mul_ediv_cancel _ (by omega)]
theorem catM {D a b : Nat} {p q : List Int} (u v : Value) (w : World) (hA : Ara w u (matD D a p)) (hB : Ara w v (matD D b q)) (hd : D ≤ 4) (hs : D * (a + b) ≤ 4096) (hab : a + b ≤ 4096) (hp : p.length = D * a) (hq : q.length = D * b) : Calls Try.prog 29 #[u, v] w (GaveAE w (matD D (a + b) (catR D a b p q)) 0) := by
  have ha : D * a ≤ 4096 := Nat.le_trans (Nat.mul_le_mul_left D (Nat.le_add_right a b)) hs
  have hb : D * b ≤ 4096 := Nat.le_trans (Nat.mul_le_mul_left D (Nat.le_add_left b a)) hs
  have h1 := cat_any u v _ _ w hA hB (show p.length ≤ 1000000 by omega) (show q.length ≤ 1000000 by omega)
  rw [(cat_mat hd hs hab hp hq).1, (cat_mat hd hs hab hp hq).2] at h1
  exact h1
theorem takeM {D a b : Nat} {p q : List Int} (u v : Value) (w : World) (hL : Ara w u (vecB [(D : Int), (a : Int)])) (hA : Ara w v (matD D (a + b) (catR D a b p q))) (hd : D ≤ 4) (hs : D * (a + b) ≤ 4096) (hab : a + b ≤ 4096) (hp : p.length = D * a) : Calls Try.prog 26 #[u, v] w (GaveAE w (matD D a p) 0) := by
  have h1 := take_any u v _ _ w hL hA (by simp [vecB]) (show (catR D a b p q).length ≤ 1000000 by rw [catR_length]; omega)
  have h2 := take_mat (q := q) hd hab hs hp
  rw [show (matD D (a + b) (catR D a b p q)).s = [(D : Int), ((a + b : Nat) : Int)] from rfl, h2.1, h2.2] at h1
  exact h1
theorem dropM {D a b : Nat} {p q : List Int} (u v : Value) (w : World) (hL : Ara w u (vecB [0, (a : Int)])) (hA : Ara w v (matD D (a + b) (catR D a b p q))) (hd : D ≤ 4) (hs : D * (a + b) ≤ 4096) (hab : a + b ≤ 4096) (hq : q.length = D * b) : Calls Try.prog 28 #[u, v] w (GaveAE w (matD D b q) 0) := by
  have h1 := drop_any u v _ _ w hL hA (by simp [vecB]) (show (catR D a b p q).length ≤ 1000000 by rw [catR_length]; omega)
  have h2 := drop_mat (p := p) hd hab hs hq
  rw [show (matD D (a + b) (catR D a b p q)).s = [(D : Int), ((a + b : Nat) : Int)] from rfl, h2.1, h2.2] at h1
  exact h1
set_option maxRecDepth 100000 in
set_option maxHeartbeats 40000000 in
theorem moldParts_walk (v1 : Value) (l : List Int) (v2 : Value) (m : List Int) (n r : Int) (W : World) (h1 : Oklongs W v1 l) (h2 : Oklongs W v2 m) (hn0 : (Lit.int .i64 n).wf = true) (hr0 : (Lit.int .u8 r).wf = true) : Calls Try.prog 4 #[v1, v2, .int .i64 n, .int .u8 r] W (True_ W) := by
  have hn1 := wf_i64' hn0
  have hr1 : 0 ≤ r ∧ r ≤ 255 := by simpa [Lit.wf, IntKind.min, IntKind.max, IntKind.signed, IntKind.bits] using hr0
  clear hn0 hr0
  have hl := h1.1
  have hm := h2.1
  clear h1 h2
  have hal := alive_any W
  obtain ⟨a1, c1, rfl, _⟩ := hl.form
  obtain ⟨a2, c2, rfl, _⟩ := hm.form
  have HL := Lib.hid hl
  have HM := Lib.hid hm
  clear hl hm
  go_enter Try.func4, Try.ntmps4
  go_wp2_with fail
  refine hal.mono ?_
  clear hal
  rintro e9 w1 ⟨rfl, hC1⟩
  have HC := Lib.hid hC1
  clear hC1
  by_cases g1 : 2000 < l.length
  · have b1 : decide ((2000 : Int) < (l.length : Int)) = true := decide_eq_true (by omega)
    clear g1
    go_wp2
    go_ret
    exact ⟨rfl, HC.out⟩
  · by_cases g2 : 2000 < m.length
    · have b1 : decide ((2000 : Int) < (l.length : Int)) = false := decide_eq_false (by omega)
      have b2 : decide ((2000 : Int) < (m.length : Int)) = true := decide_eq_true (by omega)
      clear g1 g2
      go_wp2
      go_ret
      exact ⟨rfl, HC.out⟩
    · have b1 : decide ((2000 : Int) < (l.length : Int)) = false := decide_eq_false (by omega)
      have b2 : decide ((2000 : Int) < (m.length : Int)) = false := decide_eq_false (by omega)
      have HG := Lib.hid (show l.length ≤ 2000 ∧ m.length ≤ 2000 by omega)
      clear g1 g2
      have hg : l.length + m.length ≤ 4096 := by have := HG.out; omega
      have HR1 := Lib.hid hr1
      have hkb := tmod_bd n l.length
      obtain ⟨K, hK⟩ : ∃ K, Int.tmod n ((l.length : Int) + 1) = K := ⟨_, rfl⟩
      rw [hK] at hkb
      have HKK := Lib.hid hK
      clear hK
      have hk0 : ¬ (l.length : Int) + 1 = 0 := by omega
      have hw1 : IntKind.i64.wrap ((l.length : Int) + 1) = (l.length : Int) + 1 := IntWalk.i64_in _ (by omega)
      have hw1' : wrap64 ((l.length : Int) + 1) = (l.length : Int) + 1 := mwrap (by omega)
      have hw2 : IntKind.i64.wrap K = K := IntWalk.i64_in _ (by omega)
      have HK := Lib.hid hkb
      have hl4 : l.length ≤ 4096 := by omega
      have HKB := Lib.hid (show -4096 ≤ K ∧ K ≤ 4096 by have := HG.out; omega)
      have HPL := Lib.hid (part_len hkb hl4)
      have H1 := Lib.hid (show ∀ v w', Ls w' v l → Calls Try.prog 25 #[v] w' (GaveA w' (vecB l)) from fun v w' h => avector_any v l w' h (by omega))
      have H2 := Lib.hid (show ∀ w' u v, Ara w' u ⟨1, [], [K]⟩ → Ara w' v (vecB l) → Calls Try.prog 26 #[u, v] w' (GaveAE w' (vecB (tkV K l)) 0) from fun w' u v a b => takeC K u v l w' a b hl4 HKB.out)
      have H3 := Lib.hid (show ∀ w' u v, Ara w' u ⟨1, [], [K]⟩ → Ara w' v (vecB l) → Calls Try.prog 28 #[u, v] w' (GaveAE w' (vecB (drV K l)) 0) from fun w' u v a b => dropC K u v l w' a b hl4)
      have H4 := Lib.hid (show ∀ w' u v, Ara w' u (vecB (tkV K l)) → Ara w' v (vecB (drV K l)) → Calls Try.prog 29 #[u, v] w' (GaveAE w' (vecB (tkV K l ++ drV K l)) 0) from fun w' u v a b => catC u v _ _ w' a b (by have := HPL.out; omega))
      have H5 := Lib.hid (show ∀ w' u v, Ara w' u (vecB (drV K l)) → Ara w' v (vecB (tkV K l)) → Calls Try.prog 29 #[u, v] w' (GaveAE w' (vecB (drV K l ++ tkV K l)) 0) from fun w' u v a b => catC u v _ _ w' a b (by have := HPL.out; omega))
      obtain ⟨A, hA⟩ : ∃ A, vecB l = A := ⟨_, rfl⟩
      obtain ⟨TX, hTX⟩ : ∃ TX, vecB (tkV K l) = TX := ⟨_, rfl⟩
      obtain ⟨TY, hTY⟩ : ∃ TY, vecB (drV K l) = TY := ⟨_, rfl⟩
      obtain ⟨TB, hTB⟩ : ∃ TB, vecB (tkV K l ++ drV K l) = TB := ⟨_, rfl⟩
      obtain ⟨TC, hTC⟩ : ∃ TC, vecB (drV K l ++ tkV K l) = TC := ⟨_, rfl⟩
      rw [hA] at H1 H2 H3
      rw [hTX] at H2 H4 H5
      rw [hTY] at H3 H4 H5
      rw [hTB] at H4
      rw [hTC] at H5
      have HTB := Lib.hid (show 0 ≤ K → TB = A from fun h => by rw [← hTB, ← hA, part_front ⟨h, hkb.2⟩ hl4])
      have HTC := Lib.hid (show K < 0 → TC = A from fun h => by rw [← hTC, ← hA, part_end ⟨hkb.1, h⟩ hl4])
      have HAL := Lib.hid (show A.e.length ≤ 1000000 ∧ A.s.length ≤ 1000000 by rw [← hA]; exact ⟨show l.length ≤ _ by omega, by simp [vecB]⟩)
      clear hA hTX hTY hTB hTC hkb hl4 hr1 hn1 hg
      have h1 := H1.out _ w1 (HL.out.fr HC.out)
      go_wp2_with fail
      refine h1.mono ?_
      clear h1 H1
      rintro e9 w4 ⟨v9, rfl, ho9, hC9⟩
      obtain ⟨a9, c9, b9, d9, rfl, _, _⟩ := ara_new ho9
      have hbA := BoxA.new (A := A) 25 ho9.ara
      have hC8 := hC9.alloc (.cells #[.int .i64 A.k, .slice a9 A.s.length c9, .slice b9 A.e.length d9] 25)
      replace HC := Lib.hid (HC.out.tr hC8)
      obtain ⟨x6, hx⟩ : ∃ x, w4.heap.size = x := ⟨_, rfl⟩
      rw [hx] at hbA
      clear hC9 ho9
      clear hC8
      have hK := HKK.out
      go_wp2_with fail
      clear hx hK
      generalize w4.alloc (.cells #[.int .i64 A.k, .slice a9 A.s.length c9, .slice b9 A.e.length d9] 25) = wy at *
      obtain ⟨sa, cs, sb, cb, ⟨y0, y1, y2⟩, hb1⟩ := id hbA
      have HR := H2
      go_cut [12, 13] (fun s4 s5 wx => ∃ x, s4 = .pointer (some ⟨x, 0, none⟩) ∧ s5 = .int .i64 0 ∧ BoxA wx x TX ∧ Chg (fun _ => False) wy wx)
      case first =>
        have KP := Lib.hid (show ∀ w', Chg (fun _ => False) wy w' → (Chg (fun _ => False) wy w' ∧ w'.cell? ⟨x6, 0, none⟩ = some (.int .i64 A.k) ∧ w'.cell? ⟨x6, 1, none⟩ = some (.slice sa A.s.length cs) ∧ w'.cell? ⟨x6, 2, none⟩ = some (.slice sb A.e.length cb)) from fun w' h => ⟨h, h.cell y0 id, h.cell y1 id, h.cell y2 id⟩)
        have HA := Lib.hid (show ∀ w', Chg (fun _ => False) wy w' → Ara w' (.agg #[.int .i64 A.k, .slice sa A.s.length cs, .slice sb A.e.length cb]) A from fun w' h => hb1.fr h)
        go_region_held3 (fun w' => Chg (fun _ => False) wy w' ∧ w'.cell? ⟨x6, 0, none⟩ = some (.int .i64 A.k) ∧ w'.cell? ⟨x6, 1, none⟩ = some (.slice sa A.s.length cs) ∧ w'.cell? ⟨x6, 2, none⟩ = some (.slice sb A.e.length cb)) ((refine KP.out _ ?_; repeat (first | (with_reducible exact Chg.refl _ _) | assumption | (with_reducible refine chg_drew' ?_) | (with_reducible refine chg_alloc' ?_) | (with_reducible refine Chg.tr ?_ hC6) | (with_reducible refine Chg.tr ?_ hC5) | (with_reducible refine Chg.setCell ?_ (.inr hs5) _) | (refine Chg.setCell ?_ (.inr (by simp only []; omega)) _)))) (first
          | (go_at_call 27
             (with_reducible refine (ascalar_any K _).mono ?_)
             rintro e9 w5 ⟨v5, rfl, ho5, hC5⟩
             obtain ⟨a5, c5, a6, c6, rfl, _, _⟩ := ara_new ho5
             simp only [List.length_cons, List.length_nil, Nat.reduceAdd] at ho5 ⊢
             have hs5 : wy.heap.size ≤ w5.heap.size := (by have := hC5.size; simp at this; omega)
             (first
              | have hB5 := (Bx.new wy (.int .i64 0) (.slice none 0 0) (.slice none 0 0) 25).fr (((Chg.refl (fun _ => False) _).drew).tr hC5)
              | skip))
          | (go_at_call 26
             with_reducible refine (HR.out _ _ _ ?_ ?_).mono ?_
             · first
               | exact ho5.ara.fr (Chg.refl _ _)
               | exact ho5.ara.fr ((Chg.refl _ _).drew)
               | exact ho5.ara.fr ((Chg.refl _ _).alloc _)
               | exact ho5.ara.fr (((Chg.refl _ _).alloc _).drew)
             · refine HA.out _ ?_
               repeat (first | (with_reducible exact Chg.refl _ _) | assumption | (with_reducible refine chg_drew' ?_) | (with_reducible refine chg_alloc' ?_) | (with_reducible refine Chg.tr ?_ hC5))
             rintro e9 w6 ⟨v6, rfl, ho6, hC6⟩
             obtain ⟨a7, c7, a8, c8, rfl, _, _⟩ := ara_new ho6
             (first
              | (have hB6 := hB5.fr hC6
                 have hl6 := Lib.hid ((hB5.lt : wy.heap.size < _))
                 obtain ⟨z0, z1, z2, f0, f1, f2⟩ := id hB6)
              | (have hB6 := (Bx.new w5 (.int .i64 0) (.slice none 0 0) (.slice none 0 0) 25).fr hC6
                 have hl6 := Lib.hid (((Bx.new w5 (.int .i64 0) (.slice none 0 0) (.slice none 0 0) 25).lt : w5.heap.size < _))
                 obtain ⟨z0, z1, z2, f0, f1, f2⟩ := id hB6)
              | skip)))
        all_goals
          rename_i hHd
          go_wp2_with fail
          go_meet
          refine ⟨_, rfl, rfl, ?_, hHd.1⟩
          first
          | exact BoxA.new (A := TX) 25 ho6.ara
          | exact BoxA.set (A := TX) hB6 ho6 hl6.out
      case rest =>
        obtain ⟨x12, rfl, rfl, hbX, hCc⟩ := hcut
        replace hbA := hbA.fr hCc
        replace HC := Lib.hid (HC.out.tr hCc)
        clear hCc y0 y1 y2 hb1 HR H2
        have HR := H3
        go_wp2_with fail
        generalize wc = wz at *
        obtain ⟨sa, cs, sb, cb, ⟨y0, y1, y2⟩, hb1⟩ := id hbA
        go_cut [14, 15] (fun s4 s5 wx => ∃ x, s4 = .pointer (some ⟨x, 0, none⟩) ∧ s5 = .int .i64 0 ∧ BoxA wx x TY ∧ Chg (fun _ => False) wz wx)
        case first =>
          have KP := Lib.hid (show ∀ w', Chg (fun _ => False) wz w' → (Chg (fun _ => False) wz w' ∧ w'.cell? ⟨x6, 0, none⟩ = some (.int .i64 A.k) ∧ w'.cell? ⟨x6, 1, none⟩ = some (.slice sa A.s.length cs) ∧ w'.cell? ⟨x6, 2, none⟩ = some (.slice sb A.e.length cb)) from fun w' h => ⟨h, h.cell y0 id, h.cell y1 id, h.cell y2 id⟩)
          have HA := Lib.hid (show ∀ w', Chg (fun _ => False) wz w' → Ara w' (.agg #[.int .i64 A.k, .slice sa A.s.length cs, .slice sb A.e.length cb]) A from fun w' h => hb1.fr h)
          go_region_held3 (fun w' => Chg (fun _ => False) wz w' ∧ w'.cell? ⟨x6, 0, none⟩ = some (.int .i64 A.k) ∧ w'.cell? ⟨x6, 1, none⟩ = some (.slice sa A.s.length cs) ∧ w'.cell? ⟨x6, 2, none⟩ = some (.slice sb A.e.length cb)) ((refine KP.out _ ?_; repeat (first | (with_reducible exact Chg.refl _ _) | assumption | (with_reducible refine chg_drew' ?_) | (with_reducible refine chg_alloc' ?_) | (with_reducible refine Chg.tr ?_ hC6) | (with_reducible refine Chg.tr ?_ hC5) | (with_reducible refine Chg.setCell ?_ (.inr hs5) _) | (refine Chg.setCell ?_ (.inr (by simp only []; omega)) _)))) (first
            | (go_at_call 27
               (with_reducible refine (ascalar_any K _).mono ?_)
               rintro e9 w5 ⟨v5, rfl, ho5, hC5⟩
               obtain ⟨a5, c5, a6, c6, rfl, _, _⟩ := ara_new ho5
               simp only [List.length_cons, List.length_nil, Nat.reduceAdd] at ho5 ⊢
               have hs5 : wz.heap.size ≤ w5.heap.size := (by have := hC5.size; simp at this; omega)
               (first
                | have hB5 := (Bx.new wz (.int .i64 0) (.slice none 0 0) (.slice none 0 0) 25).fr (((Chg.refl (fun _ => False) _).drew).tr hC5)
                | skip))
            | (go_at_call 28
               with_reducible refine (HR.out _ _ _ ?_ ?_).mono ?_
               · first
                 | exact ho5.ara.fr (Chg.refl _ _)
                 | exact ho5.ara.fr ((Chg.refl _ _).drew)
                 | exact ho5.ara.fr ((Chg.refl _ _).alloc _)
                 | exact ho5.ara.fr (((Chg.refl _ _).alloc _).drew)
               · refine HA.out _ ?_
                 repeat (first | (with_reducible exact Chg.refl _ _) | assumption | (with_reducible refine chg_drew' ?_) | (with_reducible refine chg_alloc' ?_) | (with_reducible refine Chg.tr ?_ hC5))
               rintro e9 w6 ⟨v6, rfl, ho6, hC6⟩
               obtain ⟨a7, c7, a8, c8, rfl, _, _⟩ := ara_new ho6
               (first
                | (have hB6 := hB5.fr hC6
                   have hl6 := Lib.hid ((hB5.lt : wz.heap.size < _))
                   obtain ⟨z0, z1, z2, f0, f1, f2⟩ := id hB6)
                | (have hB6 := (Bx.new w5 (.int .i64 0) (.slice none 0 0) (.slice none 0 0) 25).fr hC6
                   have hl6 := Lib.hid (((Bx.new w5 (.int .i64 0) (.slice none 0 0) (.slice none 0 0) 25).lt : w5.heap.size < _))
                   obtain ⟨z0, z1, z2, f0, f1, f2⟩ := id hB6)
                | skip)))
          all_goals
            rename_i hHd
            go_wp2_with fail
            go_meet
            refine ⟨_, rfl, rfl, ?_, hHd.1⟩
            first
            | exact BoxA.new (A := TY) 25 ho6.ara
            | exact BoxA.set (A := TY) hB6 ho6 hl6.out
        case rest =>
          obtain ⟨x14, rfl, rfl, hbY, hCc⟩ := hcut
          replace hbA := hbA.fr hCc
          replace hbX := hbX.fr hCc
          replace HC := Lib.hid (HC.out.tr hCc)
          clear hCc y0 y1 y2 hb1 HR H3
          obtain ⟨sa, cs, sb, cb, ⟨y0, y1, y2⟩, hb1⟩ := id hbX
          obtain ⟨qa, cq, qb, dq, ⟨p0, p1, p2⟩, hb2⟩ := id hbY
          have h1 := H4.out _ _ _ hb1 hb2
          go_wp2_with fail
          refine h1.mono ?_
          clear h1 y0 y1 y2 hb1 p0 p1 p2 hb2 H4
          rintro e9 w7 ⟨v9, rfl, ho9, hC9⟩
          obtain ⟨a9, c9, b9, d9, rfl, _, _⟩ := ara_new ho9
          have hbB := BoxA.new (A := TB) 25 ho9.ara
          have hB := Bx.new w7 (.int .i64 TB.k) (.slice a9 TB.s.length c9) (.slice b9 TB.e.length d9) 25
          replace HC := Lib.hid (HC.out.tr hC9)
          have hA7 := hbA.fr hC9
          have hCl := (Chg.refl (fun _ => False) w7).alloc (.cells #[.int .i64 TB.k, .slice a9 TB.s.length c9, .slice b9 TB.e.length d9] 25)
          replace hbX := (hbX.fr hC9).fr hCl
          replace hbY := (hbY.fr hC9).fr hCl
          obtain ⟨x16, hx⟩ : ∃ x, w7.heap.size = x := ⟨_, rfl⟩
          rw [hx] at hbB hB
          have HX := Lib.hid hx
          clear hC9 ho9 hbA
          go_upto_if 69 with (fail)
          clear hx
          generalize w7.alloc (.cells #[.int .i64 TB.k, .slice a9 TB.s.length c9, .slice b9 TB.e.length d9] 25) = w8 at *
          go_cut [16, 17] (fun s4 s5 wx => s4 = .pointer (some ⟨x16, 0, none⟩) ∧ s5 = .int .i64 0 ∧ BoxA wx x16 A ∧ BoxA wx x6 A ∧ Chg (fun _ => False) W wx)
          case first =>
            by_cases hk0 : K < 0
            · have d1 : decide (K < 0) = true := decide_eq_true hk0
              have hT := HTC.out hk0
              subst hT
              have hk1 : ¬ 0 ≤ K := by omega
              obtain ⟨sa, cs, sb, cb, ⟨y0, y1, y2⟩, hb1⟩ := id hbY
              obtain ⟨qa, cq, qb, dq, ⟨p0, p1, p2⟩, hb2⟩ := id hbX
              have h1 := H5.out _ _ _ hb1 hb2
              go_wp2_with fail
              refine h1.mono ?_
              clear h1 y0 y1 y2 hb1 p0 p1 p2 hb2
              rintro e9 w9 ⟨v9, rfl, ho9, hC9⟩
              obtain ⟨a3, c3, b3, d3, rfl, _, _⟩ := ara_new ho9
              have hB9 := hB.fr hC9
              obtain ⟨z0, z1, z2, f0, f1, f2⟩ := id hB9
              have hlt := hB.lt
              have hC79 := hCl.tr hC9
              clear hbB
              go_wp2_with fail
              go_meet
              refine ⟨rfl, rfl, BoxA.set (A := TC) hB9 ho9 hlt, hA7.fr ?_, HC.out.tr ?_⟩
              · exact chg_set3 hC79 (by rw [HX.out]; exact Nat.le_refl _) _ _ _
              · exact chg_set3 hC79 (by rw [HX.out]; exact Nat.le_refl _) _ _ _
            · have d1 : decide (K < 0) = false := decide_eq_false hk0
              have hT := HTB.out (by omega)
              have hk1 : 0 ≤ K := by omega
              go_wp2_with fail
              go_meet
              exact ⟨rfl, rfl, hT ▸ hbB, hA7.fr hCl, HC.out.tr hCl⟩
          case rest =>
            obtain ⟨rfl, rfl, hbB2, hbA, HC2⟩ := hcut
            replace HC := Lib.hid HC2
            clear HC2 hbB hB hA7 hCl hbX hbY H5 HTC HTB
            obtain ⟨sa, cs, sb, cb, ⟨y0, y1, y2⟩, hb1⟩ := id hbB2
            obtain ⟨qa, cq, qb, dq, ⟨p0, p1, p2⟩, hb2⟩ := id hbA
            have h1 := isC _ _ _ _ hb1 hb2 HAL.out
            go_wp2_with fail
            refine h1.mono ?_
            clear h1 y0 y1 y2 hb1 p0 p1 p2 hb2
            rintro e9 w10 ⟨rfl, hC9⟩
            replace HC := Lib.hid (HC.out.tr hC9)
            clear hC9 hbB2 hbA HAL HPL HKB HK
            have hr1 := HR1.out
            obtain ⟨D, hD⟩ : ∃ D : Nat, 1 + r % 4 = (D : Int) := ⟨(1 + r % 4).toNat, by omega⟩
            have HD := Lib.hid (show 1 ≤ D ∧ D ≤ 4 by omega)
            have hD0 : ¬ (D : Int) = 0 := by omega
            have hD1 : ¬ D = 0 := by omega
            have hr2 : wrap64 r = r := mwrap (by omega)
            have hD2 : wrap64 (1 + Int.tmod r 4) = (D : Int) := by rw [Int.tmod_eq_emod_of_nonneg (by omega), hD]; exact mwrap (by omega)
            clear hr1 hD hk0 hw1 hw1' hw2
            have HFL := Lib.hid (HL.out.fr HC.out)
            go_wp2_with fail
            rw [hD2]
            clear hr2 hD2
            generalize w10 = wy at *
            go_cut [19] (fun s19 wx => ∃ x, s19 = .pointer (some ⟨x, 0, none⟩) ∧ BoxA wx x (rowsA D l) ∧ Chg (fun _ => False) wy wx)
            case first =>
              as_aux_lemma =>
                obtain ⟨q, hq⟩ : ∃ q, (l).length / D = q := ⟨_, rfl⟩
                have hqD := div_mul_le' (l).length D
                rw [hq] at hqD
                obtain ⟨P, hP⟩ : ∃ P, q * D = P := ⟨_, rfl⟩
                rw [hP] at hqD
                have hL2 := HG.out.1
                have hqb : q ≤ (l).length := by rw [← hq]; exact Nat.div_le_self _ _
                obtain ⟨ap, cp, hls, hsl⟩ := HFL.out.lslice P hqD
                have hR : rowsA D (l) = matA (max 1 (q : Int)) ((l).take P) := by unfold rowsA; rw [hq, hP]
                have HRM := Lib.hid hR
                have hlen : ((l).take P).length = P := by rw [List.length_take]; omega
                have hqw : IntKind.i64.wrap (q : Int) = (q : Int) := IntWalk.i64_in _ (by omega)
                have hPb : -9223372036854775808 ≤ (P : Int) ∧ (P : Int) ≤ 9223372036854775807 := by omega
                have hPM : (q : Int) * (D : Int) = (P : Int) := by rw [← Int.natCast_mul, hP]
                have HMW := Lib.hid (show wrap64 ((q : Int) * (D : Int)) = (P : Int) ∧ IntKind.i64.wrap ((q : Int) * (D : Int)) = (P : Int) by rw [hPM]; exact ⟨mwrap hPb, IntWalk.i64_in _ hPb⟩)
                clear hPM
                have HME := Lib.hid (show ∀ M w', 0 < M → Calls Try.prog 31 #[.int .i64 M, .slice ap P cp] w' (fun r w2 => ∃ sa sc, r = .returned (.agg #[.int .i64 1, .slice sa 2 sc, .slice ap P cp]) ∧ Own w2 w'.heap.size 3 (.slice sa 2 sc) [(P : Int) / M, M] ∧ Chg (fun _ => False) w' w2) from fun M w' hM => by have h := matrixE ap cp M ((l).take P) w' hM (by omega); rw [hlen] at h; exact h)
                have HLS := Lib.hid hls
                have HLEN := Lib.hid hlen
                have htd : Int.tdiv ((l).length : Int) (D : Int) = (q : Int) := by rw [Int.tdiv_eq_ediv_of_nonneg (by omega), ← Int.natCast_ediv, hq]
                have HTD := Lib.hid htd
                clear htd hls hlen hR hP hq
                by_cases h1 : 1 < q
                · have hmx : max 1 (q : Int) = (q : Int) := by omega
                  have h1i : (1 : Int) < (q : Int) := by omega
                  have HMX := Lib.hid hmx
                  have hM0 : 0 < (q : Int) := by omega
                  clear hqD hL2 hqb hmx
                  have htd := HTD.out
                  have hmw := HMW.out.1
                  have hmw2 := HMW.out.2
                  go_region_held3 (fun w' => Chg (fun _ => False) wy w') ((repeat (first | (with_reducible exact Chg.refl _ _) | assumption | (with_reducible refine chg_drew' ?_) | (with_reducible refine chg_alloc' ?_) | (with_reducible refine Chg.tr ?_ hC5) | (with_reducible refine Chg.setCell ?_ (.inr hs5) _) | (refine Chg.setCell ?_ (.inr (by clear htd hmw hmw2; simp only []; omega)) _)))) (first
                    | (go_at_call 31
                       (with_reducible refine (HME.out _ _ hM0).mono ?_)
                       rintro e9 w5 ⟨sa5, sc5, rfl, ho5, hC5⟩
                       have hs5 : wy.heap.size ≤ w5.heap.size := (by have := hC5.size; clear htd hmw hmw2; simp at this; omega)
                       (first
                        | (have hB5 := (Bx.new wy (.int .i64 0) (.slice none 0 0) (.slice none 0 0) 25).fr (((Chg.refl (fun _ => False) _).drew).tr hC5)
                           have hl5 := Lib.hid ((Bx.new wy (.int .i64 0) (.slice none 0 0) (.slice none 0 0) 25).lt : wy.heap.size < _)
                           obtain ⟨z0, z1, z2, f0, f1, f2⟩ := id hB5)
                        | skip)))
                  all_goals
                    rename_i hHd
                    clear htd hmw hmw2
                    go_wp2_with fail
                    go_meet
                    refine ⟨_, rfl, ?_, hHd⟩
                    rw [HRM.out, HMX.out]
                    have hsE : matA ((q : Int)) ((l).take P) = ⟨1, [(P : Int) / ((q : Int)), ((q : Int))], (l).take P⟩ := by unfold matA; rw [HLEN.out]
                    rw [hsE]
                    first
                    | exact BoxA.new (A := ⟨1, [(P : Int) / ((q : Int)), ((q : Int))], (l).take P⟩) 25 (Ara.mk (k := 1) ho5.ls (HLS.out.fr (((Chg.refl _ _).drew).tr hC5)))
                    | exact BoxA.set2 (w0 := wy) (A := ⟨1, [(P : Int) / ((q : Int)), ((q : Int))], (l).take P⟩) hB5 ho5 HLS.out ((((Chg.refl _ wy).alloc _).drew).tr hC5) (Nat.le_refl _) (by simp)
                · have hmx : max 1 (q : Int) = 1 := by omega
                  have h1i : ¬ (1 : Int) < (q : Int) := by omega
                  have HMX := Lib.hid hmx
                  have hM0 : (0 : Int) < 1 := by decide
                  clear hqD hL2 hqb hmx
                  have htd := HTD.out
                  have hmw := HMW.out.1
                  have hmw2 := HMW.out.2
                  go_region_held3 (fun w' => Chg (fun _ => False) wy w') ((repeat (first | (with_reducible exact Chg.refl _ _) | assumption | (with_reducible refine chg_drew' ?_) | (with_reducible refine chg_alloc' ?_) | (with_reducible refine Chg.tr ?_ hC5) | (with_reducible refine Chg.setCell ?_ (.inr hs5) _) | (refine Chg.setCell ?_ (.inr (by clear htd hmw hmw2; simp only []; omega)) _)))) (first
                    | (go_at_call 31
                       (with_reducible refine (HME.out _ _ hM0).mono ?_)
                       rintro e9 w5 ⟨sa5, sc5, rfl, ho5, hC5⟩
                       have hs5 : wy.heap.size ≤ w5.heap.size := (by have := hC5.size; clear htd hmw hmw2; simp at this; omega)
                       (first
                        | (have hB5 := (Bx.new wy (.int .i64 0) (.slice none 0 0) (.slice none 0 0) 25).fr (((Chg.refl (fun _ => False) _).drew).tr hC5)
                           have hl5 := Lib.hid ((Bx.new wy (.int .i64 0) (.slice none 0 0) (.slice none 0 0) 25).lt : wy.heap.size < _)
                           obtain ⟨z0, z1, z2, f0, f1, f2⟩ := id hB5)
                        | skip)))
                  all_goals
                    rename_i hHd
                    clear htd hmw hmw2
                    go_wp2_with fail
                    go_meet
                    refine ⟨_, rfl, ?_, hHd⟩
                    rw [HRM.out, HMX.out]
                    have hsE : matA (1) ((l).take P) = ⟨1, [(P : Int) / (1), (1)], (l).take P⟩ := by unfold matA; rw [HLEN.out]
                    rw [hsE]
                    first
                    | exact BoxA.new (A := ⟨1, [(P : Int) / (1), (1)], (l).take P⟩) 25 (Ara.mk (k := 1) ho5.ls (HLS.out.fr (((Chg.refl _ _).drew).tr hC5)))
                    | exact BoxA.set2 (w0 := wy) (A := ⟨1, [(P : Int) / (1), (1)], (l).take P⟩) hB5 ho5 HLS.out ((((Chg.refl _ wy).alloc _).drew).tr hC5) (Nat.le_refl _) (by simp)
            case rest =>
              obtain ⟨x19, rfl, hbP, hCc⟩ := hcut
              replace HC := Lib.hid (HC.out.tr hCc)
              clear hCc HFL
              have HFL := Lib.hid (HM.out.fr HC.out)
              go_wp2_with fail
              generalize wc = wy at *
              go_cut [20] (fun s19 wx => ∃ x, s19 = .pointer (some ⟨x, 0, none⟩) ∧ BoxA wx x (rowsA D m) ∧ Chg (fun _ => False) wy wx)
              case first =>
                as_aux_lemma =>
                  obtain ⟨q, hq⟩ : ∃ q, (m).length / D = q := ⟨_, rfl⟩
                  have hqD := div_mul_le' (m).length D
                  rw [hq] at hqD
                  obtain ⟨P, hP⟩ : ∃ P, q * D = P := ⟨_, rfl⟩
                  rw [hP] at hqD
                  have hL2 := HG.out.2
                  have hqb : q ≤ (m).length := by rw [← hq]; exact Nat.div_le_self _ _
                  obtain ⟨ap, cp, hls, hsl⟩ := HFL.out.lslice P hqD
                  have hR : rowsA D (m) = matA (max 1 (q : Int)) ((m).take P) := by unfold rowsA; rw [hq, hP]
                  have HRM := Lib.hid hR
                  have hlen : ((m).take P).length = P := by rw [List.length_take]; omega
                  have hqw : IntKind.i64.wrap (q : Int) = (q : Int) := IntWalk.i64_in _ (by omega)
                  have hPb : -9223372036854775808 ≤ (P : Int) ∧ (P : Int) ≤ 9223372036854775807 := by omega
                  have hPM : (q : Int) * (D : Int) = (P : Int) := by rw [← Int.natCast_mul, hP]
                  have HMW := Lib.hid (show wrap64 ((q : Int) * (D : Int)) = (P : Int) ∧ IntKind.i64.wrap ((q : Int) * (D : Int)) = (P : Int) by rw [hPM]; exact ⟨mwrap hPb, IntWalk.i64_in _ hPb⟩)
                  clear hPM
                  have HME := Lib.hid (show ∀ M w', 0 < M → Calls Try.prog 31 #[.int .i64 M, .slice ap P cp] w' (fun r w2 => ∃ sa sc, r = .returned (.agg #[.int .i64 1, .slice sa 2 sc, .slice ap P cp]) ∧ Own w2 w'.heap.size 3 (.slice sa 2 sc) [(P : Int) / M, M] ∧ Chg (fun _ => False) w' w2) from fun M w' hM => by have h := matrixE ap cp M ((m).take P) w' hM (by omega); rw [hlen] at h; exact h)
                  have HLS := Lib.hid hls
                  have HLEN := Lib.hid hlen
                  have htd : Int.tdiv ((m).length : Int) (D : Int) = (q : Int) := by rw [Int.tdiv_eq_ediv_of_nonneg (by omega), ← Int.natCast_ediv, hq]
                  have HTD := Lib.hid htd
                  clear htd hls hlen hR hP hq
                  by_cases h1 : 1 < q
                  · have hmx : max 1 (q : Int) = (q : Int) := by omega
                    have h1i : (1 : Int) < (q : Int) := by omega
                    have HMX := Lib.hid hmx
                    have hM0 : 0 < (q : Int) := by omega
                    clear hqD hL2 hqb hmx
                    have htd := HTD.out
                    have hmw := HMW.out.1
                    have hmw2 := HMW.out.2
                    go_region_held3 (fun w' => Chg (fun _ => False) wy w') ((repeat (first | (with_reducible exact Chg.refl _ _) | assumption | (with_reducible refine chg_drew' ?_) | (with_reducible refine chg_alloc' ?_) | (with_reducible refine Chg.tr ?_ hC5) | (with_reducible refine Chg.setCell ?_ (.inr hs5) _) | (refine Chg.setCell ?_ (.inr (by clear htd hmw hmw2; simp only []; omega)) _)))) (first
                      | (go_at_call 31
                         (with_reducible refine (HME.out _ _ hM0).mono ?_)
                         rintro e9 w5 ⟨sa5, sc5, rfl, ho5, hC5⟩
                         have hs5 : wy.heap.size ≤ w5.heap.size := (by have := hC5.size; clear htd hmw hmw2; simp at this; omega)
                         (first
                          | (have hB5 := (Bx.new wy (.int .i64 0) (.slice none 0 0) (.slice none 0 0) 25).fr (((Chg.refl (fun _ => False) _).drew).tr hC5)
                             have hl5 := Lib.hid ((Bx.new wy (.int .i64 0) (.slice none 0 0) (.slice none 0 0) 25).lt : wy.heap.size < _)
                             obtain ⟨z0, z1, z2, f0, f1, f2⟩ := id hB5)
                          | skip)))
                    all_goals
                      rename_i hHd
                      clear htd hmw hmw2
                      go_wp2_with fail
                      go_meet
                      refine ⟨_, rfl, ?_, hHd⟩
                      rw [HRM.out, HMX.out]
                      have hsE : matA ((q : Int)) ((m).take P) = ⟨1, [(P : Int) / ((q : Int)), ((q : Int))], (m).take P⟩ := by unfold matA; rw [HLEN.out]
                      rw [hsE]
                      first
                      | exact BoxA.new (A := ⟨1, [(P : Int) / ((q : Int)), ((q : Int))], (m).take P⟩) 25 (Ara.mk (k := 1) ho5.ls (HLS.out.fr (((Chg.refl _ _).drew).tr hC5)))
                      | exact BoxA.set2 (w0 := wy) (A := ⟨1, [(P : Int) / ((q : Int)), ((q : Int))], (m).take P⟩) hB5 ho5 HLS.out ((((Chg.refl _ wy).alloc _).drew).tr hC5) (Nat.le_refl _) (by simp)
                  · have hmx : max 1 (q : Int) = 1 := by omega
                    have h1i : ¬ (1 : Int) < (q : Int) := by omega
                    have HMX := Lib.hid hmx
                    have hM0 : (0 : Int) < 1 := by decide
                    clear hqD hL2 hqb hmx
                    have htd := HTD.out
                    have hmw := HMW.out.1
                    have hmw2 := HMW.out.2
                    go_region_held3 (fun w' => Chg (fun _ => False) wy w') ((repeat (first | (with_reducible exact Chg.refl _ _) | assumption | (with_reducible refine chg_drew' ?_) | (with_reducible refine chg_alloc' ?_) | (with_reducible refine Chg.tr ?_ hC5) | (with_reducible refine Chg.setCell ?_ (.inr hs5) _) | (refine Chg.setCell ?_ (.inr (by clear htd hmw hmw2; simp only []; omega)) _)))) (first
                      | (go_at_call 31
                         (with_reducible refine (HME.out _ _ hM0).mono ?_)
                         rintro e9 w5 ⟨sa5, sc5, rfl, ho5, hC5⟩
                         have hs5 : wy.heap.size ≤ w5.heap.size := (by have := hC5.size; clear htd hmw hmw2; simp at this; omega)
                         (first
                          | (have hB5 := (Bx.new wy (.int .i64 0) (.slice none 0 0) (.slice none 0 0) 25).fr (((Chg.refl (fun _ => False) _).drew).tr hC5)
                             have hl5 := Lib.hid ((Bx.new wy (.int .i64 0) (.slice none 0 0) (.slice none 0 0) 25).lt : wy.heap.size < _)
                             obtain ⟨z0, z1, z2, f0, f1, f2⟩ := id hB5)
                          | skip)))
                    all_goals
                      rename_i hHd
                      clear htd hmw hmw2
                      go_wp2_with fail
                      go_meet
                      refine ⟨_, rfl, ?_, hHd⟩
                      rw [HRM.out, HMX.out]
                      have hsE : matA (1) ((m).take P) = ⟨1, [(P : Int) / (1), (1)], (m).take P⟩ := by unfold matA; rw [HLEN.out]
                      rw [hsE]
                      first
                      | exact BoxA.new (A := ⟨1, [(P : Int) / (1), (1)], (m).take P⟩) 25 (Ara.mk (k := 1) ho5.ls (HLS.out.fr (((Chg.refl _ _).drew).tr hC5)))
                      | exact BoxA.set2 (w0 := wy) (A := ⟨1, [(P : Int) / (1), (1)], (m).take P⟩) hB5 ho5 HLS.out ((((Chg.refl _ wy).alloc _).drew).tr hC5) (Nat.le_refl _) (by simp)
              case rest =>
                obtain ⟨x20, rfl, hbQ, hCc⟩ := hcut
                replace HC := Lib.hid (HC.out.tr hCc)
                replace hbP := hbP.fr hCc
                clear hCc HFL
                have hPQ := HD.out
                obtain ⟨sa, cs, sb, cb, ⟨y0, y1, y2⟩, hb1⟩ := id hbP
                obtain ⟨qa, cq, qb, dq, ⟨p0, p1, p2⟩, hb2⟩ := id hbQ
                by_cases hp0 : (rowsA D l).e.length = 0
                · rw [hp0] at y2
                  clear hp0 hb1 hb2 hbP hbQ hPQ
                  go_wp2
                  go_ret
                  exact ⟨rfl, HC.out⟩
                · by_cases hq0 : (rowsA D m).e.length = 0
                  · rw [hq0] at p2
                    have bp : (((rowsA D l).e.length : Int) == 0) = false := beq_eq_false_iff_ne.2 (by omega)
                    clear hq0 hp0 hb1 hb2 hbP hbQ hPQ
                    go_wp2
                    go_ret
                    exact ⟨rfl, HC.out⟩
                  · obtain ⟨e1, l1⟩ := rows_mat hp0
                    obtain ⟨e2, l2⟩ := rows_mat hq0
                    have bp : (((rowsA D l).e.length : Int) == 0) = false := beq_eq_false_iff_ne.2 (by omega)
                    have bq : (((rowsA D m).e.length : Int) == 0) = false := beq_eq_false_iff_ne.2 (by omega)
                    clear hp0 hq0 hb1 hb2 y0 y1 y2 p0 p1 p2
                    have hla := div_mul_le' l.length D
                    have hlb := div_mul_le' m.length D
                    have hga := Nat.div_le_self l.length D
                    have hgb := Nat.div_le_self m.length D
                    generalize l.take (l.length / D * D) = lp at *
                    generalize m.take (m.length / D * D) = lq at *
                    generalize l.length / D = ga at *
                    generalize m.length / D = gb at *
                    have hs : D * (ga + gb) ≤ 4096 := by rw [Nat.mul_add, Nat.mul_comm D ga, Nat.mul_comm D gb]; have := HG.out; omega
                    have hab : ga + gb ≤ 4096 := by have := HG.out; omega
                    rw [e1] at bp hbP
                    rw [e2] at bq hbQ
                    have HPs := Lib.hid (show (matD D ga lp).s = [(D : Int), (ga : Int)] from rfl)
                    have HAB := Lib.hid hab
                    have H1 := Lib.hid (show ∀ u v w', Ara w' u (matD D ga lp) → Ara w' v (matD D gb lq) → Calls Try.prog 29 #[u, v] w' (GaveAE w' (matD D (ga + gb) (catR D ga gb lp lq)) 0) from fun u v w' a b => catM u v w' a b hPQ.2 hs hab l1 l2)
                    have H2 := Lib.hid (show ∀ u v w', Ara w' u (vecB [(D : Int), (ga : Int)]) → Ara w' v (matD D (ga + gb) (catR D ga gb lp lq)) → Calls Try.prog 26 #[u, v] w' (GaveAE w' (matD D ga lp) 0) from fun u v w' a b => takeM u v w' a b hPQ.2 hs hab l1)
                    have H3 := Lib.hid (show ∀ u v w', Ara w' u (vecB [0, (ga : Int)]) → Ara w' v (matD D (ga + gb) (catR D ga gb lp lq)) → Calls Try.prog 28 #[u, v] w' (GaveAE w' (matD D gb lq) 0) from fun u v w' a b => dropM u v w' a b hPQ.2 hs hab l2)
                    have HLP := Lib.hid (show (lp.length ≤ 1000000 ∧ lq.length ≤ 1000000) by constructor <;> (have := HG.out; have := Nat.mul_comm D ga; have := Nat.mul_comm D gb; omega))
                    generalize matD D (ga + gb) (catR D ga gb lp lq) = C at *
                    obtain ⟨P, hP⟩ : ∃ P, matD D ga lp = P := ⟨_, rfl⟩
                    obtain ⟨Q, hQ⟩ : ∃ Q, matD D gb lq = Q := ⟨_, rfl⟩
                    have HPE := Lib.hid (show P.e.length ≤ 1000000 ∧ P.s.length ≤ 1000000 by rw [← hP]; exact ⟨HLP.out.1, by simp [matD]⟩)
                    have HQE := Lib.hid (show Q.e.length ≤ 1000000 ∧ Q.s.length ≤ 1000000 by rw [← hQ]; exact ⟨HLP.out.2, by simp [matD]⟩)
                    rw [hP] at H1 H2 HPs bp hbP
                    rw [hQ] at H1 H3 bq hbQ
                    clear hP hQ e1 e2 l1 l2 hla hlb hga hgb hs hab hPQ
                    obtain ⟨sa, cs, sb, cb, ⟨y0, y1, y2⟩, hb1⟩ := id hbP
                    obtain ⟨qa, cq, qb, dq, ⟨p0, p1, p2⟩, hb2⟩ := id hbQ
                    have h1 := H1.out _ _ _ hb1 hb2
                    go_wp2_with fail
                    refine h1.mono ?_
                    clear h1 y0 y1 y2 hb1 p0 p1 p2 hb2
                    rintro e9 w13 ⟨v9, rfl, ho9, hC9⟩
                    obtain ⟨a9, c9, b9, d9, rfl, _, _⟩ := ara_new ho9
                    have hbC := BoxA.new (A := C) 25 ho9.ara
                    have hC8 := hC9.alloc (.cells #[.int .i64 C.k, .slice a9 C.s.length c9, .slice b9 C.e.length d9] 25)
                    replace HC := Lib.hid (HC.out.tr hC8)
                    obtain ⟨x21, hx⟩ : ∃ x, w13.heap.size = x := ⟨_, rfl⟩
                    rw [hx] at hbC
                    clear hC9 ho9
                    replace hbP := hbP.fr hC8
                    replace hbQ := hbQ.fr hC8
                    clear hC8
                    go_wp2_with fail
                    clear hx
                    generalize w13.alloc (.cells #[.int .i64 C.k, .slice a9 C.s.length c9, .slice b9 C.e.length d9] 25) = wz at *
                    go_cut [23, 24] (fun s4 s5 wx => ∃ x, s4 = .pointer (some ⟨x, 0, none⟩) ∧ s5 = .int .i64 0 ∧ BoxA wx x P ∧ Chg (fun _ => False) wz wx)
                    case first =>
                      as_aux_lemma =>
                        obtain ⟨sa, cs, sb, cb, ⟨y0, y1, y2⟩, hb1⟩ := id hbP
                        obtain ⟨qa, cq, qb, dq, ⟨p0, p1, p2⟩, hb2⟩ := id hbC
                        obtain ⟨bs, os, cc, es, hel⟩ := (ara_s hb1).at (j := 1) (by rw [HPs.out]; simp)
                        have hel2 : wz.cell? ⟨bs, os + 1, none⟩ = some (.int .i64 (ga : Int)) := by
                          rw [hel]
                          congr 2
                          simp only [HPs.out]
                          rfl
                        have hPL : P.s.length = 2 := by rw [HPs.out]; rfl
                        rw [es, hPL] at y1
                        clear es hel hPL
                        have HA := Lib.hid (show ∀ w', Chg (fun _ => False) wz w' → Ara w' (.agg #[.int .i64 C.k, .slice qa C.s.length cq, .slice qb C.e.length dq]) C from fun w' h => hb2.fr h)
                        have HV := Lib.hid (show ∀ w' b, Ls w' (.slice (some ⟨b, 0, none⟩) 2 2) [(D : Int), (ga : Int)] → Calls Try.prog 25 #[.slice (some ⟨b, 0, none⟩) 2 2] w' (GaveA w' (vecB [(D : Int), (ga : Int)])) from fun w' b h => avector_any _ _ w' h (by simp))
                        have HR := H2
                        have KP := Lib.hid (show ∀ w', Chg (fun _ => False) wz w' → (Chg (fun _ => False) wz w' ∧ w'.cell? ⟨x19, 1, none⟩ = some (.slice (some ⟨bs, os, none⟩) 2 cc) ∧ w'.cell? ⟨bs, os + 1, none⟩ = some (.int .i64 (ga : Int)) ∧ w'.cell? ⟨x21, 0, none⟩ = some (.int .i64 C.k) ∧ w'.cell? ⟨x21, 1, none⟩ = some (.slice qa C.s.length cq) ∧ w'.cell? ⟨x21, 2, none⟩ = some (.slice qb C.e.length dq)) from fun w' h => ⟨h, h.cell y1 id, h.cell hel2 id, h.cell p0 id, h.cell p1 id, h.cell p2 id⟩)
                        have hgw : IntKind.i64.wrap (ga : Int) = (ga : Int) := IntWalk.i64_in _ (by have := HAB.out; omega)
                        have hDw : IntKind.i64.wrap (D : Int) = (D : Int) := IntWalk.i64_in _ (by have := HD.out; omega)
                        go_region_held3 (fun w' => Chg (fun _ => False) wz w' ∧ w'.cell? ⟨x19, 1, none⟩ = some (.slice (some ⟨bs, os, none⟩) 2 cc) ∧ w'.cell? ⟨bs, os + 1, none⟩ = some (.int .i64 (ga : Int)) ∧ w'.cell? ⟨x21, 0, none⟩ = some (.int .i64 C.k) ∧ w'.cell? ⟨x21, 1, none⟩ = some (.slice qa C.s.length cq) ∧ w'.cell? ⟨x21, 2, none⟩ = some (.slice qb C.e.length dq)) ((refine KP.out _ ?_; repeat (first | (with_reducible exact Chg.refl _ _) | assumption | (with_reducible refine chg_drew' ?_) | (with_reducible refine chg_alloc' ?_) | (with_reducible refine Chg.tr ?_ hC6) | (with_reducible refine Chg.tr ?_ hC5) | (with_reducible refine Chg.setCell ?_ (.inr hs5) _) | (refine Chg.setCell ?_ (.inr (by simp only []; omega)) _)))) (first
                          | (go_at_call 25
                             with_reducible refine (HV.out _ _ ?_).mono ?_
                             · first
                               | exact (own_lit _ 2 [(D : Int), (ga : Int)] 2 rfl #[.int .i64 (D : Int), .int .i64 (ga : Int)] rfl (by simp)).ls
                               | exact (own_lit wz 2 [(D : Int), (ga : Int)] 2 rfl #[.int .i64 (D : Int), .int .i64 (ga : Int)] rfl (by simp)).ls.fr ((Chg.refl _ _).drew)
                               | exact (own_lit wz 2 [(D : Int), (ga : Int)] 2 rfl #[.int .i64 (D : Int), .int .i64 (ga : Int)] rfl (by simp)).ls.fr (((Chg.refl _ _).alloc _).drew)
                               | exact (lit_at (own_lit (wz.alloc (.cells #[.int .i64 0, .slice none 0 0, .slice none 0 0] 25)) 2 [(D : Int), (ga : Int)] 2 rfl #[.int .i64 (D : Int), .int .i64 (ga : Int)] rfl (by simp)).ls (by simp)).fr ((Chg.refl _ _).drew)
                             rintro e9 w5 ⟨v5, rfl, ho5, hC5⟩
                             obtain ⟨a5, c5, a6, c6, rfl, _, _⟩ := ara_new ho5
                             simp only [vecB, List.length_cons, List.length_nil, Nat.zero_add, Nat.reduceAdd] at ho5 ⊢
                             have hs5 : wz.heap.size ≤ w5.heap.size := (by have := hC5.size; simp at this; omega)
                             (first
                              | have hB5 := (Bx.new wz (.int .i64 0) (.slice none 0 0) (.slice none 0 0) 25).fr ((((Chg.refl (fun _ => False) _).alloc _).drew).tr hC5)
                              | have hB5 := (Bx.at1 wz (.cells #[.int .i64 (D : Int), .int .i64 (ga : Int)] 2) 25).fr (((Chg.refl (fun _ => False) _).drew).tr hC5)
                              | skip))
                          | (go_at_call 26
                             with_reducible refine (HR.out _ _ _ ?_ ?_).mono ?_
                             · first
                               | exact ho5.ara.fr (Chg.refl _ _)
                               | exact ho5.ara.fr ((Chg.refl _ _).drew)
                               | exact ho5.ara.fr ((Chg.refl _ _).alloc _)
                               | exact ho5.ara.fr (((Chg.refl _ _).alloc _).drew)
                             · refine HA.out _ ?_
                               repeat (first | (with_reducible exact Chg.refl _ _) | assumption | (with_reducible refine chg_drew' ?_) | (with_reducible refine chg_alloc' ?_) | (with_reducible refine Chg.tr ?_ hC5))
                             rintro e9 w6 ⟨v6, rfl, ho6, hC6⟩
                             obtain ⟨a7, c7, a8, c8, rfl, _, _⟩ := ara_new ho6
                             (first
                              | (have hB6 := hB5.fr hC6
                                 have hl6 := Lib.hid (hB5.lt)
                                 obtain ⟨z0, z1, z2, f0, f1, f2⟩ := id hB6)
                              | (have hB6 := (Bx.new w5 (.int .i64 0) (.slice none 0 0) (.slice none 0 0) 25).fr hC6
                                 have hl6 := Lib.hid (((Bx.new w5 (.int .i64 0) (.slice none 0 0) (.slice none 0 0) 25).lt : w5.heap.size < _))
                                 obtain ⟨z0, z1, z2, f0, f1, f2⟩ := id hB6)
                              | skip)))
                        all_goals
                          rename_i hHd
                          go_wp2_with fail
                          go_meet
                          refine ⟨_, rfl, rfl, ?_, hHd.1⟩
                          first
                          | exact BoxA.new (A := P) 25 ho6.ara
                          | exact BoxA.set (A := P) hB6 ho6 hl6.out
                    case rest =>
                      obtain ⟨x23, rfl, rfl, hbU, hCc⟩ := hcut
                      replace hbP := hbP.fr hCc
                      replace hbQ := hbQ.fr hCc
                      replace hbC := hbC.fr hCc
                      replace HC := Lib.hid (HC.out.tr hCc)
                      clear hCc H2
                      go_wp2_with fail
                      generalize wc = wz at *
                      go_cut [25, 26] (fun s4 s5 wx => ∃ x, s4 = .pointer (some ⟨x, 0, none⟩) ∧ s5 = .int .i64 0 ∧ BoxA wx x Q ∧ Chg (fun _ => False) wz wx)
                      case first =>
                        as_aux_lemma =>
                          obtain ⟨sa, cs, sb, cb, ⟨y0, y1, y2⟩, hb1⟩ := id hbP
                          obtain ⟨qa, cq, qb, dq, ⟨p0, p1, p2⟩, hb2⟩ := id hbC
                          obtain ⟨bs, os, cc, es, hel⟩ := (ara_s hb1).at (j := 1) (by rw [HPs.out]; simp)
                          have hel2 : wz.cell? ⟨bs, os + 1, none⟩ = some (.int .i64 (ga : Int)) := by
                            rw [hel]
                            congr 2
                            simp only [HPs.out]
                            rfl
                          have hPL : P.s.length = 2 := by rw [HPs.out]; rfl
                          rw [es, hPL] at y1
                          clear es hel hPL
                          have HA := Lib.hid (show ∀ w', Chg (fun _ => False) wz w' → Ara w' (.agg #[.int .i64 C.k, .slice qa C.s.length cq, .slice qb C.e.length dq]) C from fun w' h => hb2.fr h)
                          have HV := Lib.hid (show ∀ w' b, Ls w' (.slice (some ⟨b, 0, none⟩) 2 2) [0, (ga : Int)] → Calls Try.prog 25 #[.slice (some ⟨b, 0, none⟩) 2 2] w' (GaveA w' (vecB [0, (ga : Int)])) from fun w' b h => avector_any _ _ w' h (by simp))
                          have HR := H3
                          have KP := Lib.hid (show ∀ w', Chg (fun _ => False) wz w' → (Chg (fun _ => False) wz w' ∧ w'.cell? ⟨x19, 1, none⟩ = some (.slice (some ⟨bs, os, none⟩) 2 cc) ∧ w'.cell? ⟨bs, os + 1, none⟩ = some (.int .i64 (ga : Int)) ∧ w'.cell? ⟨x21, 0, none⟩ = some (.int .i64 C.k) ∧ w'.cell? ⟨x21, 1, none⟩ = some (.slice qa C.s.length cq) ∧ w'.cell? ⟨x21, 2, none⟩ = some (.slice qb C.e.length dq)) from fun w' h => ⟨h, h.cell y1 id, h.cell hel2 id, h.cell p0 id, h.cell p1 id, h.cell p2 id⟩)
                          have hgw : IntKind.i64.wrap (ga : Int) = (ga : Int) := IntWalk.i64_in _ (by have := HAB.out; omega)
                          have hDw : IntKind.i64.wrap (D : Int) = (D : Int) := IntWalk.i64_in _ (by have := HD.out; omega)
                          go_region_held3 (fun w' => Chg (fun _ => False) wz w' ∧ w'.cell? ⟨x19, 1, none⟩ = some (.slice (some ⟨bs, os, none⟩) 2 cc) ∧ w'.cell? ⟨bs, os + 1, none⟩ = some (.int .i64 (ga : Int)) ∧ w'.cell? ⟨x21, 0, none⟩ = some (.int .i64 C.k) ∧ w'.cell? ⟨x21, 1, none⟩ = some (.slice qa C.s.length cq) ∧ w'.cell? ⟨x21, 2, none⟩ = some (.slice qb C.e.length dq)) ((refine KP.out _ ?_; repeat (first | (with_reducible exact Chg.refl _ _) | assumption | (with_reducible refine chg_drew' ?_) | (with_reducible refine chg_alloc' ?_) | (with_reducible refine Chg.tr ?_ hC6) | (with_reducible refine Chg.tr ?_ hC5) | (with_reducible refine Chg.setCell ?_ (.inr hs5) _) | (refine Chg.setCell ?_ (.inr (by simp only []; omega)) _)))) (first
                            | (go_at_call 25
                               with_reducible refine (HV.out _ _ ?_).mono ?_
                               · first
                                 | exact (own_lit _ 2 [0, (ga : Int)] 2 rfl #[.int .i64 0, .int .i64 (ga : Int)] rfl (by simp)).ls
                                 | exact (own_lit wz 2 [0, (ga : Int)] 2 rfl #[.int .i64 0, .int .i64 (ga : Int)] rfl (by simp)).ls.fr ((Chg.refl _ _).drew)
                                 | exact (own_lit wz 2 [0, (ga : Int)] 2 rfl #[.int .i64 0, .int .i64 (ga : Int)] rfl (by simp)).ls.fr (((Chg.refl _ _).alloc _).drew)
                                 | exact (lit_at (own_lit (wz.alloc (.cells #[.int .i64 0, .slice none 0 0, .slice none 0 0] 25)) 2 [0, (ga : Int)] 2 rfl #[.int .i64 0, .int .i64 (ga : Int)] rfl (by simp)).ls (by simp)).fr ((Chg.refl _ _).drew)
                               rintro e9 w5 ⟨v5, rfl, ho5, hC5⟩
                               obtain ⟨a5, c5, a6, c6, rfl, _, _⟩ := ara_new ho5
                               simp only [vecB, List.length_cons, List.length_nil, Nat.zero_add, Nat.reduceAdd] at ho5 ⊢
                               have hs5 : wz.heap.size ≤ w5.heap.size := (by have := hC5.size; simp at this; omega)
                               (first
                                | have hB5 := (Bx.new wz (.int .i64 0) (.slice none 0 0) (.slice none 0 0) 25).fr ((((Chg.refl (fun _ => False) _).alloc _).drew).tr hC5)
                                | have hB5 := (Bx.at1 wz (.cells #[.int .i64 0, .int .i64 (ga : Int)] 2) 25).fr (((Chg.refl (fun _ => False) _).drew).tr hC5)
                                | skip))
                            | (go_at_call 28
                               with_reducible refine (HR.out _ _ _ ?_ ?_).mono ?_
                               · first
                                 | exact ho5.ara.fr (Chg.refl _ _)
                                 | exact ho5.ara.fr ((Chg.refl _ _).drew)
                                 | exact ho5.ara.fr ((Chg.refl _ _).alloc _)
                                 | exact ho5.ara.fr (((Chg.refl _ _).alloc _).drew)
                               · refine HA.out _ ?_
                                 repeat (first | (with_reducible exact Chg.refl _ _) | assumption | (with_reducible refine chg_drew' ?_) | (with_reducible refine chg_alloc' ?_) | (with_reducible refine Chg.tr ?_ hC5))
                               rintro e9 w6 ⟨v6, rfl, ho6, hC6⟩
                               obtain ⟨a7, c7, a8, c8, rfl, _, _⟩ := ara_new ho6
                               (first
                                | (have hB6 := hB5.fr hC6
                                   have hl6 := Lib.hid (hB5.lt)
                                   obtain ⟨z0, z1, z2, f0, f1, f2⟩ := id hB6)
                                | (have hB6 := (Bx.new w5 (.int .i64 0) (.slice none 0 0) (.slice none 0 0) 25).fr hC6
                                   have hl6 := Lib.hid (((Bx.new w5 (.int .i64 0) (.slice none 0 0) (.slice none 0 0) 25).lt : w5.heap.size < _))
                                   obtain ⟨z0, z1, z2, f0, f1, f2⟩ := id hB6)
                                | skip)))
                          all_goals
                            rename_i hHd
                            go_wp2_with fail
                            go_meet
                            refine ⟨_, rfl, rfl, ?_, hHd.1⟩
                            first
                            | exact BoxA.new (A := Q) 25 ho6.ara
                            | exact BoxA.set (A := Q) hB6 ho6 hl6.out
                      case rest =>
                        obtain ⟨x25, rfl, rfl, hbV, hCc⟩ := hcut
                        replace hbP := hbP.fr hCc
                        replace hbQ := hbQ.fr hCc
                        replace hbU := hbU.fr hCc
                        replace HC := Lib.hid (HC.out.tr hCc)
                        clear hCc H3 hbC
                        obtain ⟨sa, cs, sb, cb, ⟨y0, y1, y2⟩, hb1⟩ := id hbU
                        obtain ⟨qa, cq, qb, dq, ⟨p0, p1, p2⟩, hb2⟩ := id hbP
                        have h1 := isC _ _ _ _ hb1 hb2 HPE.out
                        go_wp2_with fail
                        refine h1.mono ?_
                        clear h1 y0 y1 y2 hb1 p0 p1 p2 hb2 hbU hbP
                        rintro e9 w20 ⟨rfl, hC9⟩
                        replace hbV := hbV.fr hC9
                        replace hbQ := hbQ.fr hC9
                        replace HC := Lib.hid (HC.out.tr hC9)
                        clear hC9
                        obtain ⟨sa, cs, sb, cb, ⟨y0, y1, y2⟩, hb1⟩ := id hbV
                        obtain ⟨qa, cq, qb, dq, ⟨p0, p1, p2⟩, hb2⟩ := id hbQ
                        have h1 := isC _ _ _ _ hb1 hb2 HQE.out
                        go_wp2_with fail
                        refine h1.mono ?_
                        clear h1 y0 y1 y2 hb1 p0 p1 p2 hb2 hbV hbQ
                        rintro e9 w21 ⟨rfl, hC9⟩
                        go_wp2
                        go_ret
                        exact ⟨rfl, HC.out.tr hC9⟩
end Go.Proofs.Ytceooipljhjpaaa
