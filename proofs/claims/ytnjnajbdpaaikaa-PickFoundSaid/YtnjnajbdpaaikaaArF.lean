/- The document's going of a way. -/
import Derived.Test.YtnjnajbdpaaikaaArE
namespace Go.Proofs.Ytnjnajbdpaaikaa
open Go.RowKit Go.Shelf

/-- The element that a way brings, of two arrays. -/
def pickG (k : Int) (A B : Ar) (x : Int × Int) : Int := if x.1 = 0 then A.e.getD x.2.toNat 0 else if x.1 = 1 then B.e.getD x.2.toNat 0 else fillN k
/-- The places are there. -/
def GoodG (g : List (Int × Int)) (A B : Ar) : Prop := ∀ x ∈ g, (x.1 = 0 → 0 ≤ x.2 ∧ x.2 < A.e.length) ∧ (x.1 = 1 → 0 ≤ x.2 ∧ x.2 < B.e.length)
theorem take_map {α β : Type} (f : α → β) (g : List α) (k : Nat) (h : k < g.length) : (g.take (k + 1)).map f = (g.take k).map f ++ [f g[k]] := by
  rw [List.take_succ_eq_append_getElem h, List.map_append]
  rfl
theorem cell_two (W : World) (v0 v1 v2 : Value) (t : TypeId) : (W.alloc (.cells #[v0, v1, v2] t)).cell? ⟨W.heap.size, 0, none⟩ = some v0 ∧ (W.alloc (.cells #[v0, v1, v2] t)).cell? ⟨W.heap.size, 1, none⟩ = some v1 ∧ (W.alloc (.cells #[v0, v1, v2] t)).cell? ⟨W.heap.size, 2, none⟩ = some v2 :=
  ⟨new_cell W _ _ rfl, new_cell W _ _ rfl, new_cell W _ _ rfl⟩
theorem below_own {wr : World} {base t : Nat} {v : Value} {xs : List Int} (h : Own wr base t v xs) {p : Nat} (hp : p < base) : ¬ v.ownBlock = some p := fun e => by have := (h.lt p e).1; omega
theorem ls_lt {w : World} {ao : Option Addr} {n c : Nat} {xs : List Int} (h : Ls w (.slice ao n c) xs) {b o : Nat} (e : ao = some ⟨b, o, none⟩) (hx : 0 < xs.length) : b < w.heap.size := by
  obtain ⟨b2, o2, c2, e1, hc⟩ := h.at hx
  injection e1 with e1 _ _
  rw [e] at e1
  injection e1 with e1
  injection e1 with e1 _ _
  subst e1
  exact cell_lt hc
set_option maxRecDepth 100000 in
set_option maxHeartbeats 2000000 in
theorem r13go_any (u v1 v2 : Value) (k : Int) (s : List Int) (g : List (Int × Int)) (n0 : Int) (A B : Ar) (w : World) (hG : GatAt w u ⟨s, g, n0⟩) (hA : Ara w v1 A) (hB : Ara w v2 B) (hgd : GoodG g A B) (hs1 : s.length ≤ 1000000) (hg1 : g.length ≤ 1000000) (ha1 : A.e.length ≤ 1000000) (hb1 : B.e.length ≤ 1000000) :
    Calls Try.prog 85 #[u, .int .i64 k, v1, v2] w (GaveA w ⟨k, s, g.map (pickG k A B)⟩) := by
  obtain ⟨vs, vo, vp, rfl, hs, ho, hp⟩ := hG
  simp only at hs ho hp
  obtain ⟨vt, ve, rfl, ht, he⟩ := hA
  obtain ⟨vt2, vf, rfl, ht2, hf⟩ := hB
  obtain ⟨sa, cs, rfl, _⟩ := hs.form
  obtain ⟨oa, co, rfl, _⟩ := ho.form
  obtain ⟨ap, cp, rfl, _⟩ := hp.form
  obtain ⟨ta, ct, rfl, _⟩ := ht.form
  obtain ⟨ae, ce, rfl, _⟩ := he.form
  obtain ⟨ta2, ct2, rfl, _⟩ := ht2.form
  obtain ⟨af, cf, rfl, _⟩ := hf.form
  rw [List.length_map] at ho hp ⊢
  rw [List.length_map]
  clear ht ht2
  obtain ⟨i0, hi, hz0, hz1, hz2⟩ := info_parts info_long
  have hC0 := ((((Chg.refl (fun _ => False) w).alloc (.cells #[.slice sa s.length cs, .slice oa g.length co, .slice ap g.length cp] 57)).alloc (.cells #[.int .i64 A.k, .slice ta A.s.length ct, .slice ae A.e.length ce] 25)).alloc (.cells #[.int .i64 B.k, .slice ta2 B.s.length ct2, .slice af B.e.length cf] 25)).alloc (.cells #[.int .i64 0, .slice none 0 0, .slice none 0 0] 25)
  obtain ⟨gs, go, gp⟩ := cell_two w (.slice sa s.length cs) (.slice oa g.length co) (.slice ap g.length cp) 57
  obtain ⟨_, _, az⟩ := cell_two (w.alloc (.cells #[.slice sa s.length cs, .slice oa g.length co, .slice ap g.length cp] 57)) (.int .i64 A.k) (.slice ta A.s.length ct) (.slice ae A.e.length ce) 25
  obtain ⟨_, _, bz⟩ := cell_two ((w.alloc (.cells #[.slice sa s.length cs, .slice oa g.length co, .slice ap g.length cp] 57)).alloc (.cells #[.int .i64 A.k, .slice ta A.s.length ct, .slice ae A.e.length ce] 25)) (.int .i64 B.k) (.slice ta2 B.s.length ct2) (.slice af B.e.length cf) 25
  have hB0 := Bx.new (((w.alloc (.cells #[.slice sa s.length cs, .slice oa g.length co, .slice ap g.length cp] 57)).alloc (.cells #[.int .i64 A.k, .slice ta A.s.length ct, .slice ae A.e.length ce] 25)).alloc (.cells #[.int .i64 B.k, .slice ta2 B.s.length ct2, .slice af B.e.length cf] 25)) (.int .i64 0) (.slice none 0 0) (.slice none 0 0) 25
  replace gs := alloc_cell (alloc_cell (alloc_cell gs (.cells #[.int .i64 A.k, .slice ta A.s.length ct, .slice ae A.e.length ce] 25)) (.cells #[.int .i64 B.k, .slice ta2 B.s.length ct2, .slice af B.e.length cf] 25)) (.cells #[.int .i64 0, .slice none 0 0, .slice none 0 0] 25)
  replace go := alloc_cell (alloc_cell (alloc_cell go (.cells #[.int .i64 A.k, .slice ta A.s.length ct, .slice ae A.e.length ce] 25)) (.cells #[.int .i64 B.k, .slice ta2 B.s.length ct2, .slice af B.e.length cf] 25)) (.cells #[.int .i64 0, .slice none 0 0, .slice none 0 0] 25)
  replace gp := alloc_cell (alloc_cell (alloc_cell gp (.cells #[.int .i64 A.k, .slice ta A.s.length ct, .slice ae A.e.length ce] 25)) (.cells #[.int .i64 B.k, .slice ta2 B.s.length ct2, .slice af B.e.length cf] 25)) (.cells #[.int .i64 0, .slice none 0 0, .slice none 0 0] 25)
  replace az := alloc_cell (alloc_cell az (.cells #[.int .i64 B.k, .slice ta2 B.s.length ct2, .slice af B.e.length cf] 25)) (.cells #[.int .i64 0, .slice none 0 0, .slice none 0 0] 25)
  replace bz := alloc_cell bz (.cells #[.int .i64 0, .slice none 0 0, .slice none 0 0] 25)
  simp only [World.size_alloc] at az bz hB0
  go_enter Try.func85, Try.ntmps85
  go_wp2
  obtain ⟨W0, hW0⟩ : ∃ W0, (((w.alloc (.cells #[.slice sa s.length cs, .slice oa g.length co, .slice ap g.length cp] 57)).alloc (.cells #[.int .i64 A.k, .slice ta A.s.length ct, .slice ae A.e.length ce] 25)).alloc (.cells #[.int .i64 B.k, .slice ta2 B.s.length ct2, .slice af B.e.length cf] 25)).alloc (.cells #[.int .i64 0, .slice none 0 0, .slice none 0 0] 25) = W0 := ⟨_, rfl⟩
  have hsz : W0.heap.size = w.heap.size + 4 := by rw [← hW0]; simp
  rw [hW0] at hC0 gs go gp az bz hB0 ⊢
  clear hW0
  have HSZ := Lib.hid hsz
  clear hsz
  have HO := Lib.hid (ho.fr hC0)
  have HP := Lib.hid (hp.fr hC0)
  have HA := Lib.hid (he.fr hC0)
  have HB := Lib.hid (hf.fr hC0)
  have HS := Lib.hid (hs.fr hC0)
  have HGD := Lib.hid hgd
  clear ho hp he hf hs hgd
  go_loopw [9, 10] (fun l i wr => ∃ j : Nat, j ≤ g.length ∧ i = .int .i64 j ∧ Own wr W0.heap.size 2 l ((g.take j).map (pickG k A B)) ∧ Chg (fun _ => False) W0 wr) (fun _ i _ => g.length - (intOf i).toNat)
  case atStart => exact ⟨0, Nat.zero_le _, rfl, Own.nil _ _ _, Chg.refl _ _⟩
  case round =>
    obtain ⟨j, hj, rfl, hown, hC⟩ := hrel
    obtain ⟨xs, hxs⟩ : ∃ xs, (g.take j).map (pickG k A B) = xs := ⟨_, rfl⟩
    have hxl : xs.length ≤ 1000000 := by rw [← hxs]; simp; omega
    rw [hxs] at hown
    obtain ⟨al, L, cl, rfl, hL⟩ := owns_name hown
    have hgo := hC.cell go id
    by_cases hlt : j < g.length
    · have hj0 : (0 : Int) ≤ (j : Int) := by omega
      have hlt' : (j : Int) < (g.length : Int) := by omega
      have hkw : IntKind.i64.wrap ((j : Int) + 1) = (j : Int) + 1 := IntWalk.i64_in _ (by omega)
      obtain ⟨bo, oo, co', e1, hoc⟩ := (HO.out.fr hC).at (j := j) (by rw [List.length_map]; exact hlt)
      obtain ⟨bp, op, cp', e2, hpc⟩ := (HP.out.fr hC).at (j := j) (by rw [List.length_map]; exact hlt)
      injection e1 with e1 e3 e4
      injection e2 with e2 e5 e6
      clear e3 e4 e5 e6
      subst e1 e2
      rw [List.getElem_map] at hoc hpc
      have HT := Lib.hid (take_map (pickG k A B) g j hlt)
      rw [hxs] at HT
      have hgd := HGD.out _ (List.getElem_mem hlt)
      generalize g[j] = x at *
      obtain ⟨o, p⟩ := x
      simp only at hoc hpc hgd
      have hb0 : bp < W0.heap.size := ls_lt HP.out rfl (by rw [List.length_map]; omega)
      have hOw := Lib.hid hown
      have hm2 : W0.heap.size ≤ wr.heap.size := hC.size
      have hCC := Lib.hid hC
      clear hxs
      by_cases ho0 : o = 0
      · subst ho0
        obtain ⟨p0, p1⟩ := hgd.1 rfl
        obtain ⟨q, rfl⟩ := Int.eq_ofNat_of_zero_le p0
        have p1' : q < A.e.length := by omega
        obtain ⟨be, oe, ce', e2, hel⟩ := (HA.out.fr hC).at p1'
        have hbe : be < W0.heap.size := by injection e2 with e2 _ _; exact ls_lt HA.out e2 (by omega)
        injection e2 with e2 e3 e4
        clear e3 e4
        subst e2
        have hpk : pickG k A B (0, (q : Int)) = A.e[q] := by unfold pickG; rw [if_pos rfl]; simp [List.getD, List.getElem?_eq_getElem p1']
        rw [hpk] at HT
        generalize A.e[q] = y at *
        have hZ := hC.cell az id
        have hGP := hC.cell gp id
        have n1 : ¬ (Value.slice al L cl).ownBlock = some (w.heap.size + 1) := below_own hown (by have := HSZ.out; omega)
        have n2 : ¬ (Value.slice al L cl).ownBlock = some w.heap.size := below_own hown (by have := HSZ.out; omega)
        have n3 : ¬ (Value.slice al L cl).ownBlock = some bp := below_own hown hb0
        have n4 : ¬ (Value.slice al L cl).ownBlock = some be := below_own hown hbe
        have KP := Lib.hid (show ∀ w', Chg (fun b => (Value.slice al L cl).ownBlock = some b) wr w' → (w'.cell? ⟨w.heap.size + 1, 2, none⟩ = some (.slice (some ⟨be, oe, none⟩) A.e.length ce) ∧ w'.cell? ⟨w.heap.size, 2, none⟩ = some (.slice (some ⟨bp, op, none⟩) g.length cp) ∧ w'.cell? ⟨bp, op + j, none⟩ = some (.int .i64 (q : Int)) ∧ w'.cell? ⟨be, oe + q, none⟩ = some (.int .i64 y)) from fun w' h => ⟨h.cell hZ n1, h.cell hGP n2, h.cell hpc n3, h.cell hel n4⟩)
        have q0 : (0 : Int) ≤ (q : Int) := by omega
        have q1 : (q : Int) < (A.e.length : Int) := by omega
        clear hgd hpk hel hZ hGP hpc n1 n2 n3 n4 HGD hown hC p0 p1 p1' gs gp az bz hB0 hC0
        go_wp2_with fail
        go_region_held3 (fun w' => w'.cell? ⟨w.heap.size + 1, 2, none⟩ = some (.slice (some ⟨be, oe, none⟩) A.e.length ce) ∧ w'.cell? ⟨w.heap.size, 2, none⟩ = some (.slice (some ⟨bp, op, none⟩) g.length cp) ∧ w'.cell? ⟨bp, op + j, none⟩ = some (.int .i64 (q : Int)) ∧ w'.cell? ⟨be, oe + q, none⟩ = some (.int .i64 y)) (first | exact KP.out _ ((Chg.refl _ _).drew) | exact KP.out _ (((Chg.refl _ _).alloc _).drew) | exact KP.out _ hX3) ((refine step_append_own (by rfl) (.tmp 33) (.tmp 43) 23 (by rfl) W0.heap.size 2 i0 (.int .i64 0) 1 8 Try.underlying23 hi hz0 hz1 hz2 rfl (by decide) (.slice al L cl) xs.length (xs.map I) (by simp [Act.eval]) (hOw.out.alloc _) (some ⟨wr.heap.size, 0, none⟩) 1 1 [.int .i64 y] (by simp [Act.eval]) rfl (fun j u hu => ⟨_, rfl, cell_one_new wr _ _ j u hu⟩) (by simp [Value.oneCell']) (by unfold maxLen; omega) (by omega) (by simp; omega) ?_; intro v2 w2 hown2 hg2 _ hO2; obtain ⟨hw1, hw2, hX3⟩ := own_more (Nat.le_refl _) hCC.out hOw.out (((Chg.refl _ wr).alloc _).drew) hg2 hown2 rfl; obtain ⟨al2, L2, cl2, rfl, hL2⟩ := owns_name hw1))
        all_goals
          go_wp2
          go_roundw
          case rel => exact ⟨j + 1, hlt, by go_num, by rw [HT.out]; exact hw1, hw2⟩
          case measure => exact fit_meas j g.length hlt
      · have b0 : (o == 0) = false := beq_eq_false_iff_ne.2 ho0
        by_cases ho1 : o = 1
        · subst ho1
          obtain ⟨p0, p1⟩ := hgd.2 rfl
          obtain ⟨q, rfl⟩ := Int.eq_ofNat_of_zero_le p0
          have p1' : q < B.e.length := by omega
          obtain ⟨be, oe, ce', e2, hel⟩ := (HB.out.fr hC).at p1'
          have hbe : be < W0.heap.size := by injection e2 with e2 _ _; exact ls_lt HB.out e2 (by omega)
          injection e2 with e2 e3 e4
          clear e3 e4
          subst e2
          have hpk : pickG k A B (1, (q : Int)) = B.e[q] := by unfold pickG; rw [if_neg (by simp), if_pos rfl]; simp [List.getD, List.getElem?_eq_getElem p1']
          rw [hpk] at HT
          generalize B.e[q] = y at *
          have hZ := hC.cell bz id
          have hGP := hC.cell gp id
          have n1 : ¬ (Value.slice al L cl).ownBlock = some (w.heap.size + 1 + 1) := below_own hown (by have := HSZ.out; omega)
          have n2 : ¬ (Value.slice al L cl).ownBlock = some w.heap.size := below_own hown (by have := HSZ.out; omega)
          have n3 : ¬ (Value.slice al L cl).ownBlock = some bp := below_own hown hb0
          have n4 : ¬ (Value.slice al L cl).ownBlock = some be := below_own hown hbe
          have KP := Lib.hid (show ∀ w', Chg (fun b => (Value.slice al L cl).ownBlock = some b) wr w' → (w'.cell? ⟨w.heap.size + 1 + 1, 2, none⟩ = some (.slice (some ⟨be, oe, none⟩) B.e.length cf) ∧ w'.cell? ⟨w.heap.size, 2, none⟩ = some (.slice (some ⟨bp, op, none⟩) g.length cp) ∧ w'.cell? ⟨bp, op + j, none⟩ = some (.int .i64 (q : Int)) ∧ w'.cell? ⟨be, oe + q, none⟩ = some (.int .i64 y)) from fun w' h => ⟨h.cell hZ n1, h.cell hGP n2, h.cell hpc n3, h.cell hel n4⟩)
          have q0 : (0 : Int) ≤ (q : Int) := by omega
          have q1 : (q : Int) < (B.e.length : Int) := by omega
          clear hgd hpk hel hZ hGP hpc n1 n2 n3 n4 HGD hown hC p0 p1 p1' gs gp az bz hB0 hC0
          go_wp2_with fail
          go_region_held3 (fun w' => w'.cell? ⟨w.heap.size + 1 + 1, 2, none⟩ = some (.slice (some ⟨be, oe, none⟩) B.e.length cf) ∧ w'.cell? ⟨w.heap.size, 2, none⟩ = some (.slice (some ⟨bp, op, none⟩) g.length cp) ∧ w'.cell? ⟨bp, op + j, none⟩ = some (.int .i64 (q : Int)) ∧ w'.cell? ⟨be, oe + q, none⟩ = some (.int .i64 y)) (first | exact KP.out _ ((Chg.refl _ _).drew) | exact KP.out _ (((Chg.refl _ _).alloc _).drew) | exact KP.out _ hX3) ((refine step_append_own (by rfl) (.tmp 47) (.tmp 57) 23 (by rfl) W0.heap.size 2 i0 (.int .i64 0) 1 8 Try.underlying23 hi hz0 hz1 hz2 rfl (by decide) (.slice al L cl) xs.length (xs.map I) (by simp [Act.eval]) (hOw.out.alloc _) (some ⟨wr.heap.size, 0, none⟩) 1 1 [.int .i64 y] (by simp [Act.eval]) rfl (fun j u hu => ⟨_, rfl, cell_one_new wr _ _ j u hu⟩) (by simp [Value.oneCell']) (by unfold maxLen; omega) (by omega) (by simp; omega) ?_; intro v2 w2 hown2 hg2 _ hO2; obtain ⟨hw1, hw2, hX3⟩ := own_more (Nat.le_refl _) hCC.out hOw.out (((Chg.refl _ wr).alloc _).drew) hg2 hown2 rfl; obtain ⟨al2, L2, cl2, rfl, hL2⟩ := owns_name hw1))
          all_goals
            go_wp2
            go_roundw
            case rel => exact ⟨j + 1, hlt, by go_num, by rw [HT.out]; exact hw1, hw2⟩
            case measure => exact fit_meas j g.length hlt
        · have b1 : (o == 1) = false := beq_eq_false_iff_ne.2 ho1
          have hpk : pickG k A B (o, p) = fillN k := by unfold pickG; rw [if_neg ho0, if_neg ho1]
          rw [hpk] at HT
          clear hgd hpk hpc HGD hown hC gs gp az bz hB0 hC0 ho0 ho1
          by_cases k2 : k = 2
          · subst k2
            go_wp2_with (refine wpList_append_own_any (by rfl) (.tmp 25) (.tmp 26) 23 (by rfl) W0.heap.size 2 i0 (.int .i64 0) 1 8 Try.underlying23 hi hz0 hz1 hz2 rfl (by decide) (.slice al L cl) xs.length (xs.map I) (by rfl) (hOw.out.alloc _) (some ⟨wr.heap.size, 0, none⟩) 1 1 [.int .i64 32] (by rfl) rfl (fun j u hu => ⟨_, rfl, cell_one_new wr _ _ j u hu⟩) (by simp [Value.oneCell']) (by unfold maxLen; omega) (by omega) (by simp; omega) ?_; intro v2 w2 hown2 hg2 _ hO2; obtain ⟨hw1, hw2, hX3⟩ := own_more (Nat.le_refl _) hCC.out hOw.out ((Chg.refl _ wr).alloc _) hg2 hown2 rfl; obtain ⟨al2, L2, cl2, rfl, hL2⟩ := owns_name hw1)
            go_roundw
            case rel => exact ⟨j + 1, hlt, by go_num, by rw [HT.out]; exact hw1, hw2⟩
            case measure => exact fit_meas j g.length hlt
          · have b2 : (k == 2) = false := beq_eq_false_iff_ne.2 k2
            rw [show fillN k = 0 from if_neg k2] at HT
            clear k2
            go_wp2_with (refine wpList_append_own_any (by rfl) (.tmp 28) (.tmp 29) 23 (by rfl) W0.heap.size 2 i0 (.int .i64 0) 1 8 Try.underlying23 hi hz0 hz1 hz2 rfl (by decide) (.slice al L cl) xs.length (xs.map I) (by rfl) (hOw.out.alloc _) (some ⟨wr.heap.size, 0, none⟩) 1 1 [.int .i64 0] (by rfl) rfl (fun j u hu => ⟨_, rfl, cell_one_new wr _ _ j u hu⟩) (by simp [Value.oneCell']) (by unfold maxLen; omega) (by omega) (by simp; omega) ?_; intro v2 w2 hown2 hg2 _ hO2; obtain ⟨hw1, hw2, hX3⟩ := own_more (Nat.le_refl _) hCC.out hOw.out ((Chg.refl _ wr).alloc _) hg2 hown2 rfl; obtain ⟨al2, L2, cl2, rfl, hL2⟩ := owns_name hw1)
            go_roundw
            case rel => exact ⟨j + 1, hlt, by go_num, by rw [HT.out]; exact hw1, hw2⟩
            case measure => exact fit_meas j g.length hlt
    · obtain rfl : j = g.length := by omega
      rw [List.take_length] at hxs
      have hr := r11of_any k _ _ s xs _ (HS.out.fr hC) hown.ls hs1 hxl
      have hgs := hC.cell gs id
      have hBr := hB0.fr hC
      have HX := Lib.hid hxs
      have HCL := Lib.hid (hC0.tr hC)
      have HW := Lib.hid hC.size
      clear HGD hown hC gs gp az bz hB0 hC0 hxs
      go_wp2_with fail
      refine hr.mono ?_
      clear hr
      rintro e9 w1 ⟨v1, rfl, ho1, hC1⟩
      obtain ⟨a1, c1, a2, c2, hv1, q1, q2⟩ := ara_new ho1
      simp only at hv1 q1 q2
      subst hv1
      obtain ⟨z0, z1, z2, x0, x1, x2⟩ := hBr.fr hC1
      obtain ⟨⟨g0, g1⟩, g2⟩ := set3_cells (.int .i64 k) (.slice a1 s.length c1) (.slice a2 xs.length c2) z0 z1 z2
      go_wp2
      simp [bodyPost, results, Try.results85, go_sem, g0, g1, g2]
      have hsw := HSZ.out
      have hsr := HCL.out.size
      have hW := HW.out
      rw [HX.out]
      exact leaveA q1 q2 (by omega) (by omega) (by omega) (HCL.out.tr hC1)
end Go.Proofs.Ytnjnajbdpaaikaa
