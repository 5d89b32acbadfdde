/- Ways compared; what comes by them, or an error; arrays written over. -/
import Derived.Test.YtnjnajbdpaaikaaArH
namespace Go.Proofs.Ytnjnajbdpaaikaa
open Go.RowKit Go.Shelf

/-- The slice v of n numbers may be written. -/
def Wrt (w : World) (v : Value) (n : Nat) : Prop := ∀ j, j < n → ∃ b o c x, v = .slice (some ⟨b, o, none⟩) n c ∧ w.cell? ⟨b, o + j, none⟩ = some (.int .i64 x) ∧ w.frozen? ⟨b, o + j, none⟩ = false
theorem Wrt.of {w : World} {base t : Nat} {v : Value} {xs : List Int} (h : Own w base t v xs) : Wrt w v xs.length := by
  intro j hj
  obtain ⟨b, o, c, e, hc⟩ := h.ls.at hj
  refine ⟨b, o, c, _, e, hc, ?_⟩
  rcases h.2 with ⟨h0, h1⟩ | ⟨g, cap, cur, h0, _, hg, _⟩
  · omega
  · rw [h0] at e
    injection e with e _ _
    injection e with e
    injection e with e e2 _
    subst e e2
    unfold World.frozen?
    simp only
    rw [hg]
    simp
theorem Wrt.chg {S : Nat → Prop} {w w' : World} {v : Value} {n : Nat} (h : Wrt w v n) (hC : Chg S w w') (hn : ∀ k, v.ownBlock = some k → ¬ S k) : Wrt w' v n := by
  intro j hj
  obtain ⟨b, o, c, x, e, hc, hf⟩ := h j hj
  have hb : ¬ S b := hn b (by rw [e]; rfl)
  exact ⟨b, o, c, x, e, hC.cell hc hb, hC.frozen hc hf hb⟩
theorem Wrt.set {w : World} {v : Value} {n : Nat} (h : Wrt w v n) (p : Addr) (y : Int) : Wrt (w.setCell p (.int .i64 y)) v n := by
  intro j hj
  obtain ⟨b, o, c, x, e, hc, hf⟩ := h j hj
  by_cases hp : p = ⟨b, o + j, none⟩
  · subst hp
    exact ⟨b, o, c, y, e, World.cell?_setCell_same' _ _ _ (by rw [hc]; rfl), by rw [World.frozen?_setCell]; exact hf⟩
  · exact ⟨b, o, c, x, e, by rw [World.cell?_setCell_other _ _ _ _ hp]; exact hc, by rw [World.frozen?_setCell]; exact hf⟩
/-- Written over, and nothing else is. -/
def Spoilt (w : World) (vs ve : Value) (e : Ending) (w' : World) : Prop := (∃ v, e = .returned v) ∧ Chg (fun q => vs.ownBlock = some q ∨ ve.ownBlock = some q) w w'
set_option maxRecDepth 100000 in
set_option maxHeartbeats 1000000 in
theorem spoil_any (k : Int) (vs ve : Value) (s e : List Int) (b1 b2 : Nat) (w : World) (hs : Own w b1 3 vs s) (he : Own w b2 2 ve e) (hsl : s.length ≤ 1000000) (hel : e.length ≤ 1000000) : Calls Try.prog 19 #[.agg #[.int .i64 k, vs, ve]] w (Spoilt w vs ve) := by
  obtain ⟨sa, cs, rfl⟩ := own_name hs
  obtain ⟨ea, ce, rfl⟩ := own_name he
  have hlt1 := fun q (h : (Value.slice sa s.length cs).ownBlock = some q) => (hs.lt q h).2
  have hlt2 := fun q (h : (Value.slice ea e.length ce).ownBlock = some q) => (he.lt q h).2
  have n1 : ¬ ((Value.slice sa s.length cs).ownBlock = some w.heap.size ∨ (Value.slice ea e.length ce).ownBlock = some w.heap.size) := fun h => h.elim (fun h => by have := hlt1 _ h; omega) (fun h => by have := hlt2 _ h; omega)
  have hC0 := Chg.mono ((Chg.refl (fun _ => False) w).alloc (.cells #[.int .i64 k, .slice sa s.length cs, .slice ea e.length ce] 25)) (T := fun q => (Value.slice sa s.length cs).ownBlock = some q ∨ (Value.slice ea e.length ce).ownBlock = some q) (fun _ _ h => h.elim)
  obtain ⟨x0, x1, x2⟩ := cell_two w (.int .i64 k) (.slice sa s.length cs) (.slice ea e.length ce) 25
  have hW1 := (Wrt.of hs).chg ((Chg.refl (fun _ => False) w).alloc (.cells #[.int .i64 k, .slice sa s.length cs, .slice ea e.length ce] 25)) (fun _ _ => id)
  have hW2 := (Wrt.of he).chg ((Chg.refl (fun _ => False) w).alloc (.cells #[.int .i64 k, .slice sa s.length cs, .slice ea e.length ce] 25)) (fun _ _ => id)
  obtain ⟨W0, hW0⟩ : ∃ W0, w.alloc (.cells #[.int .i64 k, .slice sa s.length cs, .slice ea e.length ce] 25) = W0 := ⟨_, rfl⟩
  rw [hW0] at hC0 x0 x1 x2 hW1 hW2
  have hsz : w.heap.size < W0.heap.size := cell_lt x0
  have HW := Lib.hid hW0
  have HW1 := Lib.hid hW1
  have HW2 := Lib.hid hW2
  clear hs he hlt1 hlt2 hW0 hW1 hW2
  go_enter Try.func19, Try.ntmps19
  go_wp2
  rw [HW.out]
  go_loopw [7] (fun i wr => ∃ j : Nat, j ≤ e.length ∧ i = .int .i64 j ∧ Wrt wr (.slice sa s.length cs) s.length ∧ Wrt wr (.slice ea e.length ce) e.length ∧ Chg (fun q => (Value.slice sa s.length cs).ownBlock = some q ∨ (Value.slice ea e.length ce).ownBlock = some q) W0 wr) (fun i _ => e.length - (intOf i).toNat)
  case atStart => exact ⟨0, Nat.zero_le _, rfl, HW1.out, HW2.out, Chg.refl _ _⟩
  case round =>
    obtain ⟨j, hj, rfl, hs1, he1, hC⟩ := hrel
    have y2 := hC.cell x2 n1
    have y1 := hC.cell x1 n1
    by_cases hlt : j < e.length
    · have hlt' : (j : Int) < (e.length : Int) := by omega
      have hj0 : (0 : Int) ≤ (j : Int) := by omega
      have hkw : IntKind.i64.wrap ((j : Int) + 1) = (j : Int) + 1 := IntWalk.i64_in _ (by omega)
      obtain ⟨b, o, c, x, e1, hc, hf⟩ := he1 j hlt
      injection e1 with e1 e3 e4
      clear e3 e4
      subst e1
      have HS := Lib.hid (hs1.set ⟨b, o + j, none⟩ (IntKind.i64.wrap (x + 1)))
      have HE := Lib.hid (he1.set ⟨b, o + j, none⟩ (IntKind.i64.wrap (x + 1)))
      have HC := Lib.hid (hC.setCell (p := ⟨b, o + j, none⟩) (.inl (.inr rfl)) (.int .i64 (IntKind.i64.wrap (x + 1))))
      generalize hz : IntKind.i64.wrap (x + 1) = z at *
      clear hs1 he1 hC
      go_wp2
      go_roundw
      case rel => exact ⟨j + 1, hlt, by go_num, HS.out, HE.out, HC.out⟩
      case measure => exact fit_meas j e.length hlt
    · obtain rfl : j = e.length := by omega
      have HS := Lib.hid hs1
      have HC := Lib.hid hC
      clear hs1 he1 hC
      go_wp2
      go_loopw [21] (fun i wr => ∃ j : Nat, j ≤ s.length ∧ i = .int .i64 j ∧ Wrt wr (.slice sa s.length cs) s.length ∧ Chg (fun q => (Value.slice sa s.length cs).ownBlock = some q ∨ (Value.slice ea e.length ce).ownBlock = some q) W0 wr) (fun i _ => s.length - (intOf i).toNat)
      case atStart => exact ⟨0, Nat.zero_le _, rfl, HS.out, HC.out⟩
      case round =>
        obtain ⟨j, hj, rfl, hs1, hC⟩ := hrel
        replace y1 := hC.cell x1 n1
        clear y2
        by_cases hlt : j < s.length
        · have hlt' : (j : Int) < (s.length : Int) := by omega
          have hj0 : (0 : Int) ≤ (j : Int) := by omega
          have hkw : IntKind.i64.wrap ((j : Int) + 1) = (j : Int) + 1 := IntWalk.i64_in _ (by omega)
          obtain ⟨b, o, c, x, e1, hc, hf⟩ := hs1 j hlt
          injection e1 with e1 e3 e4
          clear e3 e4
          subst e1
          have HS := Lib.hid (hs1.set ⟨b, o + j, none⟩ (IntKind.i64.wrap (x + 1)))
          have HC := Lib.hid (hC.setCell (p := ⟨b, o + j, none⟩) (.inl (.inl rfl)) (.int .i64 (IntKind.i64.wrap (x + 1))))
          generalize hz : IntKind.i64.wrap (x + 1) = z at *
          clear hs1 hC
          go_wp2
          go_roundw
          case rel => exact ⟨j + 1, hlt, by go_num, HS.out, HC.out⟩
          case measure => exact fit_meas j s.length hlt
        · obtain rfl : j = s.length := by omega
          go_wp2
          go_end0
          exact ⟨⟨_, rfl⟩, hC0.trans hC (fun _ _ h => h) (fun _ _ h => h)⟩
/-- What comes of an array by a way. -/
def gonA (Y : Wy) (A : Ar) : Ar := if Y.n = 0 then ⟨A.k, Y.s, Y.g.map (pickG A.k A A)⟩ else noA
set_option maxRecDepth 100000 in
set_option maxHeartbeats 1000000 in
theorem r13gone_any (u v : Value) (s : List Int) (g : List (Int × Int)) (n : Int) (A : Ar) (w : World) (hG : GatAt w u ⟨s, g, n⟩) (hA : Ara w v A) (hgd : GoodG g A A) (hs1 : s.length ≤ 1000000) (hg1 : g.length ≤ 1000000) (ha1 : A.e.length ≤ 1000000) :
    Calls Try.prog 46 #[u, .int .i64 n, v] w (GaveAE w (gonA ⟨s, g, n⟩ A) n) := by
  obtain ⟨vs, vo, vp, rfl, hs, ho, hp⟩ := hG
  simp only at hs ho hp
  obtain ⟨k, t, e⟩ := A
  obtain ⟨vt, ve, hv, ht, he⟩ := hA
  simp only at hv ht he ha1
  subst hv
  obtain ⟨sa, cs, rfl, _⟩ := hs.form
  obtain ⟨oa, co, rfl, _⟩ := ho.form
  obtain ⟨ap, cp, rfl, _⟩ := hp.form
  obtain ⟨ta, ct, rfl, _⟩ := ht.form
  obtain ⟨ae, ce, rfl, _⟩ := he.form
  rw [List.length_map] at ho hp ⊢
  rw [List.length_map]
  have hC0 := (((Chg.refl (fun _ => False) w).alloc (.cells #[.slice sa s.length cs, .slice oa g.length co, .slice ap g.length cp] 57)).alloc (.cells #[.int .i64 k, .slice ta t.length ct, .slice ae e.length ce] 25)).alloc (.cells #[.int .i64 0, .slice none 0 0, .slice none 0 0] 25)
  have hB0 := Bx.new ((w.alloc (.cells #[.slice sa s.length cs, .slice oa g.length co, .slice ap g.length cp] 57)).alloc (.cells #[.int .i64 k, .slice ta t.length ct, .slice ae e.length ce] 25)) (.int .i64 0) (.slice none 0 0) (.slice none 0 0) 25
  simp only [World.size_alloc] at hB0
  by_cases h0 : n = 0
  · subst h0
    have hgo := r13go_any _ _ _ k s g 0 ⟨k, t, e⟩ ⟨k, t, e⟩ _ ⟨_, _, _, rfl, hs.fr hC0, ho.fr hC0, hp.fr hC0⟩ (Ara.mk (k := k) (ht.fr hC0) (he.fr hC0)) (Ara.mk (k := k) (ht.fr hC0) (he.fr hC0)) hgd hs1 hg1 ha1 ha1
    rw [show gonA ⟨s, g, 0⟩ ⟨k, t, e⟩ = ⟨k, s, g.map (pickG k ⟨k, t, e⟩ ⟨k, t, e⟩)⟩ from if_pos rfl]
    generalize g.map (pickG k ⟨k, t, e⟩ ⟨k, t, e⟩) = xs at *
    clear hs ho hp ht he hgd
    go_enter Try.func46, Try.ntmps46
    go_wp2_with fail
    refine hgo.mono ?_
    clear hgo
    rintro e9 w1 ⟨v1, rfl, ho1, hC1⟩
    obtain ⟨a1, c1, a2, c2, hv1, q1, q2⟩ := ara_new ho1
    simp only at hv1 q1 q2
    subst hv1
    obtain ⟨z0, z1, z2, x0, x1, x2⟩ := hB0.fr hC1
    obtain ⟨⟨g0, g1⟩, g2⟩ := set3_cells (.int .i64 k) (.slice a1 s.length c1) (.slice a2 xs.length c2) z0 z1 z2
    go_wp2
    simp [bodyPost, results, Try.results46, go_sem, g0, g1, g2]
    have hsz : w.heap.size + 1 + 1 < ((((w.alloc (.cells #[.slice sa s.length cs, .slice oa g.length co, .slice ap g.length cp] 57)).alloc (.cells #[.int .i64 k, .slice ta t.length ct, .slice ae e.length ce] 25)).alloc (.cells #[.int .i64 0, .slice none 0 0, .slice none 0 0] 25))).heap.size := by simp
    exact leaveAE q1 q2 (by omega) hsz hsz (hC0.tr hC1)
  · have b0 : (n != 0) = true := bne_iff_ne.2 h0
    rw [show gonA ⟨s, g, n⟩ ⟨k, t, e⟩ = noA from if_neg h0]
    clear hs ho hp ht he hgd h0 hB0
    go_enter Try.func46, Try.ntmps46
    go_wp2
    simp [bodyPost, results, Try.results46, go_sem]
    exact ⟨_, rfl, OwnA.no _ _, hC0⟩
set_option maxRecDepth 100000 in
set_option maxHeartbeats 1000000 in
theorem way_any (u v : Value) (Y : Wy) (D : Nat → Prop) (w : World) (hW : WayAt w D v Y) (hG : GatAt w u Y) (hs1 : Y.s.length ≤ 1000000) (hg1 : Y.g.length ≤ 1000000) :
    Calls Try.prog 35 #[v, .int .i64 Y.n, u, .int .i64 Y.n] w (GaveBo w true) := by
  obtain ⟨s, g, n⟩ := Y
  obtain ⟨vs, vo, vp, rfl, hs, ho, hp⟩ := hG
  simp only at hs ho hp hs1 hg1 ⊢
  obtain ⟨sa, cs, rfl, _⟩ := hs.form
  obtain ⟨oa, co, rfl, _⟩ := ho.form
  obtain ⟨ap, cp, rfl, _⟩ := hp.form
  rw [List.length_map] at ho hp ⊢
  rw [List.length_map]
  rcases hW with ⟨h0, vt, gf, lb, rfl, ht, _, eg, hf⟩ | ⟨h0, hs0, hg0, rfl⟩
  · simp only at h0 ht hf
    subst h0
    obtain ⟨ta, ct, rfl, _⟩ := ht.form
    have hC0 := ((Chg.refl (fun _ => False) w).alloc (.cells #[.slice ta s.length ct, .func (.func gf) #[] lb] 52)).alloc (.cells #[.slice sa s.length cs, .slice oa g.length co, .slice ap g.length cp] 57)
    have y1 := alloc_cell (new_cell w #[.slice ta s.length ct, .func (.func gf) #[] lb] 52 (i := 1) rfl) (.cells #[.slice sa s.length cs, .slice oa g.length co, .slice ap g.length cp] 57)
    obtain ⟨z0, z1, z2⟩ := cell_two (w.alloc (.cells #[.slice ta s.length ct, .func (.func gf) #[] lb] 52)) (.slice sa s.length cs) (.slice oa g.length co) (.slice ap g.length cp) 57
    rw [World.size_alloc] at z0 z1 z2
    have hsh := r11shapes_any _ _ s s _ (ht.fr hC0) (hs.fr hC0) (by omega)
    rw [decide_eq_true rfl] at hsh
    have hnil := func_nil gf lb
    have HF := Lib.hid hf
    have HO := Lib.hid ho
    have HP := Lib.hid hp
    clear hs ho hp ht hf
    go_enter Try.func35, Try.ntmps35
    go_wp2_with fail
    refine hsh.mono ?_
    clear hsh
    rintro e9 w1 ⟨rfl, hC1⟩
    replace y1 := hC1.cell y1 id
    replace z1 := hC1.cell z1 id
    replace z2 := hC1.cell z2 id
    have hC01 := hC0.tr hC1
    clear z0 hC0 hC1
    go_wp2
    go_loopw [34] (fun i wr => ∃ j : Nat, j ≤ g.length ∧ i = .int .i64 j ∧ Chg (fun _ => False) w1 wr) (fun i _ => g.length - (intOf i).toNat)
    case atStart => exact ⟨0, Nat.zero_le _, rfl, Chg.refl _ _⟩
    case round =>
      obtain ⟨j, hj, rfl, hC⟩ := hrel
      by_cases hlt : j < g.length
      · have hlt' : (j : Int) < (g.length : Int) := by omega
        have hj0 : (0 : Int) ≤ (j : Int) := by omega
        have hkw : IntKind.i64.wrap ((j : Int) + 1) = (j : Int) + 1 := IntWalk.i64_in _ (by omega)
        have hcall := HF.out j g[j] (List.getElem?_eq_getElem hlt) wr (OldC.of (hC01.tr hC))
        obtain ⟨bo, oo, co', e1, hoc⟩ := (HO.out.fr (hC01.tr hC)).at (j := j) (by rw [List.length_map]; exact hlt)
        obtain ⟨bp, op, cp', e2, hpc⟩ := (HP.out.fr (hC01.tr hC)).at (j := j) (by rw [List.length_map]; exact hlt)
        injection e1 with e1 e3 e4
        injection e2 with e2 e5 e6
        clear e3 e4 e5 e6
        subst e1 e2
        rw [List.getElem_map] at hoc hpc
        generalize g[j] = x at *
        obtain ⟨o, p⟩ := x
        simp only at hoc hpc hcall
        have y1' := hC.cell y1 id
        have z1' := hC.cell z1 id
        have z2' := hC.cell z2 id
        go_wp2_with fail
        refine hcall.mono ?_
        clear hcall
        rintro e9 w2 ⟨rfl, hC2⟩
        replace z1' := hC2.cell z1' id
        replace z2' := hC2.cell z2' id
        replace hoc := hC2.cell hoc id
        replace hpc := hC2.cell hpc id
        have q1 : (o != o) = false := bne_self_eq_false o
        have q2 : (p != p) = false := bne_self_eq_false p
        clear y1'
        all_goals
          go_wp2
          go_roundw
          case rel => exact ⟨j + 1, hlt, by go_num, hC.tr hC2⟩
          case measure => exact fit_meas j g.length hlt
      · obtain rfl : j = g.length := by omega
        go_wp2
        go_ret
        exact ⟨rfl, hC01.tr hC⟩
  · simp only at h0 hs0 hg0
    subst hs0 hg0
    have hC0 := ((Chg.refl (fun _ => False) w).alloc (.cells #[.slice none 0 0, .nilFunc] 52)).alloc (.cells #[.slice sa ([] : List Int).length cs, .slice oa ([] : List (Int × Int)).length co, .slice ap ([] : List (Int × Int)).length cp] 57)
    simp only [List.length_nil] at hC0 hs ho hp ⊢
    have b0 : (n != 0) = true := bne_iff_ne.2 h0
    have b1 : (n != n) = false := bne_self_eq_false n
    have y1 := alloc_cell (new_cell w #[.slice none 0 0, .nilFunc] 52 (i := 1) rfl) (.cells #[.slice sa 0 cs, .slice oa 0 co, .slice ap 0 cp] 57)
    obtain ⟨z0, z1, z2⟩ := cell_two (w.alloc (.cells #[.slice none 0 0, .nilFunc] 52)) (.slice sa 0 cs) (.slice oa 0 co) (.slice ap 0 cp) 57
    rw [World.size_alloc] at z0 z1 z2
    have hsh := r11shapes_any _ _ [] [] _ (Ls.nil _) (hs.fr hC0) (by simp)
    rw [decide_eq_true rfl] at hsh
    have hnil := nil_nil
    clear hs ho hp h0
    go_enter Try.func35, Try.ntmps35
    go_wp2_with fail
    refine hsh.mono ?_
    clear hsh
    rintro e9 w1 ⟨rfl, hC1⟩
    replace y1 := hC1.cell y1 id
    replace z1 := hC1.cell z1 id
    clear z0 z2
    go_wp2
    refine wp_loop_rounds 1 ?_
    rw [rounds_succ]
    go_wp2
    go_ret
    exact ⟨rfl, hC0.tr hC1⟩
end Go.Proofs.Ytnjnajbdpaaikaa
