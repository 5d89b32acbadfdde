/- mold's law: an array is written over; a way is the document's. -/
import Derived.Test.YtceooipljhjpaaaArI
import Derived.Test.YtceooipljhjpaaaArJ
namespace Go.Proofs.Ytceooipljhjpaaa
open Go.RowKit Go.Shelf

set_option maxRecDepth 100000 in
set_option maxHeartbeats 2000000 in
theorem spoil13_any (b0 : Nat) (vs ve : Value) (s e : List Int) (b1 b2 : Nat) (w : World) (hs : Own w b1 3 vs s) (he : Own w b2 2 ve e) (hsl : s.length ≤ 1000000) (hel : e.length ≤ 1000000)
    (x1 : w.cell? ⟨b0, 1, none⟩ = some vs) (x2 : w.cell? ⟨b0, 2, none⟩ = some ve) (n1 : ¬ (vs.ownBlock = some b0 ∨ ve.ownBlock = some b0)) : Calls Try.prog 18 #[.slice (some ⟨b0, 0, none⟩) 1 1] w (Spoilt w vs ve) := by
  obtain ⟨sa, cs, rfl⟩ := own_name hs
  obtain ⟨ea, ce, rfl⟩ := own_name he
  have HW1 := Lib.hid (Wrt.of hs)
  have HW2 := Lib.hid (Wrt.of he)
  have HN := Lib.hid n1
  have X1 := Lib.hid x1
  have X2 := Lib.hid x2
  clear hs he n1 x1 x2
  go_enter Try.func18, Try.ntmps18
  go_wp2
  go_loopw [7] (fun i wr => ∃ q : Nat, q ≤ 1 ∧ i = .int .i64 q ∧ (q = 0 → wr = w) ∧ Chg (fun q => (Value.slice sa s.length cs).ownBlock = some q ∨ (Value.slice ea e.length ce).ownBlock = some q) w wr) (fun i _ => 1 - (intOf i).toNat)
  case atStart => exact ⟨0, by decide, rfl, fun _ => rfl, Chg.refl _ _⟩
  case round =>
    obtain ⟨q, hq, rfl, h0, hC⟩ := hrel
    have hq01 : q = 0 ∨ q = 1 := by omega
    rcases hq01 with rfl | rfl
    · obtain rfl : w = wr := (h0 rfl).symm
      have y1 := X1.out
      have y2 := X2.out
      clear h0 hq hC
      go_wp2
      clear y1 y2
      go_loopw [16] (fun i wr => ∃ j : Nat, j ≤ e.length ∧ i = .int .i64 j ∧ Wrt wr (.slice sa s.length cs) s.length ∧ Wrt wr (.slice ea e.length ce) e.length ∧ Chg (fun q => (Value.slice sa s.length cs).ownBlock = some q ∨ (Value.slice ea e.length ce).ownBlock = some q) w wr) (fun i _ => e.length - (intOf i).toNat)
      case atStart => exact ⟨0, Nat.zero_le _, rfl, HW1.out, HW2.out, Chg.refl _ _⟩
      case round =>
        obtain ⟨j, hj, rfl, hs1, he1, hC⟩ := hrel
        have y2 := hC.cell X2.out HN.out
        have y1 := hC.cell X1.out HN.out
        by_cases hlt : j < e.length
        · have hlt' : (j : Int) < (e.length : Int) := by omega
          have hj0 : (0 : Int) ≤ (j : Int) := by omega
          have hkw : IntKind.i64.wrap ((j : Int) + 1) = (j : Int) + 1 := IntWalk.i64_in _ (by omega)
          obtain ⟨b, o, c, x, e1, hc, hf⟩ := he1 j hlt
          injection e1 with e1 e3 e4
          clear e3 e4
          subst e1
          have HS := Lib.hid (hs1.set ⟨b, o + j, none⟩ (IntKind.i64.wrap (x + 1)))
          have HE := Lib.hid (he1.set ⟨b, o + j, none⟩ (IntKind.i64.wrap (x + 1)))
          have HC := Lib.hid (hC.setCell (p := ⟨b, o + j, none⟩) (.inl (.inr rfl)) (.int .i64 (IntKind.i64.wrap (x + 1))))
          generalize hz : IntKind.i64.wrap (x + 1) = z at *
          clear hs1 he1 hC
          go_wp2
          go_roundw
          case rel => exact ⟨j + 1, hlt, by go_num, HS.out, HE.out, HC.out⟩
          case measure => exact fit_meas j e.length hlt
        · obtain rfl : j = e.length := by omega
          have HS := Lib.hid hs1
          have HC := Lib.hid hC
          clear hs1 he1 hC
          go_wp2
          clear y1 y2
          go_loopw [36] (fun i wr => ∃ j : Nat, j ≤ s.length ∧ i = .int .i64 j ∧ Wrt wr (.slice sa s.length cs) s.length ∧ Chg (fun q => (Value.slice sa s.length cs).ownBlock = some q ∨ (Value.slice ea e.length ce).ownBlock = some q) w wr) (fun i _ => s.length - (intOf i).toNat)
          case atStart => exact ⟨0, Nat.zero_le _, rfl, HS.out, HC.out⟩
          case round =>
            obtain ⟨j, hj, rfl, hs1, hC⟩ := hrel
            have y1 := hC.cell X1.out HN.out
            by_cases hlt : j < s.length
            · have hlt' : (j : Int) < (s.length : Int) := by omega
              have hj0 : (0 : Int) ≤ (j : Int) := by omega
              have hkw : IntKind.i64.wrap ((j : Int) + 1) = (j : Int) + 1 := IntWalk.i64_in _ (by omega)
              obtain ⟨b, o, c, x, e1, hc, hf⟩ := hs1 j hlt
              injection e1 with e1 e3 e4
              clear e3 e4
              subst e1
              have HS := Lib.hid (hs1.set ⟨b, o + j, none⟩ (IntKind.i64.wrap (x + 1)))
              have HC := Lib.hid (hC.setCell (p := ⟨b, o + j, none⟩) (.inl (.inl rfl)) (.int .i64 (IntKind.i64.wrap (x + 1))))
              generalize hz : IntKind.i64.wrap (x + 1) = z at *
              clear hs1 hC
              go_wp2
              go_roundw
              case rel => exact ⟨j + 1, hlt, by go_num, HS.out, HC.out⟩
              case measure => exact fit_meas j s.length hlt
            · obtain rfl : j = s.length := by omega
              have HC9 := Lib.hid hC
              clear hs1 hC
              go_wp2
              go_roundw
              case rel => exact ⟨1, by decide, rfl, (fun h => absurd h (by decide)), HC9.out⟩
              case measure => simp [intOf]
    · have HC9 := Lib.hid hC
      clear h0 hC
      go_wp2
      go_end0
      exact ⟨⟨_, rfl⟩, HC9.out⟩
set_option maxRecDepth 100000 in
set_option maxHeartbeats 1000000 in
theorem way_any (u v : Value) (Y : Wy) (D : Nat → Prop) (w : World) (hW : WayAt w D v Y) (hG : GatAt w u Y) (hs1 : Y.s.length ≤ 1000000) (hg1 : Y.g.length ≤ 1000000) :
    Calls Try.prog 23 #[v, .int .i64 Y.n, u, .int .i64 Y.n] w (GaveBo w true) := by
  obtain ⟨s, g, n⟩ := Y
  obtain ⟨vs, vo, vp, rfl, hs, ho, hp⟩ := hG
  simp only at hs ho hp hs1 hg1 ⊢
  obtain ⟨sa, cs, rfl, _⟩ := hs.form
  obtain ⟨oa, co, rfl, _⟩ := ho.form
  obtain ⟨ap, cp, rfl, _⟩ := hp.form
  rw [List.length_map] at ho hp ⊢
  rw [List.length_map]
  rcases hW with ⟨h0, vt, gf, lb, rfl, ht, _, eg, hf⟩ | ⟨h0, hs0, hg0, rfl⟩
  · simp only at h0 ht hf
    subst h0
    obtain ⟨ta, ct, rfl, _⟩ := ht.form
    have hC0 := ((Chg.refl (fun _ => False) w).alloc (.cells #[.slice ta s.length ct, .func (.func gf) #[] lb] 31)).alloc (.cells #[.slice sa s.length cs, .slice oa g.length co, .slice ap g.length cp] 39)
    have y1 := alloc_cell (new_cell w #[.slice ta s.length ct, .func (.func gf) #[] lb] 31 (i := 1) rfl) (.cells #[.slice sa s.length cs, .slice oa g.length co, .slice ap g.length cp] 39)
    obtain ⟨z0, z1, z2⟩ := cell_two (w.alloc (.cells #[.slice ta s.length ct, .func (.func gf) #[] lb] 31)) (.slice sa s.length cs) (.slice oa g.length co) (.slice ap g.length cp) 39
    rw [World.size_alloc] at z0 z1 z2
    have hsh := r11shapes_any _ _ s s _ (ht.fr hC0) (hs.fr hC0) (by omega)
    rw [decide_eq_true rfl] at hsh
    have hnil := func_nil gf lb
    have HF := Lib.hid hf
    have HO := Lib.hid ho
    have HP := Lib.hid hp
    clear hs ho hp ht hf
    go_enter Try.func23, Try.ntmps23
    go_wp2_with fail
    refine hsh.mono ?_
    clear hsh
    rintro e9 w1 ⟨rfl, hC1⟩
    replace y1 := hC1.cell y1 id
    replace z1 := hC1.cell z1 id
    replace z2 := hC1.cell z2 id
    have hC01 := hC0.tr hC1
    clear z0 hC0 hC1
    go_wp2
    go_loopw [34] (fun i wr => ∃ j : Nat, j ≤ g.length ∧ i = .int .i64 j ∧ Chg (fun _ => False) w1 wr) (fun i _ => g.length - (intOf i).toNat)
    case atStart => exact ⟨0, Nat.zero_le _, rfl, Chg.refl _ _⟩
    case round =>
      obtain ⟨j, hj, rfl, hC⟩ := hrel
      by_cases hlt : j < g.length
      · have hlt' : (j : Int) < (g.length : Int) := by omega
        have hj0 : (0 : Int) ≤ (j : Int) := by omega
        have hkw : IntKind.i64.wrap ((j : Int) + 1) = (j : Int) + 1 := IntWalk.i64_in _ (by omega)
        have hcall := HF.out j g[j] (List.getElem?_eq_getElem hlt) wr (OldC.of (hC01.tr hC))
        obtain ⟨bo, oo, co', e1, hoc⟩ := (HO.out.fr (hC01.tr hC)).at (j := j) (by rw [List.length_map]; exact hlt)
        obtain ⟨bp, op, cp', e2, hpc⟩ := (HP.out.fr (hC01.tr hC)).at (j := j) (by rw [List.length_map]; exact hlt)
        injection e1 with e1 e3 e4
        injection e2 with e2 e5 e6
        clear e3 e4 e5 e6
        subst e1 e2
        rw [List.getElem_map] at hoc hpc
        generalize g[j] = x at *
        obtain ⟨o, p⟩ := x
        simp only at hoc hpc hcall
        have y1' := hC.cell y1 id
        have z1' := hC.cell z1 id
        have z2' := hC.cell z2 id
        go_wp2_with fail
        refine hcall.mono ?_
        clear hcall
        rintro e9 w2 ⟨rfl, hC2⟩
        replace z1' := hC2.cell z1' id
        replace z2' := hC2.cell z2' id
        replace hoc := hC2.cell hoc id
        replace hpc := hC2.cell hpc id
        have q1 : (o != o) = false := bne_self_eq_false o
        have q2 : (p != p) = false := bne_self_eq_false p
        clear y1'
        by_cases ho0 : 0 ≤ o; all_goals
          go_wp2
          go_roundw
          case rel => exact ⟨j + 1, hlt, by go_num, hC.tr hC2⟩
          case measure => exact fit_meas j g.length hlt
      · obtain rfl : j = g.length := by omega
        go_wp2
        go_ret
        exact ⟨rfl, hC01.tr hC⟩
  · simp only at h0 hs0 hg0
    subst hs0 hg0
    have hC0 := ((Chg.refl (fun _ => False) w).alloc (.cells #[.slice none 0 0, .nilFunc] 31)).alloc (.cells #[.slice sa ([] : List Int).length cs, .slice oa ([] : List (Int × Int)).length co, .slice ap ([] : List (Int × Int)).length cp] 39)
    simp only [List.length_nil] at hC0 hs ho hp ⊢
    have b0 : (n != 0) = true := bne_iff_ne.2 h0
    have b1 : (n != n) = false := bne_self_eq_false n
    have y1 := alloc_cell (new_cell w #[.slice none 0 0, .nilFunc] 31 (i := 1) rfl) (.cells #[.slice sa 0 cs, .slice oa 0 co, .slice ap 0 cp] 39)
    obtain ⟨z0, z1, z2⟩ := cell_two (w.alloc (.cells #[.slice none 0 0, .nilFunc] 31)) (.slice sa 0 cs) (.slice oa 0 co) (.slice ap 0 cp) 39
    rw [World.size_alloc] at z0 z1 z2
    have hsh := r11shapes_any _ _ [] [] _ (Ls.nil _) (hs.fr hC0) (by simp)
    rw [decide_eq_true rfl] at hsh
    have hnil := nil_nil
    clear hs ho hp h0
    go_enter Try.func23, Try.ntmps23
    go_wp2_with fail
    refine hsh.mono ?_
    clear hsh
    rintro e9 w1 ⟨rfl, hC1⟩
    replace y1 := hC1.cell y1 id
    replace z1 := hC1.cell z1 id
    clear z0 z2
    go_wp2
    refine wp_loop_rounds 1 ?_
    rw [rounds_succ]
    go_wp2
    go_ret
    exact ⟨rfl, hC0.tr hC1⟩
end Go.Proofs.Ytceooipljhjpaaa
