/- MoldIota. -/
import Derived.Test.YtceooipljhjpaaaMdX
import Derived.Test.YtceooipljhjpaaaMdW
namespace Go.Proofs.Ytceooipljhjpaaa
open Go.RowKit Go.Shelf


theorem iotV_length (n : Int) : (iotV n).length = n.toNat := by simp [iotV]
theorem iotV_get {n : Int} {i : Nat} (h : i < (iotV n).length) : (iotV n)[i] = (i : Int) + 1 := by simp [iotV]
theorem dr_iota {n k : Int} (hn : n ≤ 4096) {i : Nat} (h : i < (drV k (iotV n)).length) : (drV k (iotV n))[i] = (i : Int) + 1 + (if 0 < k then k else 0) ∧ (-4096 ≤ k ∧ k ≤ 4096) ∧ (i : Int) ≤ 4096 := by
  have hl : (iotV n).length ≤ 4096 := by rw [iotV_length]; omega
  by_cases ho : 4096 < k ∨ k < -4096
  · have h0 := dr_out ho hl
    rw [h0] at h
    exact absurd h (by simp)
  · have hb : (drV k (iotV n)).length ≤ 4096 := by
      rw [drV, cutV_length]
      have hl2 := len_bd k
      unfold dropF
      split
      · simp only; omega
      · simp only; omega
    refine ⟨?_, by omega, by omega⟩
    by_cases h0 : 0 ≤ k
    · have hd := dr_front ⟨h0, by omega⟩ hl
      have h2 : i < ((iotV n).drop k.toNat).length := by rw [← hd]; exact h
      rw [show (drV k (iotV n))[i] = ((iotV n).drop k.toNat)[i] from by congr 1, List.getElem_drop, iotV_get]
      split <;> omega
    · have hd := dr_end (l := iotV n) (n := k) ⟨by omega, by omega⟩
      have h2 : i < ((iotV n).take (((iotV n).length : Int) + k).toNat).length := by rw [← hd]; exact h
      rw [show (drV k (iotV n))[i] = ((iotV n).take (((iotV n).length : Int) + k).toNat)[i] from by congr 1, List.getElem_take, iotV_get, if_neg (by omega)]
      omega
theorem dr_bd {n k : Int} (hn : n ≤ 4096) : (drV k (iotV n)).length ≤ 4096 := by
  have hl := iotV_length n
  rw [drV, cutV_length]
  have hl2 := len_bd k
  unfold dropF
  split
  · simp only; omega
  · simp only; omega
theorem yel_iota {n k : Int} {Y : Ar} {i : Nat} (hn : n ≤ 4096) (hY : vecB (drV k (iotV n)) = Y) (h : i < Y.e.length) : Y.e[i] = (i : Int) + 1 + (if 0 < k then k else 0) ∧ -4096 ≤ k ∧ k ≤ 4096 := by
  subst hY
  have h3 : i < (drV k (iotV n)).length := h
  have := dr_iota hn h3
  exact ⟨this.1, this.2.1⟩
theorem iotaC {n : Int} (v : Value) (w : World) (hA : Ara w v ⟨1, [], [n]⟩) : Calls Try.prog 39 #[v] w (GaveAE w (iotA ⟨1, [], [n]⟩) (iotE ⟨1, [], [n]⟩)) := iota_any v _ w hA (by simp)
theorem iot_in {n : Int} (h : 0 ≤ n ∧ n ≤ 4096) : iotE ⟨1, [], [n]⟩ = 0 ∧ iotA ⟨1, [], [n]⟩ = vecB (iotV n) := by
  have h1 : iotE ⟨1, [], [n]⟩ = 0 := by
    unfold iotE
    rw [if_pos (chk_sc n), if_neg (by simp), if_neg (by simp; omega), if_neg (by simp; omega)]
  exact ⟨h1, by unfold iotA; rw [if_pos h1]; rfl⟩
theorem iot_neg {n : Int} (h : n < 0) : iotE ⟨1, [], [n]⟩ = 5 := by
  unfold iotE
  rw [if_pos (chk_sc n), if_neg (by simp), if_pos (.inr h)]
theorem iot_big {n : Int} (h : 4096 < n) : iotE ⟨1, [], [n]⟩ = 9 := by
  unfold iotE
  rw [if_pos (chk_sc n), if_neg (by simp), if_neg (by simp; omega)]
  exact if_pos h
set_option maxRecDepth 100000 in
set_option maxHeartbeats 4000000 in
theorem moldIota_walk (n k : Int) (W : World) (hn0 : (Lit.int .i64 n).wf = true) (hk0 : (Lit.int .i64 k).wf = true) : Calls Try.prog 8 #[.int .i64 n, .int .i64 k] W (True_ W) := by
  have hn1 := wf_i64' hn0
  have hk1 := wf_i64' hk0
  clear hn0 hk0
  have hal := alive_any W
  obtain ⟨N, hN⟩ : ∃ N, iotE ⟨1, [], [n]⟩ = N := ⟨_, rfl⟩
  obtain ⟨A, hA⟩ : ∃ A, iotA ⟨1, [], [n]⟩ = A := ⟨_, rfl⟩
  have H1 := Lib.hid (show ∀ v w', Ara w' v ⟨1, [], [n]⟩ → Calls Try.prog 39 #[v] w' (GaveAE w' A N) from fun v w' h => by have h := iotaC v w' h; rw [hN, hA] at h; exact h)
  have HNA := Lib.hid (And.intro hN hA)
  clear hN hA
  go_enter Try.func8, Try.ntmps8
  go_wp2_with fail
  refine hal.mono ?_
  clear hal
  rintro e9 w1 ⟨rfl, hC1⟩
  have HC := Lib.hid hC1
  clear hC1
  have hsc := ascalar_any n w1
  go_wp2_with fail
  refine hsc.mono ?_
  clear hsc
  rintro e9 w2 ⟨v2, rfl, ho2, hC2⟩
  obtain ⟨a1, c1, a2, c2, rfl, _, _⟩ := ara_new ho2
  simp only [List.length_cons, List.length_nil, Nat.zero_add] at ho2 ⊢
  replace HC := Lib.hid (HC.out.tr hC2)
  have h1 := H1.out _ _ ho2.ara
  clear hC2 ho2
  go_wp2_with fail
  refine h1.mono ?_
  clear h1 H1
  rintro e9 w3 ⟨v9, rfl, ho9, hC9⟩
  obtain ⟨a9, c9, b9, d9, rfl, _, _⟩ := ara_new ho9
  have hbA := BoxA.new (A := A) 25 ho9.ara
  have hC8 := hC9.alloc (.cells #[.int .i64 A.k, .slice a9 A.s.length c9, .slice b9 A.e.length d9] 25)
  replace HC := Lib.hid (HC.out.tr hC8)
  obtain ⟨x6, hx⟩ : ∃ x, w3.heap.size = x := ⟨_, rfl⟩
  rw [hx] at hbA
  clear hC9 ho9
  clear hC8
  by_cases hn0 : n < 0
  · have hN := iot_neg hn0
    rw [HNA.out.1] at hN
    subst hN
    have d1 : decide (n < 0) = true := decide_eq_true hn0
    clear hn0 hbA hx
    go_wp2
    go_ret
    exact ⟨rfl, HC.out⟩
  · have d1 : decide (n < 0) = false := decide_eq_false hn0
    by_cases hn4 : 4096 < n
    · have hN := iot_big hn4
      rw [HNA.out.1] at hN
      subst hN
      have d2 : decide ((4096 : Int) < n) = true := decide_eq_true hn4
      clear hn0 hn4 hbA hx
      go_wp2
      go_ret
      exact ⟨rfl, HC.out⟩
    · have d2 : decide ((4096 : Int) < n) = false := decide_eq_false hn4
      obtain ⟨hN, hA⟩ := iot_in (n := n) (by omega)
      rw [HNA.out.1] at hN
      rw [HNA.out.2] at hA
      subst hN
      have hn5 : n ≤ 4096 := by omega
      have HR := Lib.hid (show ∀ w' u v, Ara w' u ⟨1, [], [k]⟩ → Ara w' v A → Calls Try.prog 28 #[u, v] w' (GaveAE w' (vecB (drV k (iotV n))) 0) from fun w' u v a b => dropC k u v (iotV n) w' a (hA ▸ b) (by rw [iotV_length]; omega))
      obtain ⟨Y, hY⟩ : ∃ Y, vecB (drV k (iotV n)) = Y := ⟨_, rfl⟩
      rw [hY] at HR
      have HAY := Lib.hid (And.intro hA hY)
      have HN := Lib.hid (show 0 ≤ n ∧ n ≤ 4096 by omega)
      clear hA hY hn0 hn4 hn5
      go_wp2_with fail
      clear hx
      generalize w3.alloc (.cells #[.int .i64 A.k, .slice a9 A.s.length c9, .slice b9 A.e.length d9] 25) = wz at *
      obtain ⟨sa, cs, sb, cb, ⟨y0, y1, y2⟩, hb1⟩ := id hbA
      go_cut [8, 9] (fun s4 s5 wx => ∃ x, s4 = .pointer (some ⟨x, 0, none⟩) ∧ s5 = .int .i64 0 ∧ BoxA wx x Y ∧ Chg (fun _ => False) wz wx)
      case first =>
        have KP := Lib.hid (show ∀ w', Chg (fun _ => False) wz w' → (Chg (fun _ => False) wz w' ∧ w'.cell? ⟨x6, 0, none⟩ = some (.int .i64 A.k) ∧ w'.cell? ⟨x6, 1, none⟩ = some (.slice sa A.s.length cs) ∧ w'.cell? ⟨x6, 2, none⟩ = some (.slice sb A.e.length cb)) from fun w' h => ⟨h, h.cell y0 id, h.cell y1 id, h.cell y2 id⟩)
        have HA := Lib.hid (show ∀ w', Chg (fun _ => False) wz w' → Ara w' (.agg #[.int .i64 A.k, .slice sa A.s.length cs, .slice sb A.e.length cb]) A from fun w' h => hb1.fr h)
        go_region_held3 (fun w' => Chg (fun _ => False) wz w' ∧ w'.cell? ⟨x6, 0, none⟩ = some (.int .i64 A.k) ∧ w'.cell? ⟨x6, 1, none⟩ = some (.slice sa A.s.length cs) ∧ w'.cell? ⟨x6, 2, none⟩ = some (.slice sb A.e.length cb)) ((refine KP.out _ ?_; repeat (first | (with_reducible exact Chg.refl _ _) | assumption | (with_reducible refine chg_drew' ?_) | (with_reducible refine chg_alloc' ?_) | (with_reducible refine Chg.tr ?_ hC6) | (with_reducible refine Chg.tr ?_ hC5) | (with_reducible refine Chg.setCell ?_ (.inr hs5) _) | (refine Chg.setCell ?_ (.inr (by simp only []; omega)) _)))) (first
          | (go_at_call 27
             (with_reducible refine (ascalar_any k _).mono ?_)
             rintro e9 w5 ⟨v5, rfl, ho5, hC5⟩
             obtain ⟨a5, c5, a6, c6, rfl, _, _⟩ := ara_new ho5
             simp only [List.length_cons, List.length_nil, Nat.reduceAdd] at ho5 ⊢
             have hs5 : wz.heap.size ≤ w5.heap.size := (by have := hC5.size; simp at this; omega)
             (first
              | have hB5 := (Bx.new wz (.int .i64 0) (.slice none 0 0) (.slice none 0 0) 25).fr (((Chg.refl (fun _ => False) _).drew).tr hC5)
              | skip))
          | (go_at_call 28
             with_reducible refine (HR.out _ _ _ ?_ ?_).mono ?_
             · first
               | exact ho5.ara.fr (Chg.refl _ _)
               | exact ho5.ara.fr ((Chg.refl _ _).drew)
               | exact ho5.ara.fr ((Chg.refl _ _).alloc _)
               | exact ho5.ara.fr (((Chg.refl _ _).alloc _).drew)
             · refine HA.out _ ?_
               repeat (first | (with_reducible exact Chg.refl _ _) | assumption | (with_reducible refine chg_drew' ?_) | (with_reducible refine chg_alloc' ?_) | (with_reducible refine Chg.tr ?_ hC5))
             rintro e9 w6 ⟨v6, rfl, ho6, hC6⟩
             obtain ⟨a7, c7, a8, c8, rfl, _, _⟩ := ara_new ho6
             (first
              | (have hB6 := hB5.fr hC6
                 have hl6 := Lib.hid ((hB5.lt : wz.heap.size < _))
                 obtain ⟨z0, z1, z2, f0, f1, f2⟩ := id hB6)
              | (have hB6 := (Bx.new w5 (.int .i64 0) (.slice none 0 0) (.slice none 0 0) 25).fr hC6
                 have hl6 := Lib.hid (((Bx.new w5 (.int .i64 0) (.slice none 0 0) (.slice none 0 0) 25).lt : w5.heap.size < _))
                 obtain ⟨z0, z1, z2, f0, f1, f2⟩ := id hB6)
              | skip)))
        all_goals
          rename_i hHd
          go_wp2_with fail
          go_meet
          refine ⟨_, rfl, rfl, ?_, hHd.1⟩
          first
          | exact BoxA.new (A := Y) 25 ho6.ara
          | exact BoxA.set (A := Y) hB6 ho6 hl6.out
      case rest =>
        obtain ⟨x8, rfl, rfl, hbY, hCc⟩ := hcut
        replace hbA := hbA.fr hCc
        replace HC := Lib.hid (HC.out.tr hCc)
        clear hCc y0 y1 y2 hb1 HR d1 d2
        obtain ⟨sa, cs, sb, cb, ⟨y0, y1, y2⟩, hb1⟩ := id hbA
        obtain ⟨ta, ct, tb, cu, ⟨z0, z1, z2⟩, hb2⟩ := id hbY
        have hAL : (A.e.length : Int) = n := by rw [HAY.out.1]; show ((iotV n).length : Int) = n; rw [iotV_length]; have := HN.out; omega
        have w1' : IntKind.i64.wrap n = n := IntWalk.i64_in _ (by omega)
        have b1 : ((A.e.length : Int) != n) = false := bne_eq_false_iff_eq.2 hAL
        have HAL := Lib.hid hAL
        have HB1 := Lib.hid hb1
        have HB2 := Lib.hid hb2
        clear hAL hb1 hb2 hbA hbY
        go_wp2
        go_loopw [65] (fun vi wr => wr = wc ∧ ∃ j : Nat, j ≤ A.e.length ∧ vi = .int .i64 j) (fun vi _ => A.e.length - (intOf vi).toNat)
        case atStart => exact ⟨rfl, 0, Nat.zero_le _, rfl⟩
        case round =>
          obtain ⟨hwc, j, hj, rfl⟩ := hrel
          obtain rfl : wc = wr := hwc.symm
          have hjn : (j : Int) ≤ 4096 := by have := HAL.out; have := HN.out; omega
          by_cases hlt : j < A.e.length
          · have hj2 : (j : Int) < (A.e.length : Int) := by omega
            have hj0 : (0 : Int) ≤ (j : Int) := by omega
            have hkw : IntKind.i64.wrap ((j : Int) + 1) = (j : Int) + 1 := IntWalk.i64_in _ (by omega)
            have hkv : wrap64 ((j : Int) + 1) = (j : Int) + 1 := mwrap (by omega)
            have hjw : IntKind.i64.wrap (j : Int) = (j : Int) := IntWalk.i64_in _ (by omega)
            obtain ⟨bb, o, cc, e1, hx⟩ := (ara_e HB1.out).at hlt
            injection e1 with e1 e2 e3
            clear e2 e3
            subst e1
            have hel : A.e[j] = (j : Int) + 1 := by
              have h2 : A.e.getD j 0 = A.e[j] := getD_at hlt
              rw [← h2, HAY.out.1]
              have h3 : j < (iotV n).length := by rw [HAY.out.1] at hlt; exact hlt
              show (iotV n).getD j 0 = _
              rw [getD_at h3, iotV_get]
            rw [hel] at hx
            have hm1 : A.e.length - (j + 1) < A.e.length - j := by omega
            have HM := Lib.hid hm1
            clear hm1 hel
            go_wp2
            go_roundw
            case rel => exact ⟨by first | rfl | trivial, j + 1, hlt, rfl⟩
            case measure => exact HM.out
          · have hj2 : ¬ (j : Int) < (A.e.length : Int) := by omega
            have HYB := Lib.hid (show Y.e.length ≤ 4096 by rw [← HAY.out.2]; exact dr_bd HN.out.2)
            clear hlt hjn
            go_wp2
            go_loopw [80] (fun vi wr => wr = wc ∧ ∃ j : Nat, j ≤ Y.e.length ∧ vi = .int .i64 j) (fun vi _ => Y.e.length - (intOf vi).toNat)
            case atStart => exact ⟨rfl, 0, Nat.zero_le _, rfl⟩
            case round =>
              obtain ⟨hwc, i, hi, rfl⟩ := hrel
              obtain rfl : wc = wr := hwc.symm
              by_cases hlt : i < Y.e.length
              · have hib : (i : Int) ≤ 4096 := by have := HYB.out; omega
                have hi2 : (i : Int) < (Y.e.length : Int) := by omega
                have hi0 : (0 : Int) ≤ (i : Int) := by omega
                have hkw : IntKind.i64.wrap ((i : Int) + 1) = (i : Int) + 1 := IntWalk.i64_in _ (by omega)
                have hkv : wrap64 ((i : Int) + 1) = (i : Int) + 1 := mwrap (by omega)
                have hjw : IntKind.i64.wrap (i : Int) = (i : Int) := IntWalk.i64_in _ (by omega)
                have hm1 : Y.e.length - (i + 1) < Y.e.length - i := by omega
                have HM := Lib.hid hm1
                clear hm1
                have HY := Lib.hid (yel_iota HN.out.2 HAY.out.2 hlt)
                have hk := HY.out.2
                have hyel := HY.out.1
                obtain ⟨bb, o, cc, e1, hx⟩ := (ara_e HB2.out).at hlt
                injection e1 with e1 e2 e3
                clear e2 e3
                subst e1
                rw [hyel] at hx
                clear hyel
                by_cases hk0 : 0 < k
                · rw [if_pos hk0] at hx
                  have hv : wrap64 ((i : Int) + 1 + k) = (i : Int) + 1 + k := mwrap (by omega)
                  clear hk hib
                  go_wp2
                  go_roundw
                  case rel => exact ⟨by first | rfl | trivial, i + 1, hlt, rfl⟩
                  case measure => exact HM.out
                · rw [if_neg hk0, Int.add_zero] at hx
                  have hv : wrap64 ((i : Int) + 1 + 0) = (i : Int) + 1 := mwrap (by omega)
                  clear hk hib
                  go_wp2
                  go_roundw
                  case rel => exact ⟨by first | rfl | trivial, i + 1, hlt, rfl⟩
                  case measure => exact HM.out
              · have hj2 : ¬ (i : Int) < (Y.e.length : Int) := by omega
                go_wp2
                go_ret
                exact ⟨rfl, HC.out⟩
end Go.Proofs.Ytceooipljhjpaaa
