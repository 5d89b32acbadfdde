/- FoldMost. -/
import Derived.Test.YtjmlekdgipinfaaFdK
import Derived.Test.YtjmlekdgipinfaaArO
namespace Go.Proofs.Ytjmlekdgipinfaa
open Go.RowKit Go.Shelf

abbrev True_ := @Tru16
set_option maxRecDepth 100000 in
set_option maxHeartbeats 4000000 in
theorem foldMost_walk (v : Value) (l : List Int) (W : World) (h1 : Oklongs W v l) : Calls Try.prog 5 #[v] W (True_ W) := by
  have hl := h1.1
  have HIN := Lib.hid (show ∀ x ∈ l, In x from h1.2)
  clear h1
  have hal := alive_any W
  obtain ⟨a1, c1, rfl, _⟩ := hl.form
  have HL := Lib.hid hl
  clear hl
  go_enter Try.func5, Try.ntmps5
  go_wp2_with fail
  refine hal.mono ?_
  clear hal
  rintro e9 w1 ⟨rfl, hC1⟩
  have HC := Lib.hid hC1
  clear hC1
  by_cases g0 : l = []
  · have b1 : ((l.length : Int) == 0) = true := by rw [g0]; rfl
    clear g0
    go_wp2
    go_ret
    exact ⟨rfl, HC.out⟩
  · have g0' : 0 < l.length := List.length_pos_iff.2 g0
    have b0 : ((l.length : Int) == 0) = false := beq_eq_false_iff_ne.2 (by omega)
    by_cases g1 : 300 < l.length
    · have b1 : decide ((300 : Int) < (l.length : Int)) = true := decide_eq_true (by omega)
      clear g0 g0' g1
      go_wp2
      go_ret
      exact ⟨rfl, HC.out⟩
    · have b1 : decide ((300 : Int) < (l.length : Int)) = false := decide_eq_false (by omega)
      have HG := Lib.hid (show 0 < l.length ∧ l.length ≤ 300 by omega)
      have h7 := row7 l g0
      have h6 := row6 l g0
      have hr7 := fun w' (h : Chg (fun _ => False) W w') => row_any 7 _ l w' (HL.out.fr h) (by have := HG.out; omega) HIN.out
      have hr6 := fun w' (h : Chg (fun _ => False) W w') => row_any 6 _ l w' (HL.out.fr h) (by have := HG.out; omega) HIN.out
      rw [show rwP 7 l = rowP 7 l from rfl, h7.1] at hr7
      rw [show rwP 6 l = rowP 6 l from rfl, h6.1] at hr6
      have hlast : (begP 7 l (l.length - 1)).1 = (rowP 7 l).1 := by rw [beg_last g0']
      have HLA := Lib.hid hlast
      have HX := Lib.hid (And.intro h7.2 h6.2)
      have HVS := Lib.hid (And.intro (vscnA (f := 7) rfl (show l.length ≤ 4096 by omega) (sc7 l)) ((vscnE (f := 7) rfl (show l.length ≤ 4096 by omega)).trans (sc7 l)))
      clear h7 h6 g0 g0' g1 hlast
      have h2 := hr7 w1 HC.out
      generalize (rowP 7 l).1 = M at *
      generalize (rowP 6 l).1 = N at *
      go_wp2_with fail
      refine h2.mono ?_
      clear h2 hr7
      rintro e9 w2 ⟨rfl, hC2⟩
      replace HC := Lib.hid (HC.out.tr hC2)
      have h2 := hr6 w2 HC.out
      clear hC2 hr6
      go_wp2_with fail
      refine h2.mono ?_
      clear h2
      rintro e9 w3 ⟨rfl, hC3⟩
      replace HC := Lib.hid (HC.out.tr hC3)
      have h2 := avector_any _ l w3 (HL.out.fr HC.out) (by have := HG.out; omega)
      clear hC3
      go_wp2_with fail
      refine h2.mono ?_
      clear h2
      rintro e9 w4 ⟨v4, rfl, ho4, hC4⟩
      replace HC := Lib.hid (HC.out.tr hC4)
      have h2 := scan_any 7 _ (vcA l) w4 ho4.ara (show l.length ≤ 1000000 by have := HG.out; omega) HIN.out
      rw [HVS.out.1, HVS.out.2] at h2
      obtain ⟨a5, c5, a6, c6, rfl, _, _⟩ := ara_new ho4
      clear ho4 hC4 HVS
      simp only [List.length_cons, List.length_nil, Nat.reduceAdd] at h2 ⊢
      go_wp2_with fail
      refine h2.mono ?_
      clear h2
      rintro e9 w5 ⟨v5, rfl, ho5, hC5⟩
      obtain ⟨a7, c7, a8, c8, rfl, _, hE⟩ := ara_new ho5
      obtain ⟨m, hm⟩ : ∃ m, l.length = m + 1 := ⟨l.length - 1, by have := HG.out; omega⟩
      obtain ⟨T, hT⟩ : ∃ T, tabV l.length (begP 7 l) = T := ⟨_, rfl⟩
      have hTl : T.length = l.length := by rw [← hT, tabV_length]
      have HT := Lib.hid (show (∀ i (h : i < T.length), T[i] = (begP 7 l i).1) from fun i h => by subst hT; exact tabV_at _)
      have HTL := Lib.hid hTl
      simp only [hT] at hE ⊢
      simp only [hTl, List.length_cons, List.length_nil, Nat.reduceAdd] at hE ⊢
      have hC6 := (Chg.refl (fun _ => False) w5).alloc (.cells #[.int .i64 1, .slice a7 1 c7, .slice a8 l.length c8] 25)
      replace HC := Lib.hid ((HC.out.tr hC5).tr hC6)
      obtain ⟨y0, y1, y2⟩ := cell_two w5 (.int .i64 1) (.slice a7 1 c7) (.slice a8 l.length c8) 25
      have HE := Lib.hid (hE.ls.fr hC6)
      obtain ⟨bs, os, cs, e1, hcm⟩ := HE.out.at (j := m) (by omega)
      rw [hTl] at e1
      injection e1 with e1 e2 e3
      subst e1
      clear e2 e3
      rw [HT.out m (by rw [HTL.out]; omega), show m = l.length - 1 by omega, HLA.out, show l.length - 1 = m by omega] at hcm
      have hw1 : IntKind.i64.wrap ((l.length : Int) - 1) = (m : Int) := by rw [hm]; exact (congrArg _ (by omega)).trans (IntWalk.i64_in (m : Int) (by have := HG.out; omega))
      have hi0 : (0 : Int) ≤ (m : Int) := by omega
      have hi1 : (m : Int) < (l.length : Int) := by omega
      have hM1 : (M != M) = false := by simp
      have hn1 : ((l.length : Int) != (l.length : Int)) = false := by simp
      clear hC5 ho5 hT hE hTl hC6 hm
      obtain ⟨x1, hx1⟩ : ∃ x1, w5.heap.size = x1 := ⟨_, rfl⟩
      rw [hx1] at y0 y1 y2
      go_wp2
      clear hcm hx1
      generalize w5.alloc (.cells #[.int .i64 1, .slice a7 1 c7, .slice (some ⟨bs, os, none⟩) l.length c8] 25) = wx at *
      clear hw1 hi0 hi1 hM1 hn1
      go_loopw [10, 11, 74] (fun f1 f2 vi wr => ∃ i : Nat, i ≤ l.length ∧ f1 = .bool (hitB l M i) ∧ f2 = .bool (hitB l N i) ∧ vi = .int .i64 i ∧ Chg (fun _ => False) wx wr) (fun _ _ vi _ => l.length - (intOf vi).toNat)
      case atStart => exact ⟨0, Nat.zero_le _, rfl, rfl, rfl, Chg.refl _ _⟩
      case round =>
        obtain ⟨i, hi, rfl, rfl, rfl, hCr⟩ := hrel
        by_cases hlt : i < l.length
        · have hd1 : decide ((i : Int) < (l.length : Int)) = true := decide_eq_true (by omega)
          have HLT := Lib.hid hlt
          have hkw : IntKind.i64.wrap ((i : Int) + 1) = (i : Int) + 1 := IntWalk.i64_in _ (by have := HG.out; omega)
          have hi0 : (0 : Int) ≤ (i : Int) := by omega
          have hi1 : (i : Int) < (l.length : Int) := by omega
          replace y2 := hCr.cell y2 id
          obtain ⟨bl, ol, cl, e1, hx⟩ := (HL.out.fr (HC.out.tr hCr)).at hlt
          injection e1 with e1 e2 e3
          subst e1
          clear e2 e3
          obtain ⟨bs', os', cs', e1, hy⟩ := (HE.out.fr hCr).at (j := i) (by rw [HTL.out]; exact hlt)
          injection e1 with e1 e2 e3
          injection e1 with e1
          injection e1 with e1 e4 _
          subst e1 e4
          clear e2 e3
          have hge := beg7_ge hlt
          rw [HT.out i (by rw [HTL.out]; exact hlt)] at hy
          have hxM := HX.out.1.2 _ (List.getElem_mem hlt)
          have hxN := HX.out.2.2 _ (List.getElem_mem hlt)
          have hs1 := hit_succ (m := M) hlt
          have hs2 := hit_succ (m := N) hlt
          obtain ⟨p, hp⟩ : ∃ p, hitB l M i = p := ⟨_, rfl⟩
          obtain ⟨q, hq⟩ : ∃ q, hitB l N i = q := ⟨_, rfl⟩
          obtain ⟨y, hyy⟩ : ∃ y, (begP 7 l i).1 = y := ⟨_, rfl⟩
          rw [hyy] at hge hy
          rw [hp] at hs1
          rw [hq] at hs2
          rw [hp, hq]
          generalize l[i] = x at *
          have HH := Lib.hid (And.intro hs1 hs2)
          have c1' : decide (M < x) = false := decide_eq_false (by omega)
          have c2' : decide (x < N) = false := decide_eq_false (by omega)
          have c3' : decide (y < x) = false := decide_eq_false (by omega)
          have hCd := hCr.drew
          by_cases hz : i = 0
          · have hd2 : decide (0 < i) = false := decide_eq_false (by omega)
            clear hp hq hyy hz hge hxM hxN hs1 hs2 hlt hi
            cases p with
            | true =>
              cases q with
              | true =>
                have HS1 := Lib.hid (show (Value.bool true = .bool (hitB l M (i + 1))) ∧ (Value.bool true = .bool (hitB l N (i + 1))) from ⟨by rw [HH.out.1, Bool.true_or], by rw [HH.out.2, Bool.true_or]⟩)
                go_wp2
                go_quiet (fail)
                go_wp2
                go_quiet (fail)
                go_wp2
                go_roundw
                case rel => exact ⟨i + 1, HLT.out, HS1.out.1, HS1.out.2, by go_num, by first | exact (hCr.drewN _).drewN _ | exact hCd.drewN _ | exact hCr.drewN _ | exact hCd.drew⟩
                case measure => exact fit_meas i _ HLT.out
              | false =>
                have HS1 := Lib.hid (show (Value.bool true = .bool (hitB l M (i + 1))) ∧ (Value.bool (x == N) = .bool (hitB l N (i + 1))) from ⟨by rw [HH.out.1]; simp, by rw [HH.out.2]; simp⟩)
                go_wp2
                go_quiet (fail)
                go_wp2
                go_quiet (fail)
                go_wp2
                go_roundw
                case rel => exact ⟨i + 1, HLT.out, HS1.out.1, HS1.out.2, by go_num, by first | exact (hCr.drewN _).drewN _ | exact hCd.drewN _ | exact hCr.drewN _ | exact hCd.drew⟩
                case measure => exact fit_meas i _ HLT.out
            | false =>
              cases q with
              | true =>
                have HS1 := Lib.hid (show (Value.bool (x == M) = .bool (hitB l M (i + 1))) ∧ (Value.bool true = .bool (hitB l N (i + 1))) from ⟨by rw [HH.out.1]; simp, by rw [HH.out.2]; simp⟩)
                go_wp2
                go_quiet (fail)
                go_wp2
                go_quiet (fail)
                go_wp2
                go_roundw
                case rel => exact ⟨i + 1, HLT.out, HS1.out.1, HS1.out.2, by go_num, by first | exact (hCr.drewN _).drewN _ | exact hCd.drewN _ | exact hCr.drewN _ | exact hCd.drew⟩
                case measure => exact fit_meas i _ HLT.out
              | false =>
                have HS1 := Lib.hid (show (Value.bool (x == M) = .bool (hitB l M (i + 1))) ∧ (Value.bool (x == N) = .bool (hitB l N (i + 1))) from ⟨by rw [HH.out.1]; simp, by rw [HH.out.2]; simp⟩)
                go_wp2
                go_quiet (fail)
                go_wp2
                go_quiet (fail)
                go_wp2
                go_roundw
                case rel => exact ⟨i + 1, HLT.out, HS1.out.1, HS1.out.2, by go_num, by first | exact (hCr.drewN _).drewN _ | exact hCd.drewN _ | exact hCr.drewN _ | exact hCd.drew⟩
                case measure => exact fit_meas i _ HLT.out
          · obtain ⟨j, hj⟩ : ∃ j, i = j + 1 := ⟨i - 1, by omega⟩
            have hd2 : decide (0 < i) = true := decide_eq_true (by omega)
            obtain ⟨bs', os', cs', e1, hv⟩ := (HE.out.fr hCr).at (j := j) (by rw [HTL.out]; omega)
            injection e1 with e1 e2 e3
            injection e1 with e1
            injection e1 with e1 e4 _
            subst e1 e4
            clear e2 e3
            rw [HT.out j (by rw [HTL.out]; omega)] at hv
            have hup := beg7_up (l := l) (i := j) (by omega)
            rw [← hj, hyy] at hup
            generalize (begP 7 l j).1 = u at *
            have c4' : decide (y < u) = false := decide_eq_false (by omega)
            have hw1 : IntKind.i64.wrap ((i : Int) - 1) = (j : Int) := by rw [hj]; exact (congrArg _ (by omega)).trans (IntWalk.i64_in (j : Int) (by have := HG.out; omega))
            have hj0 : (0 : Int) ≤ (j : Int) := by omega
            have hj1 : (j : Int) < (l.length : Int) := by omega
            clear hp hq hyy hz hge hxM hxN hs1 hs2 hlt hi hj hup
            cases p with
            | true =>
              cases q with
              | true =>
                have HS1 := Lib.hid (show (Value.bool true = .bool (hitB l M (i + 1))) ∧ (Value.bool true = .bool (hitB l N (i + 1))) from ⟨by rw [HH.out.1, Bool.true_or], by rw [HH.out.2, Bool.true_or]⟩)
                go_wp2
                go_quiet (fail)
                go_wp2
                go_quiet (fail)
                go_wp2
                go_roundw
                case rel => exact ⟨i + 1, HLT.out, HS1.out.1, HS1.out.2, by go_num, by first | exact (hCr.drewN _).drewN _ | exact hCd.drewN _ | exact hCr.drewN _ | exact hCd.drew⟩
                case measure => exact fit_meas i _ HLT.out
              | false =>
                have HS1 := Lib.hid (show (Value.bool true = .bool (hitB l M (i + 1))) ∧ (Value.bool (x == N) = .bool (hitB l N (i + 1))) from ⟨by rw [HH.out.1]; simp, by rw [HH.out.2]; simp⟩)
                go_wp2
                go_quiet (fail)
                go_wp2
                go_quiet (fail)
                go_wp2
                go_roundw
                case rel => exact ⟨i + 1, HLT.out, HS1.out.1, HS1.out.2, by go_num, by first | exact (hCr.drewN _).drewN _ | exact hCd.drewN _ | exact hCr.drewN _ | exact hCd.drew⟩
                case measure => exact fit_meas i _ HLT.out
            | false =>
              cases q with
              | true =>
                have HS1 := Lib.hid (show (Value.bool (x == M) = .bool (hitB l M (i + 1))) ∧ (Value.bool true = .bool (hitB l N (i + 1))) from ⟨by rw [HH.out.1]; simp, by rw [HH.out.2]; simp⟩)
                go_wp2
                go_quiet (fail)
                go_wp2
                go_quiet (fail)
                go_wp2
                go_roundw
                case rel => exact ⟨i + 1, HLT.out, HS1.out.1, HS1.out.2, by go_num, by first | exact (hCr.drewN _).drewN _ | exact hCd.drewN _ | exact hCr.drewN _ | exact hCd.drew⟩
                case measure => exact fit_meas i _ HLT.out
              | false =>
                have HS1 := Lib.hid (show (Value.bool (x == M) = .bool (hitB l M (i + 1))) ∧ (Value.bool (x == N) = .bool (hitB l N (i + 1))) from ⟨by rw [HH.out.1]; simp, by rw [HH.out.2]; simp⟩)
                go_wp2
                go_quiet (fail)
                go_wp2
                go_quiet (fail)
                go_wp2
                go_roundw
                case rel => exact ⟨i + 1, HLT.out, HS1.out.1, HS1.out.2, by go_num, by first | exact (hCr.drewN _).drewN _ | exact hCd.drewN _ | exact hCr.drewN _ | exact hCd.drew⟩
                case measure => exact fit_meas i _ HLT.out
        · obtain rfl : i = l.length := by omega
          rw [hit_all HX.out.1.1, hit_all HX.out.2.1]
          have hd1 : decide ((l.length : Int) < (l.length : Int)) = false := decide_eq_false (by omega)
          have HCR := Lib.hid hCr
          clear hlt hi hCr
          go_wp2
          go_ret
          exact ⟨rfl, HC.out.tr HCR.out⟩
end Go.Proofs.Ytjmlekdgipinfaa
