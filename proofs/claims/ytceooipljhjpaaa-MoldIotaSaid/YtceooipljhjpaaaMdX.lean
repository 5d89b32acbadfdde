/- mold: iota. -/
import Derived.Test.YtceooipljhjpaaaMdV
namespace Go.Proofs.Ytceooipljhjpaaa
open Go.RowKit Go.Shelf

theorem iota1_any (i : Int) (w : World) (hi : 0 ≤ i ∧ i ≤ 4096) : Calls Try.prog 88 #[.int .i64 i] w (fun e w' => e = .returned (.int .i64 (i + 1)) ∧ w' = w) := by
  have v1 : wrap64 (i + 1) = i + 1 := mwrap (by omega)
  have w1 : IntKind.i64.wrap i = i := IntWalk.i64_in _ (by omega)
  have w2 : IntKind.i64.wrap (i + 1) = i + 1 := IntWalk.i64_in _ (by omega)
  clear hi
  go_enter Try.func88, Try.ntmps88
  go_wp2
  go_ret
  exact ⟨rfl, rfl⟩
set_option maxRecDepth 100000 in
set_option maxHeartbeats 2000000 in
theorem make_iota (v : Value) (n : Nat) (w : World) (hS : Ls w v [(n : Int)]) (hn : n ≤ 4096) : Calls Try.prog 87 #[.int .i64 1, v, .func (.func 88) #[] #[]] w (GaveAE w (vecB ((List.range n).map fun (i : Nat) => (i : Int) + 1)) 0) := by
  obtain ⟨as_, cs, rfl, _⟩ := hS.form
  simp only [List.length_cons, List.length_nil, Nat.zero_add] at hS ⊢
  have HS := Lib.hid hS
  clear hS
  obtain ⟨i0, hi, hz0, hz1, hz2⟩ := info_parts info_long
  have hC0 := (Chg.refl (fun _ => False) w).alloc (.cells #[.int .i64 0, .slice none 0 0, .slice none 0 0] 25)
  have hB0 := Bx.new w (.int .i64 0) (.slice none 0 0) (.slice none 0 0) 25
  have hsh : shB [(n : Int)] = true := shB_one hn
  have hcnt := count_any _ [(n : Int)] _ (HS.out.fr hC0)
  unfold GaveC at hcnt
  rw [cntN_ok hsh, cntE_ok hsh, prodL_one] at hcnt
  clear hsh
  go_enter Try.func87, Try.ntmps87
  go_wp2_with fail
  refine hcnt.mono ?_
  clear hcnt
  rintro e9 w1 ⟨rfl, hw1⟩
  rw [← hw1] at hC0 hB0
  clear hw1
  have hcl := cloneI_any _ [(n : Int)] w1 (HS.out.fr hC0) (by simp)
  have hs1 : w.heap.size + 1 ≤ w1.heap.size := by have := hB0.lt; omega
  go_wp2_with fail
  refine hcl.mono ?_
  clear hcl
  rintro e9 w2 ⟨v2, rfl, ho2, hC2⟩
  obtain ⟨a2, c2', rfl⟩ := own_name ho2
  simp only [List.length_cons, List.length_nil, Nat.zero_add] at ho2 ⊢
  have hs2 := hC2.size
  go_wp2
  have hM0 : Mak w1 (w2.alloc (.cells #[.int .i64 1, .slice a2 1 c2', .slice none 0 0] 25)) w2.heap.size w1.heap.size (w2.alloc (.cells #[.int .i64 1, .slice a2 1 c2', .slice none 0 0] 25)).heap.size 1 (.slice a2 1 c2') (.slice none 0 0) [(n : Int)] [] :=
    ⟨Bx.new w2 _ _ _ _, ho2.alloc _, Own.nil _ _ _, hC2.alloc _, hs2, by simp, fun q hq => by have := (ho2.lt q hq).2; rw [World.size_alloc]; omega⟩
  obtain ⟨W0, hW0⟩ : ∃ W0, w2.alloc (.cells #[.int .i64 1, .slice a2 1 c2', .slice none 0 0] 25) = W0 := ⟨_, rfl⟩
  have hsz : W0.heap.size = w2.heap.size + 1 := by rw [← hW0]; simp
  rw [hW0] at hM0 ⊢
  clear hW0
  have HSZ := Lib.hid hsz
  clear hsz ho2
  go_loopw [27] (fun i wr => ∃ j : Nat, j ≤ n ∧ i = .int .i64 j ∧ (∃ v, Mak w1 wr w2.heap.size w1.heap.size W0.heap.size 1 (.slice a2 1 c2') v [(n : Int)] ((List.range j).map fun (i : Nat) => (i : Int) + 1))) (fun i _ => n - (intOf i).toNat)
  case atStart => exact ⟨0, Nat.zero_le _, rfl, ⟨_, hM0⟩⟩
  case round =>
    obtain ⟨j, hj, rfl, ⟨v, hM⟩⟩ := hrel
    clear hM0
    obtain ⟨xs, hxs⟩ : ∃ xs, ((List.range j).map fun (i : Nat) => (i : Int) + 1) = xs := ⟨_, rfl⟩
    have hxl : xs.length = j := by rw [← hxs]; simp
    rw [hxs] at hM
    obtain ⟨al, Ll, cl, rfl, hL⟩ := own_nm hM.el
    have hch := hM.ch
    by_cases hlt : j < n
    · have hlt' : (j : Int) < (n : Int) := by omega
      have hkw : IntKind.i64.wrap ((j : Int) + 1) = (j : Int) + 1 := IntWalk.i64_in _ (by omega)
      have HT := Lib.hid (show ((List.range (j + 1)).map fun (i : Nat) => (i : Int) + 1) = xs ++ [(j : Int) + 1] by rw [List.range_succ, List.map_append, hxs]; rfl)
      have c2 := hM.bx.c2
      have f2 := hM.bx.f2
      have HM3 := Lib.hid hM
      have hw3 : w2.heap.size + 1 ≤ wr.heap.size := by have := HM3.out.bx.lt; omega
      have hblt : w2.heap.size < wr.heap.size := hw3
      have hw4 : W0.heap.size ≤ wr.heap.size := by have := HSZ.out; omega
      have hfl := fun w' => iota1_any (j : Int) w' (by omega)
      have hm1 : n - (j + 1) < n - j := by omega
      have HM1 := Lib.hid hm1
      clear hM hch hxs hB0 hm1
      go_wp2_with fail
      go_region_law (first
        | (refine step_append_own (by rfl) (.tmp 31) (.tmp 35) 23 (by rfl) W0.heap.size 2 i0 (.int .i64 0) 1 8 Try.underlying23 hi hz0 hz1 hz2 rfl (by decide) (.slice al Ll cl) xs.length (xs.map I) (by simp [Act.eval]) (HM3.out.el.alloc _) (some ⟨wr.heap.size, 0, none⟩) 1 1 [.int .i64 ((j : Int) + 1)] (by simp [Act.eval]) rfl (fun j u hu => ⟨_, rfl, cell_one_new wr _ _ j u hu⟩) (by simp [Value.oneCell']) (by unfold maxLen; omega) (by omega) (by simp; omega) ?_; intro v2 w4 hown2 hg2 _ hO2; obtain ⟨⟨hd1, hd2⟩, hM4⟩ := HM3.out.more (((Chg.refl _ wr).alloc _).drew) hg2 hown2 rfl; obtain ⟨al2, L2, cl2, rfl, hL2⟩ := own_nm hM4.el)
        | (go_simp; go_at_call 88; (with_reducible refine (hfl _).mono ?_); rintro e9 w9 ⟨rfl, rfl⟩))
      all_goals
        go_wp2
        go_roundw
        case rel => exact ⟨j + 1, hlt, by go_num, ⟨_, by rw [HT.out]; exact hM4⟩⟩
        case measure => exact HM1.out
    · obtain rfl : j = n := by omega
      have hj2 : ¬ (j : Int) < (j : Int) := by omega
      have hX : (⟨1, [(j : Int)], xs⟩ : Ar) = vecB ((List.range j).map fun (i : Nat) => (i : Int) + 1) := by
        rw [← hxs]
        unfold vecB
        rw [List.length_map, List.length_range]
      have HX := Lib.hid hX
      have c0 := hM.bx.c0
      have c1 := hM.bx.c1
      have c2 := hM.bx.c2
      have hck := check_any _ ⟨1, [(j : Int)], xs⟩ wr (Ara.mk (k := 1) hM.sh.ls hM.el.ls) (show xs.length ≤ 1000000 by omega)
      rw [show chkE ⟨1, [(j : Int)], xs⟩ = 0 by rw [chkE_zero, hX]; exact chk_vec (by simp; omega)] at hck
      have HM := Lib.hid hM
      have HW := Lib.hid (And.intro hs1 hs2)
      clear hxs hM hch hX hs1 hs2
      go_wp2_with fail
      refine hck.mono ?_
      clear hck
      rintro e9 w3 ⟨rfl, hC3⟩
      have hM3 := HM.out.fr hC3
      obtain ⟨z0, z1, z2, x0', x1', x2'⟩ := hB0.fr hM3.ch
      replace c0 := hC3.cell c0 id
      replace c1 := hC3.cell c1 id
      replace c2 := hC3.cell c2 id
      obtain ⟨⟨g0, g1⟩, g2⟩ := set3_cells (.int .i64 1) (.slice a2 1 c2') (.slice al Ll cl) z0 z1 z2
      have HM3 := Lib.hid hM3
      clear hM3 hC3
      go_wp2
      simp [bodyPost, results, Try.results87, go_sem, g0, g1, g2]
      rw [← HX.out]
      exact leaveAE HM3.out.sh HM3.out.el (Nat.le_refl _) (by have := HW.out; omega) (by have := HW.out; have := HSZ.out; omega) (hC0.tr HM3.out.ch)
def iotE (A : Ar) : Int := if chkB A then (if 0 < A.s.length then 3 else if A.k = 2 ∨ A.e.headD 0 < 0 then 5 else if 4096 < A.e.headD 0 then 9 else 0) else 110
def iotV (n : Int) : List Int := (List.range n.toNat).map fun (i : Nat) => (i : Int) + 1
def iotA (A : Ar) : Ar := if iotE A = 0 then vecB (iotV (A.e.headD 0)) else noA
set_option maxRecDepth 100000 in
set_option maxHeartbeats 2000000 in
theorem iota_any (u : Value) (A : Ar) (w : World) (hA : Ara w u A) (hle : A.e.length ≤ 1000000) : Calls Try.prog 39 #[u] w (GaveAE w (iotA A) (iotE A)) := by
  have hA' := hA
  obtain ⟨k, t, e⟩ := A
  obtain ⟨vt, ve, rfl, ht, he⟩ := hA
  simp only at ht he hle
  obtain ⟨ta, ct, rfl, _⟩ := ht.form
  obtain ⟨ae, ce, rfl, _⟩ := he.form
  have hC0 := ((Chg.refl (fun _ => False) w).alloc (.cells #[.int .i64 k, .slice ta t.length ct, .slice ae e.length ce] 25)).alloc (.cells #[.int .i64 0, .slice none 0 0, .slice none 0 0] 25)
  have hK1 := (Chg.refl (fun _ => False) (w.alloc (.cells #[.int .i64 k, .slice ta t.length ct, .slice ae e.length ce] 25))).alloc (.cells #[.int .i64 0, .slice none 0 0, .slice none 0 0] 25)
  obtain ⟨y0, y1, y2⟩ := cell_two w (.int .i64 k) (.slice ta t.length ct) (.slice ae e.length ce) 25
  have hB0 := Bx.new (w.alloc (.cells #[.int .i64 k, .slice ta t.length ct, .slice ae e.length ce] 25)) (.int .i64 0) (.slice none 0 0) (.slice none 0 0) 25
  rw [World.size_alloc] at hB0
  replace y0 := hK1.cell y0 id
  replace y1 := hK1.cell y1 id
  replace y2 := hK1.cell y2 id
  have hck := check_any _ ⟨k, t, e⟩ _ (hA'.fr hC0) hle
  have HC := Lib.hid hC0
  have HE := Lib.hid he
  clear hA' ht he hC0 hK1 hle
  cases hca : chkB ⟨k, t, e⟩ with
  | false =>
    have HR := Lib.hid (show iotA ⟨k, t, e⟩ = noA ∧ iotE ⟨k, t, e⟩ = 110 by unfold iotA iotE; rw [hca]; exact ⟨rfl, rfl⟩)
    rw [show chkE ⟨k, t, e⟩ = 110 by unfold chkE; rw [hca]; rfl] at hck
    clear hca
    go_enter Try.func39, Try.ntmps39
    go_wp2_with fail
    refine hck.mono ?_
    clear hck
    rintro e9 w1 ⟨rfl, hC1⟩
    replace y0 := hC1.cell y0 id
    replace y1 := hC1.cell y1 id
    replace y2 := hC1.cell y2 id
    obtain ⟨z0, z1, z2, f0, f1, f2⟩ := hB0.fr hC1
    replace HC := Lib.hid (HC.out.tr hC1)
    skip
    clear hC1 hB0
    obtain ⟨⟨g0, g1⟩, g2⟩ := set3_cells (.int .i64 0) (.slice none 0 0) (.slice none 0 0) z0 z1 z2
    go_wp2
    simp [bodyPost, results, Try.results39, go_sem, g0, g1, g2]
    rw [HR.out.1, HR.out.2]
    exact leaveNo (Nat.le_succ _) HC.out
  | true =>
    have hI : iotE ⟨k, t, e⟩ = if 0 < t.length then 3 else if k = 2 ∨ e.headD 0 < 0 then 5 else if 4096 < e.headD 0 then 9 else 0 := by unfold iotE; rw [hca]; rfl
    rw [show chkE ⟨k, t, e⟩ = 0 by unfold chkE; rw [hca]; rfl] at hck
    have hp := (chkB_iff.1 hca).2.1
    have hkk := (chk_len hca).2
    simp only at hp hkk
    clear hca
    by_cases ht0 : 0 < t.length
    · rw [if_pos ht0] at hI
      have HR := Lib.hid (show iotA ⟨k, t, e⟩ = noA ∧ iotE ⟨k, t, e⟩ = 3 from ⟨by unfold iotA; rw [hI]; rfl, hI⟩)
      have d1 : decide ((0 : Int) < (t.length : Int)) = true := decide_eq_true (by omega)
      clear hI hp hkk
      go_enter Try.func39, Try.ntmps39
      go_wp2_with fail
      refine hck.mono ?_
      clear hck
      rintro e9 w1 ⟨rfl, hC1⟩
      replace y0 := hC1.cell y0 id
      replace y1 := hC1.cell y1 id
      replace y2 := hC1.cell y2 id
      obtain ⟨z0, z1, z2, f0, f1, f2⟩ := hB0.fr hC1
      replace HC := Lib.hid (HC.out.tr hC1)
      skip
      clear hC1 hB0
      obtain ⟨⟨g0, g1⟩, g2⟩ := set3_cells (.int .i64 0) (.slice none 0 0) (.slice none 0 0) z0 z1 z2
      go_wp2
      simp [bodyPost, results, Try.results39, go_sem, g0, g1, g2]
      rw [HR.out.1, HR.out.2]
      exact leaveNo (Nat.le_succ _) HC.out
    · rw [if_neg ht0] at hI
      have ht1 : t = [] := List.eq_nil_of_length_eq_zero (by omega)
      subst ht1
      simp only [prodL] at hp
      obtain ⟨x, rfl⟩ : ∃ x, e = [x] := by
        cases e with
        | nil => simp at hp
        | cons x r =>
          cases r with
          | nil => exact ⟨x, rfl⟩
          | cons y q => simp at hp; omega
      replace hI : iotE ⟨k, [], [x]⟩ = if k = 2 ∨ x < 0 then 5 else if 4096 < x then 9 else 0 := hI
      simp only [List.length_cons, List.length_nil, Nat.zero_add] at y1 y2 hck ⊢
      clear hp ht0
      obtain ⟨bb, o, cc, e1, hx⟩ := HE.out.at (j := 0) (by simp)
      simp only [List.length_cons, List.length_nil, Nat.zero_add] at e1
      injection e1 with e1 e2 e3
      subst e1
      clear e2 e3
      rw [Nat.add_zero, List.getElem_cons_zero] at hx
      have HX := Lib.hid hx
      by_cases hk2 : k = 2
      · rw [if_pos (.inl hk2)] at hI
        have HR := Lib.hid (show iotA ⟨k, [], [x]⟩ = noA ∧ iotE ⟨k, [], [x]⟩ = 5 from ⟨by unfold iotA; rw [hI]; rfl, hI⟩)
        subst hk2
        clear hI hx hkk
        go_enter Try.func39, Try.ntmps39
        go_wp2_with fail
        refine hck.mono ?_
        clear hck
        rintro e9 w1 ⟨rfl, hC1⟩
        replace y0 := hC1.cell y0 id
        replace y1 := hC1.cell y1 id
        replace y2 := hC1.cell y2 id
        obtain ⟨z0, z1, z2, f0, f1, f2⟩ := hB0.fr hC1
        replace HC := Lib.hid (HC.out.tr hC1)
        skip
        clear hC1 hB0
        obtain ⟨⟨g0, g1⟩, g2⟩ := set3_cells (.int .i64 0) (.slice none 0 0) (.slice none 0 0) z0 z1 z2
        go_wp2
        simp [bodyPost, results, Try.results39, go_sem, g0, g1, g2]
        rw [HR.out.1, HR.out.2]
        exact leaveNo (Nat.le_succ _) HC.out
      · have b1 : (k == 2) = false := beq_eq_false_iff_ne.2 hk2
        by_cases hx0 : x < 0
        · rw [if_pos (.inr hx0)] at hI
          have HR := Lib.hid (show iotA ⟨k, [], [x]⟩ = noA ∧ iotE ⟨k, [], [x]⟩ = 5 from ⟨by unfold iotA; rw [hI]; rfl, hI⟩)
          have d1 : decide (x < 0) = true := decide_eq_true hx0
          clear hI hx hkk
          go_enter Try.func39, Try.ntmps39
          go_wp2_with fail
          refine hck.mono ?_
          clear hck
          rintro e9 w1 ⟨rfl, hC1⟩
          replace y0 := hC1.cell y0 id
          replace y1 := hC1.cell y1 id
          replace y2 := hC1.cell y2 id
          obtain ⟨z0, z1, z2, f0, f1, f2⟩ := hB0.fr hC1
          replace HC := Lib.hid (HC.out.tr hC1)
          (have hx := HC.out.cell HX.out id)
          clear hC1 hB0
          obtain ⟨⟨g0, g1⟩, g2⟩ := set3_cells (.int .i64 0) (.slice none 0 0) (.slice none 0 0) z0 z1 z2
          go_wp2
          simp [bodyPost, results, Try.results39, go_sem, g0, g1, g2]
          rw [HR.out.1, HR.out.2]
          exact leaveNo (Nat.le_succ _) HC.out
        · have d1 : decide (x < 0) = false := decide_eq_false hx0
          rw [if_neg (by omega)] at hI
          by_cases hx1 : 4096 < x
          · rw [if_pos hx1] at hI
            have HR := Lib.hid (show iotA ⟨k, [], [x]⟩ = noA ∧ iotE ⟨k, [], [x]⟩ = 9 from ⟨by unfold iotA; rw [hI]; rfl, hI⟩)
            have d2 : decide ((4096 : Int) < x) = true := decide_eq_true hx1
            clear hI hx hkk
            go_enter Try.func39, Try.ntmps39
            go_wp2_with fail
            refine hck.mono ?_
            clear hck
            rintro e9 w1 ⟨rfl, hC1⟩
            replace y0 := hC1.cell y0 id
            replace y1 := hC1.cell y1 id
            replace y2 := hC1.cell y2 id
            obtain ⟨z0, z1, z2, f0, f1, f2⟩ := hB0.fr hC1
            replace HC := Lib.hid (HC.out.tr hC1)
            (have hx := HC.out.cell HX.out id)
            clear hC1 hB0
            obtain ⟨⟨g0, g1⟩, g2⟩ := set3_cells (.int .i64 0) (.slice none 0 0) (.slice none 0 0) z0 z1 z2
            go_wp2
            simp [bodyPost, results, Try.results39, go_sem, g0, g1, g2]
            rw [HR.out.1, HR.out.2]
            exact leaveNo (Nat.le_succ _) HC.out
          · rw [if_neg hx1] at hI
            have HR := Lib.hid (show iotA ⟨k, [], [x]⟩ = vecB (iotV x) ∧ iotE ⟨k, [], [x]⟩ = 0 from ⟨by unfold iotA; rw [hI]; rfl, hI⟩)
            have d2 : decide ((4096 : Int) < x) = false := decide_eq_false hx1
            obtain ⟨n, rfl⟩ := Int.eq_ofNat_of_zero_le (show 0 ≤ x by omega)
            have w1 : IntKind.i64.wrap (n : Int) = (n : Int) := IntWalk.i64_in _ (by omega)
            have HN := Lib.hid (show n ≤ 4096 by omega)
            clear hI hx hkk hx0 hx1 hk2
            go_enter Try.func39, Try.ntmps39
            go_wp2_with fail
            refine hck.mono ?_
            clear hck
            rintro e9 w1 ⟨rfl, hC1⟩
            replace y0 := hC1.cell y0 id
            replace y1 := hC1.cell y1 id
            replace y2 := hC1.cell y2 id
            have hB1 := hB0.fr hC1
            replace HC := Lib.hid (HC.out.tr hC1)
            have hx := HC.out.cell HX.out id
            clear hC1 hB0
            have hCl := (Chg.refl (fun _ => False) w1).alloc (.cells #[.int .i64 n] 3)
            have hmk := make_iota _ n _ (own_lit w1 3 [(n : Int)] 1 rfl #[.int .i64 n] rfl (by simp)).ls HN.out
            go_wp2_with fail
            refine hmk.mono ?_
            clear hmk
            rintro e9 w4 ⟨v4, rfl, ho4, hC4⟩
            obtain ⟨a5, c5, a6, c6, hv4, q1, q2⟩ := ara_new ho4
            subst hv4
            generalize hXX : vecB ((List.range n).map fun (i : Nat) => (i : Int) + 1) = XX at *
            obtain ⟨z0, z1, z2, f0, f1, f2⟩ := (hB1.fr hCl).fr hC4
            obtain ⟨⟨g0, g1⟩, g2⟩ := set3_cells (.int .i64 XX.k) (.slice a5 XX.s.length c5) (.slice a6 XX.e.length c6) z0 z1 z2
            have HLT := Lib.hid (hB1.fr hCl).lt
            have HC4 := Lib.hid ((HC.out.tr hCl).tr hC4)
            have HXX := Lib.hid hXX
            clear hC4 ho4 hB1 hCl hXX
            go_wp2
            simp [bodyPost, results, Try.results39, go_sem, g0, g1, g2]
            rw [HR.out.1, HR.out.2, show vecB (iotV (n : Int)) = XX from HXX.out]
            show GaveAE w ⟨XX.k, XX.s, XX.e⟩ 0 _ _
            exact leaveAE q1 q2 (Nat.le_succ _) HLT.out HLT.out HC4.out
end Go.Proofs.Ytceooipljhjpaaa
