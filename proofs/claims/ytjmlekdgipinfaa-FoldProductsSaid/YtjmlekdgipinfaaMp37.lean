/- The document's fold: rows; what is wrong ahead of the elements. -/
import Derived.Test.YtjmlekdgipinfaaMp36
namespace Go.Proofs.Ytjmlekdgipinfaa
open Go.RowKit Go.Shelf

set_option maxRecDepth 100000 in
set_option maxHeartbeats 2000000 in
theorem r16rows_any (v : Value) (s : List Int) (w : World) (hS : Ls w v s) : Calls Try.prog 30 #[v] w (GaveRw w (manyN s) (longN s)) := by
  obtain ⟨ao, c, rfl, _⟩ := hS.form
  have hca := r11count_any _ _ _ hS
  unfold GaveC at hca
  cases hsh : shB s with
  | false =>
    rw [cntE_not hsh, cntN_not hsh] at hca
    have HR := Lib.hid (show manyN s = 0 ∧ longN s = 0 by unfold manyN longN; rw [hsh]; exact ⟨rfl, rfl⟩)
    clear hsh hS
    go_enter Try.func30, Try.ntmps30
    go_wp2_with fail
    refine hca.mono ?_
    clear hca
    rintro e9 w1 ⟨rfl, rfl⟩
    go_wp2
    go_ret2
    exact ⟨by rw [HR.out.1, HR.out.2]; rfl, Chg.refl _ _⟩
  | true =>
    rw [cntE_ok hsh, cntN_ok hsh] at hca
    obtain ⟨P, hP⟩ : ∃ P, prodL s = P := ⟨_, rfl⟩
    rw [hP] at hca
    by_cases h0 : s = []
    · subst h0
      clear hsh hS hP
      go_enter Try.func30, Try.ntmps30
      go_wp2_with fail
      refine hca.mono ?_
      clear hca
      rintro e9 w1 ⟨rfl, rfl⟩
      go_wp2
      go_ret2
      exact ⟨rfl, Chg.refl _ _⟩
    · obtain ⟨k, hk⟩ : ∃ k, s.length = k + 1 := ⟨s.length - 1, by have := List.length_pos_iff.2 h0; omega⟩
      have h4 := shB_iff.1 hsh
      have hkl : k < s.length := by omega
      have hx := h4.2.1 s[k] (List.getElem_mem hkl)
      have hdl : s.dropLast = s.take k := by rw [List.dropLast_eq_take, hk]; rfl
      have hgl : s.getLastD 1 = s[k] := by
        rw [List.getLastD_eq_getLast?, List.getLast?_eq_getElem?, show s.length - 1 = k by omega, List.getElem?_eq_getElem hkl]
        rfl
      have HMN := Lib.hid (show manyN s = prodL (s.take k) ∧ longN s = s[k] by unfold manyN longN; rw [hsh, if_pos rfl, if_pos rfl, hdl, hgl]; exact ⟨rfl, rfl⟩)
      have hpr : prodL s = prodL (s.take k) * s[k] := by
        have := prodL_take s k hkl
        rwa [List.take_of_length_le (show s.length ≤ k + 1 by omega)] at this
      obtain ⟨ao2, c2, hS2, hrun⟩ := icut_upto hS k (by omega)
      have hcb := r11count_any _ _ _ hS2
      unfold GaveC at hcb
      have HBD := Lib.hid (prod_bd hsh)
      have HLE := Lib.hid (fun (j : Nat) (h : j < s.length) => h4.2.1 s[j] (List.getElem_mem h))
      obtain ⟨b, o, c', e, hcell⟩ := hS.at hkl
      injection e with e e2 e3
      subst e
      clear e2 e3
      have HS := Lib.hid hS
      have HN := Lib.hid hk
      have HK := Lib.hid (show k ≤ 3 by omega)
      obtain ⟨n, hn⟩ : ∃ n, s.length = n := ⟨_, rfl⟩
      rw [hn] at hrun hS ⊢
      rw [hn] at hca
      have k0 : ((n : Int) == 0) = false := beq_eq_false_iff_ne.2 (by omega)
      have k1 : IntKind.i64.wrap ((n : Int) - 1) = (k : Int) := by rw [IntWalk.i64_in _ (by omega)]; omega
      have i1 : (0 : Int) ≤ (k : Int) := by omega
      have i2 : (k : Int) < (n : Int) := by omega
      have HNK := Lib.hid (show n = k + 1 by omega)
      have HNS := Lib.hid hn
      by_cases hz : s[k] = 0
      · rw [hz] at hcell HMN
        clear h0 hk h4 hkl hx hdl hgl hpr hP hsh hS hS2 hz hn
        obtain ⟨CN, hCN⟩ : ∃ CN, cntN (s.take k) = CN := ⟨_, rfl⟩
        obtain ⟨CE, hCE⟩ : ∃ CE, cntE (s.take k) = CE := ⟨_, rfl⟩
        rw [hCN, hCE] at hcb
        clear hCN hCE
        go_enter Try.func30, Try.ntmps30
        go_wp2_with fail
        refine hca.mono ?_
        clear hca
        rintro e9 w1 ⟨rfl, rfl⟩
        go_wp2_with fail
        refine hcb.mono ?_
        clear hcb
        rintro e9 w2 ⟨rfl, rfl⟩
        go_wp2
        go_loopw [7, 9] (fun v7 v9 wr => ∃ j : Nat, j ≤ k ∧ v9 = .int .i64 j ∧ v7 = .int .i64 (prodL (s.take j)) ∧ Chg (fun _ => False) w2 wr) (fun _ v9 _ => k - (intOf v9).toNat)
        case atStart => exact ⟨0, Nat.zero_le _, rfl, rfl, Chg.refl _ _⟩
        case round =>
          obtain ⟨j, hj, rfl, rfl, hC⟩ := hrel
          have HC := Lib.hid hC
          replace hcell := hC.cell hcell id
          by_cases hlt : j < k
          · have hjl : j < s.length := by have := HN.out; omega
            obtain ⟨b2, o2, c2', e, hc⟩ := (HS.out.fr hC).at hjl
            injection e with e e2 e3
            cases e
            clear e2 e3
            have hb1 := HBD.out (j + 1)
            have HT := Lib.hid (prodL_take s j hjl)
            rw [HT.out] at hb1
            have hd : decide ((j : Int) < (k : Int)) = true := decide_eq_true (by omega)
            have j1 : (0 : Int) ≤ (j : Int) := by omega
            have j2 : (j : Int) < (n : Int) := by have := HNK.out; omega
            have kw : IntKind.i64.wrap ((j : Int) + 1) = (j : Int) + 1 := IntWalk.i64_in _ (by have := HK.out; omega)
            have HM := Lib.hid (fit_meas j k hlt)
            have HJ := Lib.hid hlt
            generalize s[j] = x at *
            generalize prodL (s.take j) = p at *
            have kp : IntKind.i64.wrap (p * x) = p * x := IntWalk.i64_in _ (by omega)
            clear hb1 hjl hlt hj hC
            go_wp2
            go_roundw
            case rel => exact ⟨j + 1, HJ.out, by go_num, by rw [HT.out], HC.out⟩
            case measure => exact HM.out
          · obtain rfl : j = k := by omega
            have hd : decide ((j : Int) < (j : Int)) = false := decide_eq_false (by omega)
            clear hlt hj hC
            go_wp2
            go_region
            go_wp2
            go_ret2
            exact ⟨by rw [HMN.out.1, HMN.out.2]; rfl, HC.out.drew⟩
      · have hsh2 : shB (s.take k) = true := shB_iff.2 ⟨by rw [List.length_take]; omega, fun l hl => h4.2.1 l (List.mem_of_mem_take hl), by
          have hp0 := (prod_bd hsh k).1
          have h5 := h4.2.2
          rw [hpr] at h5
          have : prodL (s.take k) * 1 ≤ prodL (s.take k) * s[k] := Int.mul_le_mul_of_nonneg_left (by omega) hp0
          omega⟩
        rw [cntE_ok hsh2, cntN_ok hsh2] at hcb
        have d0 : (s[k] == 0) = false := beq_eq_false_iff_ne.2 hz
        generalize s[k] = x at *
        generalize prodL (s.take k) = Q at *
        clear h0 hk h4 hkl hx hdl hgl hpr hP hsh hS hS2 hz hsh2 hn
        go_enter Try.func30, Try.ntmps30
        go_wp2_with fail
        refine hca.mono ?_
        clear hca
        rintro e9 w1 ⟨rfl, rfl⟩
        go_wp2_with fail
        refine hcb.mono ?_
        clear hcb
        rintro e9 w2 ⟨rfl, rfl⟩
        go_wp2
        go_region
        go_wp2
        go_ret2
        exact ⟨by rw [HMN.out.1, HMN.out.2]; rfl, (Chg.refl _ _).drew⟩
set_option maxHeartbeats 1000000 in
theorem r16fine_any (f : Int) (v : Value) (A : Ar) (w : World) (hA : Ara w v A) (hl : A.e.length ≤ 1000000) : Calls Try.prog 69 #[.int .i64 f, v] w (GaveI w (fineE f A)) := by
  obtain ⟨vs, ve, rfl, hs, he⟩ := hA
  obtain ⟨sa, cs, rfl, _⟩ := hs.form
  obtain ⟨ae, ce, rfl, _⟩ := he.form
  obtain ⟨k, s, e⟩ := A
  simp only at hs he hl ⊢
  have hC0 := (Chg.refl (fun _ => False) w).alloc (.cells #[.int .i64 k, .slice sa s.length cs, .slice ae e.length ce] 25)
  obtain ⟨y0, y1, y2⟩ := cell_two w (.int .i64 k) (.slice sa s.length cs) (.slice ae e.length ce) 25
  have hA : Ara w (.agg #[.int .i64 k, .slice sa s.length cs, .slice ae e.length ce]) ⟨k, s, e⟩ := ⟨_, _, rfl, hs, he⟩
  have hck := r11check_any _ ⟨k, s, e⟩ _ (hA.fr hC0) hl
  unfold GaveI at hck
  have hbi := r12binary_any f
  unfold SaidB at hbi
  have HC0 := Lib.hid hC0
  clear hs he hA hl
  cases hb : binB f with
  | false =>
    rw [show fineE f ⟨k, s, e⟩ = 2 by unfold fineE; rw [hb]; rfl]
    rw [hb] at hbi
    clear hb hck hC0
    go_enter Try.func69, Try.ntmps69
    go_wp2_with (go_at_call 70; refine (hbi _).mono ?_; rintro e9 w1 ⟨rfl, rfl⟩)
    go_wp2
    go_ret
    exact ⟨rfl, HC0.out⟩
  | true =>
    rw [hb] at hbi
    cases hca : chkB ⟨k, s, e⟩ with
    | false =>
      rw [show fineE f ⟨k, s, e⟩ = 110 by unfold fineE; rw [hb, hca]; rfl]
      rw [show chkE ⟨k, s, e⟩ = 110 by unfold chkE; rw [hca]; rfl] at hck
      clear hb hC0 hca
      go_enter Try.func69, Try.ntmps69
      go_wp2_with (go_at_call 70; refine (hbi _).mono ?_; rintro e9 w1 ⟨rfl, rfl⟩)
      refine hck.mono ?_
      clear hck
      rintro e9 w2 ⟨rfl, hC2⟩
      have HC2 := Lib.hid (HC0.out.tr hC2)
      clear hC2
      go_wp2
      go_ret
      exact ⟨rfl, HC2.out⟩
    | true =>
      rw [show chkE ⟨k, s, e⟩ = 0 by unfold chkE; rw [hca]; rfl] at hck
      by_cases hk : k = 2
      · rw [show fineE f ⟨k, s, e⟩ = 5 by unfold fineE; rw [hb, hca, if_pos rfl, if_pos rfl, if_pos hk]]
        have b1 : (k == 2) = true := beq_iff_eq.2 hk
        clear hb hC0 hca hk
        go_enter Try.func69, Try.ntmps69
        go_wp2_with (go_at_call 70; refine (hbi _).mono ?_; rintro e9 w1 ⟨rfl, rfl⟩)
        refine hck.mono ?_
        clear hck
        rintro e9 w2 ⟨rfl, hC2⟩
        replace y0 := hC2.cell y0 id
        have HC2 := Lib.hid (HC0.out.tr hC2)
        clear hC2 y1 y2
        go_wp2
        go_ret
        exact ⟨rfl, HC2.out⟩
      · rw [show fineE f ⟨k, s, e⟩ = 0 by unfold fineE; rw [hb, hca, if_pos rfl, if_pos rfl, if_neg hk]]
        have b1 : (k == 2) = false := beq_eq_false_iff_ne.2 hk
        clear hb hC0 hca hk
        go_enter Try.func69, Try.ntmps69
        go_wp2_with (go_at_call 70; refine (hbi _).mono ?_; rintro e9 w1 ⟨rfl, rfl⟩)
        refine hck.mono ?_
        clear hck
        rintro e9 w2 ⟨rfl, hC2⟩
        replace y0 := hC2.cell y0 id
        have HC2 := Lib.hid (HC0.out.tr hC2)
        clear hC2 y1 y2
        go_wp2
        go_ret
        exact ⟨rfl, HC2.out⟩
end Go.Proofs.Ytjmlekdgipinfaa
