/- pick: compress' way, walked. -/
import Derived.Test.YtnjnajbdpaaikaaPkN
import Derived.Test.YtnjnajbdpaaikaaArY
namespace Go.Proofs.Ytnjnajbdpaaikaa
open Go.RowKit Go.Shelf

theorem head_at (l : List Int) (h : 0 < l.length) : l.headD 0 = l[0] := by
  cases l with
  | nil => simp at h
  | cons a r => rfl
theorem pchg_drew {S : Nat → Prop} {a w : World} (h : Chg S a w) : Chg S a w.drew := h.drew
theorem pchg_set {g i : Nat} {a w : World} {u : Value} (h : Chg (fun q => q = g) a w) : Chg (fun q => q = g) a (w.setCell ⟨g, i, none⟩ u) := h.setCell (p := ⟨g, i, none⟩) (.inl rfl) u
theorem pchg_tr {S : Nat → Prop} {a w w' : World} (h : Chg S a w) (k : Chg (fun _ => False) w w') : Chg S a w' := h.trans k (fun _ _ h => h) (fun _ _ h => h.elim)
theorem sizeOf_int (w : World) : (sizeOf 3).run Try.prog w = .ok 1 w := by kernel_rfl
theorem Ls.mslice {w : World} {v : Value} {xs : List Int} (h : Ls w v xs) (hi : Nat) (h2 : hi ≤ xs.length) : ∃ ao c, Ls w (.slice ao hi c) (xs.take hi) ∧ (∀ W, (Instr.slice 22 v none (some (.int .i64 hi)) none).run Try.prog W = .ok (.slice ao hi c) W) := by
  obtain ⟨ao, c, hS, _, _, _, h5⟩ := Sl.slice (P := Try.prog) 22 3 Try.underlying22 sizeOf_int h 0 hi (Nat.zero_le _) (by rw [List.length_map]; exact h2)
  refine ⟨ao, c, ?_, h5 rfl⟩
  unfold Ls
  rw [List.map_take]
  exact hS
set_option maxRecDepth 100000 in
set_option maxHeartbeats 4000000 in
theorem cway_any (u v : Value) (L : Ar) (s : List Int) (w : World) (hL : Ara w u L) (hS : Ls w v s) (hle : L.e.length ≤ 1000000) : Calls Try.prog 31 #[u, v] w (GaveW w (cpW L s)) := by
  have hml := fun w' (h : Chg (fun _ => False) w w') => mlist_any u L w' (hL.fr h) hle
  obtain ⟨vt, ve, rfl, ht, he⟩ := hL
  obtain ⟨ta, ct, rfl, _⟩ := ht.form
  obtain ⟨ae, ce, rfl, _⟩ := he.form
  obtain ⟨sa, cs, rfl, _⟩ := hS.form
  obtain ⟨i0, hi, hz0, hz1, hz2⟩ := info_parts info_int
  obtain ⟨v1, hv1⟩ : ∃ v1, w.alloc (.cells #[.int .i64 L.k, .slice ta L.s.length ct, .slice ae L.e.length ce] 25) = v1 := ⟨_, rfl⟩
  obtain ⟨v2, hv2⟩ : ∃ v2, v1.alloc (.cells #[.slice sa s.length cs] 22) = v2 := ⟨_, rfl⟩
  obtain ⟨v3, hv3⟩ : ∃ v3, v2.alloc (.cells #[.slice none 0 0, .nilFunc] 52) = v3 := ⟨_, rfl⟩
  obtain ⟨y0, y1, y2⟩ := cell_two w (.int .i64 L.k) (.slice ta L.s.length ct) (.slice ae L.e.length ce) 25
  have s1 : v1.heap.size = w.heap.size + 1 := by rw [← hv1, World.size_alloc]
  have s2 : v2.heap.size = w.heap.size + 1 + 1 := by rw [← hv2, World.size_alloc, s1]
  have x1 := new_cell v1 #[.slice sa s.length cs] 22 (i := 0) (v := .slice sa s.length cs) rfl
  have z0 := new_cell v2 #[.slice none 0 0, .nilFunc] 52 (i := 0) (v := .slice none 0 0) rfl
  have z1 := new_cell v2 #[.slice none 0 0, .nilFunc] 52 (i := 1) (v := .nilFunc) rfl
  have f0 := new_frozen v2 #[.slice none 0 0, .nilFunc] 52 0
  have f1 := new_frozen v2 #[.slice none 0 0, .nilFunc] 52 1
  have hC1 : Chg (fun _ => False) w v1 := by rw [← hv1]; exact (Chg.refl _ _).alloc _
  have hC2 : Chg (fun _ => False) v1 v2 := by rw [← hv2]; exact (Chg.refl _ _).alloc _
  have hC3 : Chg (fun _ => False) v2 v3 := by rw [← hv3]; exact (Chg.refl _ _).alloc _
  rw [hv1] at y0 y1 y2
  rw [hv2, s1] at x1
  rw [hv3, s2] at z0 z1 f0 f1
  replace y0 := (hC2.tr hC3).cell y0 id
  replace y1 := (hC2.tr hC3).cell y1 id
  replace y2 := (hC2.tr hC3).cell y2 id
  replace x1 := hC3.cell x1 id
  have HC := Lib.hid ((hC1.tr hC2).tr hC3)
  have hcnt := count_any _ s _ (hS.fr HC.out)
  unfold GaveC at hcnt
  have HV := Lib.hid (And.intro hv1 (And.intro hv2 hv3))
  have HS := Lib.hid hS
  have HE := Lib.hid he
  have HML := Lib.hid hml
  clear hv1 hv2 hv3 s1 s2 hC1 hC2 hC3 hS ht he hml
  go_enter Try.func31, Try.ntmps31
  go_wp2_with fail
  rw [HV.out.1, HV.out.2.1, HV.out.2.2]
  clear HV
  cases hsh : shB s with
  | false =>
    rw [cntN_not hsh, cntE_not hsh] at hcnt
    have HR := Lib.hid (cpW_err (L := L) (cp_shape hsh) (by decide))
    clear hsh
    refine hcnt.mono ?_
    clear hcnt
    rintro e9 w1 ⟨rfl, rfl⟩
    obtain ⟨g0, g1⟩ := mset2 (.slice none 0 0) .nilFunc z0 z1
    go_wp2
    simp [bodyPost, results, Try.results31, go_sem, g0, g1]
    rw [HR.out]
    exact mway_no (by decide) (Nat.le_trans (Nat.le_succ _) (Nat.le_succ _)) HC.out
  | true =>
    rw [cntN_ok hsh, cntE_ok hsh] at hcnt
    have HSH := Lib.hid hsh
    have HSB := Lib.hid (shB_iff.1 hsh)
    clear hsh
    refine hcnt.mono ?_
    clear hcnt
    rintro e9 w1 ⟨rfl, rfl⟩
    have hm1 := HML.out _ HC.out
    go_wp2_with fail
    by_cases hl0 : lstE L = 0
    · have HL0 := Lib.hid hl0
      have hlx : lstL L = L.e := if_pos hl0
      rw [hl0, hlx] at hm1
      clear hl0 hlx
      refine hm1.mono ?_
      clear hm1
      rintro e9 w2 ⟨vx, rfl, hox, hC2⟩
      obtain ⟨xa, xc, rfl⟩ := own_name hox
      have hxs := hox.ls
      have HX := Lib.hid hxs
      replace f0 := hC2.frozen z0 f0 id
      replace f1 := hC2.frozen z1 f1 id
      replace z0 := hC2.cell z0 id
      replace z1 := hC2.cell z1 id
      replace y0 := hC2.cell y0 id
      replace y1 := hC2.cell y1 id
      replace y2 := hC2.cell y2 id
      replace x1 := hC2.cell x1 id
      replace HC := Lib.hid (HC.out.tr hC2)
      have hneg := cnegs_any _ L.e w2 hxs hle
      have HCX := Lib.hid hC2
      clear hC2 hox hxs
      go_wp2_with fail
      cases hng : L.e.any (fun n => decide (n < 0)) with
      | true =>
        rw [hng] at hneg
        have HR := Lib.hid (cpW_err (cp_neg HSH.out HL0.out hng) (by decide))
        clear hng
        refine hneg.mono ?_
        clear hneg
        rintro e9 w3 ⟨rfl, hC3⟩
        replace f0 := hC3.frozen z0 f0 id
        replace f1 := hC3.frozen z1 f1 id
        replace z0 := hC3.cell z0 id
        replace z1 := hC3.cell z1 id
        replace y0 := hC3.cell y0 id
        replace y1 := hC3.cell y1 id
        replace y2 := hC3.cell y2 id
        replace x1 := hC3.cell x1 id
        replace HC := Lib.hid (HC.out.tr hC3)
        clear hC3
        obtain ⟨g0, g1⟩ := mset2 (.slice none 0 0) .nilFunc z0 z1
        go_wp2
        simp [bodyPost, results, Try.results31, go_sem, g0, g1]
        rw [HR.out]
        exact mway_no (by decide) (Nat.le_trans (Nat.le_succ _) (Nat.le_succ _)) HC.out
      | false =>
        rw [hng] at hneg
        have HNG := Lib.hid hng
        clear hng
        refine hneg.mono ?_
        clear hneg
        rintro e9 w3 ⟨rfl, hC3⟩
        replace f0 := hC3.frozen z0 f0 id
        replace f1 := hC3.frozen z1 f1 id
        replace z0 := hC3.cell z0 id
        replace z1 := hC3.cell z1 id
        replace y0 := hC3.cell y0 id
        replace y1 := hC3.cell y1 id
        replace y2 := hC3.cell y2 id
        replace x1 := hC3.cell x1 id
        replace HC := Lib.hid (HC.out.tr hC3)
        replace HX := Lib.hid (HX.out.fr hC3)
        clear hC3
        have hlen1 : L.s = [] → L.e.length = 1 := fun h => by
          have hl := HL0.out
          unfold lstE at hl
          split at hl
          · rename_i hc
            have h2 := (chkB_iff.1 hc).2.1
            rw [h] at h2
            simp [prodL] at h2
            omega
          · cases hl
        have HL1 := Lib.hid hlen1
        have HNN := Lib.hid (show ∀ n ∈ L.e, 0 ≤ n from fun n hn => by
          have h := List.any_eq_false.1 HNG.out n hn
          simpa using h)
        clear hlen1
        by_cases hs0 : s = []
        · have HS0 := Lib.hid hs0
          have q0 : ¬ 0 < s.length := by rw [hs0]; simp
          have q1 : decide (0 < s.length) = false := decide_eq_false q0
          have q2 : decide ((0 : Int) < (s.length : Int)) = false := decide_eq_false (by omega)
          clear hs0
          have hz3 : w.heap.size + 1 + 1 < w3.heap.size := cell_lt z0
          have hz2b : w.heap.size + 1 < w3.heap.size := by omega
          have hz1b : w.heap.size < w3.heap.size := by omega
          obtain ⟨v4, hv4⟩ : ∃ v4, w3.alloc (.cells #[] 3) = v4 := ⟨_, rfl⟩
          obtain ⟨w5, hw5⟩ : ∃ w5, v4.alloc (.cells #[.int .i64 0] 3) = w5 := ⟨_, rfl⟩
          have hs4 : v4.heap.size = w3.heap.size + 1 := by rw [← hv4, World.size_alloc]
          have hC4 : Chg (fun _ => False) w3 v4 := by rw [← hv4]; exact (Chg.refl _ _).alloc _
          have hC5 : Chg (fun _ => False) v4 w5 := by rw [← hw5]; exact (Chg.refl _ _).alloc _
          have hfo := own_lit w3 3 [] 0 rfl #[] rfl (by simp)
          rw [hv4] at hfo
          have h11 := new_cell v4 #[.int .i64 0] 3 (i := 0) (v := .int .i64 0) rfl
          rw [hw5, hs4] at h11
          have HF := Lib.hid (hfo.fr hC5)
          have HFO := Lib.hid (show ∀ q, (Value.slice (some ⟨w3.heap.size, 0, none⟩) 0 0).ownBlock = some q → w3.heap.size ≤ q ∧ q < w5.heap.size from fun q hq => HF.out.lt q hq)
          have HNB := Lib.hid (show ∀ q, (Value.slice (some ⟨w3.heap.size, 0, none⟩) 0 0).ownBlock = some q → q ≠ w3.heap.size + 1 from fun q hq => by simp [Value.ownBlock] at hq; omega)
          have HB11 := Lib.hid (show w.heap.size + 1 + 1 < w3.heap.size + 1 by omega)
          have HBS := Lib.hid (show w.heap.size + 1 + 1 < w3.heap.size ∧ w3.heap.size ≤ w5.heap.size from ⟨hz3, (hC4.tr hC5).size⟩)
          have HW5 := Lib.hid (And.intro hv4 hw5)
          have HC45 := Lib.hid (hC4.tr hC5)
          clear hv4 hw5 hs4 hfo hC4 hC5
          by_cases hsc : L.s = []
          · have hl1 := HL1.out hsc
            have b2 : ((L.s.length : Int) == 0) = true := by rw [hsc]; rfl
            have hl0' : 0 < L.e.length := by omega
            obtain ⟨bb, oo, c', e1, hcell⟩ := (HX.out.fr HC45.out).at hl0'
            injection e1 with e1 e2 e3
            subst e1
            clear e2 e3
            have hx0 := HNN.out L.e[0] (List.getElem_mem hl0')
            have hhd : L.e.headD 0 = L.e[0] := head_at _ hl0'
            generalize L.e[0] = x at *
            have HPL := Lib.hid (show cntL L (cpLong L s).toNat = List.replicate L.e.length x ∧ (cpS L s).dropLast = [] ∧ (s ≠ [] → cpLong L s = 0 ∧ 0 ≤ (0 : Int) ∧ (0 : Int) ≤ 4096) from ⟨by rw [HS0.out]; unfold cntL; rw [if_pos hsc, hhd]; rfl, by rw [HS0.out]; rfl, fun h => absurd HS0.out h⟩)
            have HAL := Lib.hid (show L.s = [] ∨ (L.e.length : Int) = cpLong L s from .inl hsc)
            have HCL := Lib.hid (show (List.replicate L.e.length x).length ≤ 1000000 by simp; omega)
            have HFL := Lib.hid (show ([] : List Int).length = 0 ∧ 0 ≤ 4 from ⟨rfl, by decide⟩)
            have hco := copies_all x bb (oo + 0) xc L.e.length L.e.length w5 hl0' hx0 hcell hle
            have y1' := y1
            clear hl1 hl0' hhd hx0 hsc hcell
            go_wp2_with fail
            rw [HW5.out.1, HW5.out.2]
            replace HX := Lib.hid (HX.out.fr HC45.out)
            replace f0 := HC45.out.frozen z0 f0 id
            replace f1 := HC45.out.frozen z1 f1 id
            replace z0 := HC45.out.cell z0 id
            replace z1 := HC45.out.cell z1 id
            replace y0 := HC45.out.cell y0 id
            replace y1 := HC45.out.cell y1 id
            replace y2 := HC45.out.cell y2 id
            replace x1 := HC45.out.cell x1 id
            replace HC := Lib.hid (HC.out.tr HC45.out)
            -- w5: the world ahead of copies; ([] : List Int) the front in (.slice (some ⟨w3.heap.size, 0, none⟩) 0 0), from w3.heap.size on
            unfold GaveCo at hco
            obtain ⟨P, hP⟩ : ∃ P, cpR (List.replicate L.e.length x) = P := ⟨_, rfl⟩
            obtain ⟨B, hB⟩ : ∃ B, decide (sumL (List.replicate L.e.length x) ≤ 4096) = B := ⟨_, rfl⟩
            rw [hP, hB] at hco
            have HP := Lib.hid hP
            have HBB := Lib.hid hB
            clear hP hB
            refine hco.mono ?_
            clear hco
            rintro e9 w6 ⟨vp, rfl, hop, hC6⟩
            obtain ⟨pa, cc, rfl⟩ := own_name hop
            obtain ⟨M, hM⟩ : ∃ M, P.length = M := ⟨_, rfl⟩
            rw [hM] at hop ⊢
            have HM := Lib.hid hM
            clear hM
            replace f0 := hC6.frozen z0 f0 id
            replace f1 := hC6.frozen z1 f1 id
            replace z0 := hC6.cell z0 id
            replace z1 := hC6.cell z1 id
            replace y0 := hC6.cell y0 id
            replace y1 := hC6.cell y1 id
            replace y2 := hC6.cell y2 id
            replace x1 := hC6.cell x1 id
            replace HC := Lib.hid (HC.out.tr hC6)
            replace h11 := hC6.cell h11 id
            replace HF := Lib.hid (HF.out.fr hC6)
            have HOP := Lib.hid hop
            have hz6 : w.heap.size + 1 + 1 < w6.heap.size := cell_lt z0
            have h13 := new_cell w6 #[.slice pa M cc] 22 (i := 0) (v := .slice pa M cc) rfl
            have hC7 := (Chg.refl (fun _ => False) w6).alloc (.cells #[.slice pa M cc] 22)
            have hC78 := (Chg.refl (fun _ => False) (w6.alloc (.cells #[.slice pa M cc] 22))).alloc (.cells #[.int .i64 (M : Int)] 3)
            have hC8 := hC7.tr hC78
            have hnew := (own_lit (w6.alloc (.cells #[.slice pa M cc] 22)) 3 [(M : Int)] 1 rfl #[.int .i64 (M : Int)] rfl (by simp)).ls
            rw [World.size_alloc] at hnew
            replace h13 := hC78.cell h13 id
            have HY := Lib.hid (And.intro z0 (And.intro z1 (And.intro f0 (And.intro f1 (And.intro x1 h11)))))
            have HF8 := Lib.hid (HF.out.fr hC8)
            have H13 := Lib.hid h13
            have HNEW := Lib.hid hnew
            have HC6 := Lib.hid hC6
            have HC8 := Lib.hid hC8
            have HBS6 := Lib.hid (show w3.heap.size ≤ w6.heap.size by have h1 := HBS.out.2; have h2 := hC6.size; omega)
            clear hnew hC7 hC78 hC8 h13 hop hC6 z0 z1 f0 f1 x1 y0 y1 y2 h11
            go_wp2_with (at_builtin; refine wpList_append_own_any rfl (.tmp 80) (.tmp 83) 22 rfl w3.heap.size 3 i0 (.int .i64 0) 1 8 Try.underlying22 hi hz0 hz1 hz2 rfl (by decide) (.slice (some ⟨w3.heap.size, 0, none⟩) 0 0) 0 (([] : List Int).map I) rfl (by have h := HF8.out; unfold Own at h; exact h) (some ⟨w6.heap.size + 1, 0, none⟩) 1 1 [.int .i64 (M : Int)] rfl rfl HNEW.out.src (by simp [Value.oneCell']) (by have := HFL.out.2; unfold maxLen; omega) (by have := HFL.out.2; omega) (by have := HBS6.out; simp; omega) ?_; intro v9 w9 hown9 hg9 _ hO9)
            have X9 : Chg (fun q => (Value.slice (some ⟨w3.heap.size, 0, none⟩) 0 0).ownBlock = some q) w6 w9 := (Chg.mono HC8.out (fun _ _ h => h.elim)).grown hg9 (fun k e => .inl e)
            have X8 : Chg (fun q => (Value.slice (some ⟨w3.heap.size, 0, none⟩) 0 0).ownBlock = some q) _ w9 := (Chg.refl _ _).grown hg9 (fun k e => .inl e)
            have hfb : ∀ q, (Value.slice (some ⟨w3.heap.size, 0, none⟩) 0 0).ownBlock = some q → w3.heap.size ≤ q ∧ q < w5.heap.size := HFO.out
            have m0 : ¬ (Value.slice (some ⟨w3.heap.size, 0, none⟩) 0 0).ownBlock = some (w.heap.size + 1 + 1) := fun e => by have := hfb _ e; have := HBS.out.1; omega
            have m1 : ¬ (Value.slice (some ⟨w3.heap.size, 0, none⟩) 0 0).ownBlock = some (w.heap.size + 1) := fun e => by have := hfb _ e; have := HBS.out.1; omega
            have m2 : ¬ (Value.slice (some ⟨w3.heap.size, 0, none⟩) 0 0).ownBlock = some (w3.heap.size + 1) := fun e => HNB.out _ e rfl
            have m3 : ¬ (Value.slice (some ⟨w3.heap.size, 0, none⟩) 0 0).ownBlock = some w6.heap.size := fun e => by have h1 := hfb _ e; have h2 := HC6.out.size; omega
            obtain ⟨z0, z1, f0, f1, x1, h11⟩ := HY.out
            replace f0 := X9.frozen z0 f0 m0
            replace f1 := X9.frozen z1 f1 m0
            replace z0 := X9.cell z0 m0
            replace z1 := X9.cell z1 m0
            replace x1 := X9.cell x1 m1
            replace h11 := X9.cell h11 m2
            have h13 := X8.cell H13.out m3
            have HO9 := Lib.hid (show Own w9 w3.heap.size 3 v9 (([] : List Int) ++ [(M : Int)]) from by
              have h := hown9
              unfold Own
              rw [List.length_append, List.map_append]
              exact h)
            obtain ⟨a9, l9, c9, rfl, hl9⟩ := owns_name hown9
            have HC9 := Lib.hid (show Chg (fun _ => False) w w9 from HC.out.trans X9 (fun _ _ h => h) (fun i hi h => by have := hfb i h; have := HBS.out.1; omega))
            have HOP9 := Lib.hid (show Ls w9 (.slice pa M cc) P from HOP.out.ls.chg X9 (fun q hq e => by have h1 := HOP.out.lt q hq; have h2 := hfb q e; omega))
            have hcn := count_any _ (([] : List Int) ++ [(M : Int)]) w9 HO9.out.ls
            unfold GaveC at hcn
            clear hown9 hg9 hO9 X8 X9 hfb m0 m1 m2 m3 hl9 hz6
            go_wp2_with fail
            cases hsh2 : shB (([] : List Int) ++ [(M : Int)]) with
            | false =>
              rw [cntN_not hsh2, cntE_not hsh2] at hcn
              have HSH2 := Lib.hid hsh2
              clear hsh2
              refine hcn.mono ?_
              clear hcn
              rintro e9 w10 ⟨rfl, rfl⟩
              have HR := Lib.hid (cpW_err (L := L) (s := s) (n := 9) (cp_lim HSH.out HL0.out HNG.out HAL.out (by
                rw [HPL.out.1]
                rintro ⟨q1, q2⟩
                have hb := HBB.out
                have hp := HP.out
                unfold cpR at hp
                rw [if_pos q1] at hp
                have q3 : cpTo L s = ([] : List Int) ++ [(M : Int)] := by unfold cpTo; rw [HPL.out.1, HPL.out.2.1, hp, HM.out]
                rw [q3] at q2
                (rw [HSH2.out] at q2; cases q2))) (by decide))
              obtain ⟨g0, g1⟩ := mset2 (.slice none 0 0) .nilFunc z0 z1
              clear h13 h11
              go_wp2
              simp [bodyPost, results, Try.results31, go_sem, g0, g1]
              rw [HR.out]
              exact mway_no (by decide) (Nat.le_trans (Nat.le_succ _) (Nat.le_succ _)) HC9.out
            | true =>
              rw [cntN_ok hsh2, cntE_ok hsh2] at hcn
              have HSH2 := Lib.hid hsh2
              clear hsh2
              refine hcn.mono ?_
              clear hcn
              rintro e9 w10 ⟨rfl, rfl⟩
              cases B with
              | false =>
                have HR := Lib.hid (cpW_err (L := L) (s := s) (n := 9) (cp_lim HSH.out HL0.out HNG.out HAL.out (by
                  rw [HPL.out.1]
                  rintro ⟨q1, q2⟩
                  have hb := HBB.out
                  have hp := HP.out
                  unfold cpR at hp
                  rw [if_pos q1] at hp
                  have q3 : cpTo L s = ([] : List Int) ++ [(M : Int)] := by unfold cpTo; rw [HPL.out.1, HPL.out.2.1, hp, HM.out]
                  rw [q3] at q2
                  (rw [decide_eq_true q1] at hb; cases hb))) (by decide))
                obtain ⟨g0, g1⟩ := mset2 (.slice none 0 0) .nilFunc z0 z1
                clear h13 h11
                go_wp2
                simp [bodyPost, results, Try.results31, go_sem, g0, g1]
                rw [HR.out]
                exact mway_no (by decide) (Nat.le_trans (Nat.le_succ _) (Nat.le_succ _)) HC9.out
              | true =>
                have hsum : sumL (List.replicate L.e.length x) ≤ 4096 := of_decide_eq_true HBB.out
                have hPc : cpy (List.replicate L.e.length x) 0 = P := by have h := HP.out; unfold cpR at h; rw [if_pos hsum] at h; exact h
                have hto : cpTo L s = ([] : List Int) ++ [(P.length : Int)] := by unfold cpTo; rw [HPL.out.1, HPL.out.2.1, hPc]
                have hsh3 : shB (([] : List Int) ++ [(P.length : Int)]) = true := by rw [HM.out]; exact HSH2.out
                have hE : cpE L s = 0 := cp_ok HSH.out HL0.out HNG.out HAL.out (by rw [HPL.out.1]; exact hsum) (by rw [hto]; exact hsh3)
                have hpp : ∀ i : Int, cpP L s i = cpF s (0 : Int) P i := fun i => by
                  by_cases e : s = []
                  · rw [← cpF_eq, e]
                    rfl
                  · rw [← cpF_eq, HPL.out.1, hPc, (HPL.out.2.2 e).1]
                have HR := Lib.hid (show cpW L s = ⟨([] : List Int) ++ [(P.length : Int)], (List.range (prodL (([] : List Int) ++ [(P.length : Int)])).toNat).map (fun (i : Nat) => ((0 : Int), cpF s (0 : Int) P i)), 0⟩ by
                  unfold cpW
                  rw [if_pos hE, hto]
                  simp only [hpp])
                have HFN := Lib.hid (cw_fnAt w10 (fun k => w.heap.size ≤ k ∧ k ≠ w.heap.size + 1 + 1) (w.heap.size + 1) w6.heap.size (w3.heap.size + 1) s.length cs M cc _ pa s P ([] : List Int) (0 : Int) ⟨by omega, by omega⟩ ⟨by have := HC.out.size; omega, by have := HBS.out.1; have := HBS6.out; omega⟩ ⟨by have := HB11.out; omega, by have := HB11.out; omega⟩ (fun q hq => by have h1 := (HOP.out.lt q hq).1; have h2 := HBS.out; exact ⟨by omega, by omega⟩) rfl x1 h13 HM.out HOP9.out h11 (fun e => (HPL.out.2.2 e).2) (fun x hx => by
                  rw [← hPc] at hx
                  have h1 := cpy_bd x hx
                  have h2 := HCL.out
                  omega) hsh3)
                obtain ⟨g0, g1⟩ := mset2 (.slice a9 l9 c9) (.func (.func 63) #[] #[.pointer (some ⟨w.heap.size + 1, 0, none⟩), .pointer (some ⟨w6.heap.size, 0, none⟩), .pointer (some ⟨(w3.heap.size + 1), 0, none⟩)]) z0 z1
                clear hsum hPc hto hsh3 hE hpp
                go_wp2
                simp [bodyPost, results, Try.results31, go_sem, g0, g1]
                rw [HR.out]
                exact mway_store (D3 := fun k => w.heap.size ≤ k ∧ k ≠ w.heap.size + 1 + 1) (x := w.heap.size) (.inl ⟨rfl, _, _, _, rfl, by simp only []; rw [HM.out]; exact HO9.out.ls, fun q hq => by have h1 := (HO9.out.lt q hq).1; have h2 := HBS.out.1; exact ⟨by omega, by omega⟩, HFN.out⟩) (fun k hk => .inr hk.1) (Nat.le_refl _) (by omega) (fun h => h.2 rfl) HC9.out rfl
          · have b2 : ((L.s.length : Int) == 0) = false := beq_eq_false_iff_ne.2 (fun h => hsc (List.eq_nil_of_length_eq_zero (by omega)))
            have b3 : ((L.e.length : Int) != (L.e.length : Int)) = false := bne_self_eq_false _
            have HPL := Lib.hid (show cntL L (cpLong L s).toNat = L.e ∧ (cpS L s).dropLast = [] ∧ (s ≠ [] → cpLong L s = 0 ∧ 0 ≤ (0 : Int) ∧ (0 : Int) ≤ 4096) from ⟨by unfold cntL; rw [if_neg hsc], by rw [HS0.out]; rfl, fun h => absurd HS0.out h⟩)
            have HAL := Lib.hid (show L.s = [] ∨ (L.e.length : Int) = cpLong L s from .inr (by rw [HS0.out]; rfl))
            have HCL := Lib.hid hle
            have HFL := Lib.hid (show ([] : List Int).length = 0 ∧ 0 ≤ 4 from ⟨rfl, by decide⟩)
            have hco := copies_each _ L.e _ rfl w5 (HX.out.fr HC45.out) HNN.out hle
            clear hsc
            go_wp2_with fail
            rw [HW5.out.1, HW5.out.2]
            replace HX := Lib.hid (HX.out.fr HC45.out)
            replace f0 := HC45.out.frozen z0 f0 id
            replace f1 := HC45.out.frozen z1 f1 id
            replace z0 := HC45.out.cell z0 id
            replace z1 := HC45.out.cell z1 id
            replace y0 := HC45.out.cell y0 id
            replace y1 := HC45.out.cell y1 id
            replace y2 := HC45.out.cell y2 id
            replace x1 := HC45.out.cell x1 id
            replace HC := Lib.hid (HC.out.tr HC45.out)
            -- w5: the world ahead of copies; ([] : List Int) the front in (.slice (some ⟨w3.heap.size, 0, none⟩) 0 0), from w3.heap.size on
            unfold GaveCo at hco
            obtain ⟨P, hP⟩ : ∃ P, cpR L.e = P := ⟨_, rfl⟩
            obtain ⟨B, hB⟩ : ∃ B, decide (sumL L.e ≤ 4096) = B := ⟨_, rfl⟩
            rw [hP, hB] at hco
            have HP := Lib.hid hP
            have HBB := Lib.hid hB
            clear hP hB
            refine hco.mono ?_
            clear hco
            rintro e9 w6 ⟨vp, rfl, hop, hC6⟩
            obtain ⟨pa, cc, rfl⟩ := own_name hop
            obtain ⟨M, hM⟩ : ∃ M, P.length = M := ⟨_, rfl⟩
            rw [hM] at hop ⊢
            have HM := Lib.hid hM
            clear hM
            replace f0 := hC6.frozen z0 f0 id
            replace f1 := hC6.frozen z1 f1 id
            replace z0 := hC6.cell z0 id
            replace z1 := hC6.cell z1 id
            replace y0 := hC6.cell y0 id
            replace y1 := hC6.cell y1 id
            replace y2 := hC6.cell y2 id
            replace x1 := hC6.cell x1 id
            replace HC := Lib.hid (HC.out.tr hC6)
            replace h11 := hC6.cell h11 id
            replace HF := Lib.hid (HF.out.fr hC6)
            have HOP := Lib.hid hop
            have hz6 : w.heap.size + 1 + 1 < w6.heap.size := cell_lt z0
            have h13 := new_cell w6 #[.slice pa M cc] 22 (i := 0) (v := .slice pa M cc) rfl
            have hC7 := (Chg.refl (fun _ => False) w6).alloc (.cells #[.slice pa M cc] 22)
            have hC78 := (Chg.refl (fun _ => False) (w6.alloc (.cells #[.slice pa M cc] 22))).alloc (.cells #[.int .i64 (M : Int)] 3)
            have hC8 := hC7.tr hC78
            have hnew := (own_lit (w6.alloc (.cells #[.slice pa M cc] 22)) 3 [(M : Int)] 1 rfl #[.int .i64 (M : Int)] rfl (by simp)).ls
            rw [World.size_alloc] at hnew
            replace h13 := hC78.cell h13 id
            have HY := Lib.hid (And.intro z0 (And.intro z1 (And.intro f0 (And.intro f1 (And.intro x1 h11)))))
            have HF8 := Lib.hid (HF.out.fr hC8)
            have H13 := Lib.hid h13
            have HNEW := Lib.hid hnew
            have HC6 := Lib.hid hC6
            have HC8 := Lib.hid hC8
            have HBS6 := Lib.hid (show w3.heap.size ≤ w6.heap.size by have h1 := HBS.out.2; have h2 := hC6.size; omega)
            clear hnew hC7 hC78 hC8 h13 hop hC6 z0 z1 f0 f1 x1 y0 y1 y2 h11
            go_wp2_with (at_builtin; refine wpList_append_own_any rfl (.tmp 80) (.tmp 83) 22 rfl w3.heap.size 3 i0 (.int .i64 0) 1 8 Try.underlying22 hi hz0 hz1 hz2 rfl (by decide) (.slice (some ⟨w3.heap.size, 0, none⟩) 0 0) 0 (([] : List Int).map I) rfl (by have h := HF8.out; unfold Own at h; exact h) (some ⟨w6.heap.size + 1, 0, none⟩) 1 1 [.int .i64 (M : Int)] rfl rfl HNEW.out.src (by simp [Value.oneCell']) (by have := HFL.out.2; unfold maxLen; omega) (by have := HFL.out.2; omega) (by have := HBS6.out; simp; omega) ?_; intro v9 w9 hown9 hg9 _ hO9)
            have X9 : Chg (fun q => (Value.slice (some ⟨w3.heap.size, 0, none⟩) 0 0).ownBlock = some q) w6 w9 := (Chg.mono HC8.out (fun _ _ h => h.elim)).grown hg9 (fun k e => .inl e)
            have X8 : Chg (fun q => (Value.slice (some ⟨w3.heap.size, 0, none⟩) 0 0).ownBlock = some q) _ w9 := (Chg.refl _ _).grown hg9 (fun k e => .inl e)
            have hfb : ∀ q, (Value.slice (some ⟨w3.heap.size, 0, none⟩) 0 0).ownBlock = some q → w3.heap.size ≤ q ∧ q < w5.heap.size := HFO.out
            have m0 : ¬ (Value.slice (some ⟨w3.heap.size, 0, none⟩) 0 0).ownBlock = some (w.heap.size + 1 + 1) := fun e => by have := hfb _ e; have := HBS.out.1; omega
            have m1 : ¬ (Value.slice (some ⟨w3.heap.size, 0, none⟩) 0 0).ownBlock = some (w.heap.size + 1) := fun e => by have := hfb _ e; have := HBS.out.1; omega
            have m2 : ¬ (Value.slice (some ⟨w3.heap.size, 0, none⟩) 0 0).ownBlock = some (w3.heap.size + 1) := fun e => HNB.out _ e rfl
            have m3 : ¬ (Value.slice (some ⟨w3.heap.size, 0, none⟩) 0 0).ownBlock = some w6.heap.size := fun e => by have h1 := hfb _ e; have h2 := HC6.out.size; omega
            obtain ⟨z0, z1, f0, f1, x1, h11⟩ := HY.out
            replace f0 := X9.frozen z0 f0 m0
            replace f1 := X9.frozen z1 f1 m0
            replace z0 := X9.cell z0 m0
            replace z1 := X9.cell z1 m0
            replace x1 := X9.cell x1 m1
            replace h11 := X9.cell h11 m2
            have h13 := X8.cell H13.out m3
            have HO9 := Lib.hid (show Own w9 w3.heap.size 3 v9 (([] : List Int) ++ [(M : Int)]) from by
              have h := hown9
              unfold Own
              rw [List.length_append, List.map_append]
              exact h)
            obtain ⟨a9, l9, c9, rfl, hl9⟩ := owns_name hown9
            have HC9 := Lib.hid (show Chg (fun _ => False) w w9 from HC.out.trans X9 (fun _ _ h => h) (fun i hi h => by have := hfb i h; have := HBS.out.1; omega))
            have HOP9 := Lib.hid (show Ls w9 (.slice pa M cc) P from HOP.out.ls.chg X9 (fun q hq e => by have h1 := HOP.out.lt q hq; have h2 := hfb q e; omega))
            have hcn := count_any _ (([] : List Int) ++ [(M : Int)]) w9 HO9.out.ls
            unfold GaveC at hcn
            clear hown9 hg9 hO9 X8 X9 hfb m0 m1 m2 m3 hl9 hz6
            go_wp2_with fail
            cases hsh2 : shB (([] : List Int) ++ [(M : Int)]) with
            | false =>
              rw [cntN_not hsh2, cntE_not hsh2] at hcn
              have HSH2 := Lib.hid hsh2
              clear hsh2
              refine hcn.mono ?_
              clear hcn
              rintro e9 w10 ⟨rfl, rfl⟩
              have HR := Lib.hid (cpW_err (L := L) (s := s) (n := 9) (cp_lim HSH.out HL0.out HNG.out HAL.out (by
                rw [HPL.out.1]
                rintro ⟨q1, q2⟩
                have hb := HBB.out
                have hp := HP.out
                unfold cpR at hp
                rw [if_pos q1] at hp
                have q3 : cpTo L s = ([] : List Int) ++ [(M : Int)] := by unfold cpTo; rw [HPL.out.1, HPL.out.2.1, hp, HM.out]
                rw [q3] at q2
                (rw [HSH2.out] at q2; cases q2))) (by decide))
              obtain ⟨g0, g1⟩ := mset2 (.slice none 0 0) .nilFunc z0 z1
              clear h13 h11
              go_wp2
              simp [bodyPost, results, Try.results31, go_sem, g0, g1]
              rw [HR.out]
              exact mway_no (by decide) (Nat.le_trans (Nat.le_succ _) (Nat.le_succ _)) HC9.out
            | true =>
              rw [cntN_ok hsh2, cntE_ok hsh2] at hcn
              have HSH2 := Lib.hid hsh2
              clear hsh2
              refine hcn.mono ?_
              clear hcn
              rintro e9 w10 ⟨rfl, rfl⟩
              cases B with
              | false =>
                have HR := Lib.hid (cpW_err (L := L) (s := s) (n := 9) (cp_lim HSH.out HL0.out HNG.out HAL.out (by
                  rw [HPL.out.1]
                  rintro ⟨q1, q2⟩
                  have hb := HBB.out
                  have hp := HP.out
                  unfold cpR at hp
                  rw [if_pos q1] at hp
                  have q3 : cpTo L s = ([] : List Int) ++ [(M : Int)] := by unfold cpTo; rw [HPL.out.1, HPL.out.2.1, hp, HM.out]
                  rw [q3] at q2
                  (rw [decide_eq_true q1] at hb; cases hb))) (by decide))
                obtain ⟨g0, g1⟩ := mset2 (.slice none 0 0) .nilFunc z0 z1
                clear h13 h11
                go_wp2
                simp [bodyPost, results, Try.results31, go_sem, g0, g1]
                rw [HR.out]
                exact mway_no (by decide) (Nat.le_trans (Nat.le_succ _) (Nat.le_succ _)) HC9.out
              | true =>
                have hsum : sumL L.e ≤ 4096 := of_decide_eq_true HBB.out
                have hPc : cpy L.e 0 = P := by have h := HP.out; unfold cpR at h; rw [if_pos hsum] at h; exact h
                have hto : cpTo L s = ([] : List Int) ++ [(P.length : Int)] := by unfold cpTo; rw [HPL.out.1, HPL.out.2.1, hPc]
                have hsh3 : shB (([] : List Int) ++ [(P.length : Int)]) = true := by rw [HM.out]; exact HSH2.out
                have hE : cpE L s = 0 := cp_ok HSH.out HL0.out HNG.out HAL.out (by rw [HPL.out.1]; exact hsum) (by rw [hto]; exact hsh3)
                have hpp : ∀ i : Int, cpP L s i = cpF s (0 : Int) P i := fun i => by
                  by_cases e : s = []
                  · rw [← cpF_eq, e]
                    rfl
                  · rw [← cpF_eq, HPL.out.1, hPc, (HPL.out.2.2 e).1]
                have HR := Lib.hid (show cpW L s = ⟨([] : List Int) ++ [(P.length : Int)], (List.range (prodL (([] : List Int) ++ [(P.length : Int)])).toNat).map (fun (i : Nat) => ((0 : Int), cpF s (0 : Int) P i)), 0⟩ by
                  unfold cpW
                  rw [if_pos hE, hto]
                  simp only [hpp])
                have HFN := Lib.hid (cw_fnAt w10 (fun k => w.heap.size ≤ k ∧ k ≠ w.heap.size + 1 + 1) (w.heap.size + 1) w6.heap.size (w3.heap.size + 1) s.length cs M cc _ pa s P ([] : List Int) (0 : Int) ⟨by omega, by omega⟩ ⟨by have := HC.out.size; omega, by have := HBS.out.1; have := HBS6.out; omega⟩ ⟨by have := HB11.out; omega, by have := HB11.out; omega⟩ (fun q hq => by have h1 := (HOP.out.lt q hq).1; have h2 := HBS.out; exact ⟨by omega, by omega⟩) rfl x1 h13 HM.out HOP9.out h11 (fun e => (HPL.out.2.2 e).2) (fun x hx => by
                  rw [← hPc] at hx
                  have h1 := cpy_bd x hx
                  have h2 := HCL.out
                  omega) hsh3)
                obtain ⟨g0, g1⟩ := mset2 (.slice a9 l9 c9) (.func (.func 63) #[] #[.pointer (some ⟨w.heap.size + 1, 0, none⟩), .pointer (some ⟨w6.heap.size, 0, none⟩), .pointer (some ⟨(w3.heap.size + 1), 0, none⟩)]) z0 z1
                clear hsum hPc hto hsh3 hE hpp
                go_wp2
                simp [bodyPost, results, Try.results31, go_sem, g0, g1]
                rw [HR.out]
                exact mway_store (D3 := fun k => w.heap.size ≤ k ∧ k ≠ w.heap.size + 1 + 1) (x := w.heap.size) (.inl ⟨rfl, _, _, _, rfl, by simp only []; rw [HM.out]; exact HO9.out.ls, fun q hq => by have h1 := (HO9.out.lt q hq).1; have h2 := HBS.out.1; exact ⟨by omega, by omega⟩, HFN.out⟩) (fun k hk => .inr hk.1) (Nat.le_refl _) (by omega) (fun h => h.2 rfl) HC9.out rfl
        · have hs1 : 0 < s.length := List.length_pos_iff.2 hs0
          obtain ⟨k, hk⟩ : ∃ k, s.length = k + 1 := ⟨s.length - 1, by omega⟩
          have hkl : k < s.length := by omega
          have hm4 := HSB.out.2.1 s[k] (List.getElem_mem hkl)
          have hsp : s = s.take k ++ [s[k]] := by rw [← List.take_succ_eq_append_getElem hkl, ← hk, List.take_length]
          obtain ⟨ax, cx, hlx, hxr⟩ := HS.out.mslice k (by omega)
          obtain ⟨sb, so, cs', e1, hcell⟩ := (HS.out.fr HC.out).at hkl
          injection e1 with e1 e2 e3
          subst e1
          clear e2 e3
          obtain ⟨F, hF⟩ : ∃ F, s.take k = F := ⟨_, rfl⟩
          have hFk : F.length = k := by rw [← hF, List.length_take]; omega
          rw [hF] at hlx
          generalize hm : s[k] = m at *
          rw [hF] at hsp
          obtain ⟨mn, rfl⟩ := Int.eq_ofNat_of_zero_le hm4.1
          have hcl := fun w' (h : Chg (fun _ => False) w3 w') => cloneI_any (.slice ax k cx) F w' (hlx.fr (HC.out.tr h)) (by have := HSB.out.1; omega)
          have q1 : decide (0 < s.length) = true := decide_eq_true hs1
          have q2 : (0 : Int) < (s.length : Int) := by omega
          have kn : IntKind.i64.wrap ((s.length : Int) - 1) = (k : Int) := by rw [hk]; rw [IntWalk.i64_in _ (by have := HSB.out.1; omega)]; omega
          have k0 : (0 : Int) ≤ (k : Int) := by omega
          have k1 : (k : Int) < (s.length : Int) := by omega
          have hz3 : w.heap.size + 1 + 1 < w3.heap.size := cell_lt z0
          have hsbl := cell_lt hcell
          obtain ⟨v4, hv4⟩ : ∃ v4, w3.alloc (.cells #[] 3) = v4 := ⟨_, rfl⟩
          obtain ⟨w4, hw4⟩ : ∃ w4, v4.alloc (.cells #[.int .i64 0] 3) = w4 := ⟨_, rfl⟩
          have hs4 : v4.heap.size = w3.heap.size + 1 := by rw [← hv4, World.size_alloc]
          have hC4 : Chg (fun _ => False) w3 v4 := by rw [← hv4]; exact (Chg.refl _ _).alloc _
          have hC5 : Chg (fun _ => False) v4 w4 := by rw [← hw4]; exact (Chg.refl _ _).alloc _
          have h11 := new_cell v4 #[.int .i64 0] 3 (i := 0) (v := .int .i64 0) rfl
          have f11 := new_frozen v4 #[.int .i64 0] 3 0
          rw [hw4, hs4] at h11 f11
          have HCX2 := Lib.hid (hC4.tr hC5)
          have HC11 := Lib.hid h11
          have HM4 := Lib.hid hm4
          have HSP := Lib.hid (And.intro hsp (And.intro hFk hk))
          have HCLN := Lib.hid hcl
          have HW4 := Lib.hid (And.intro hv4 hw4)
          have KP := Lib.hid (show ∀ w', Chg (fun q => q = w3.heap.size + 1) w4 w' → (Chg (fun q => q = w3.heap.size + 1) w4 w' ∧ w'.cell? ⟨w.heap.size + 1, 0, none⟩ = some (.slice (some ⟨sb, so, none⟩) s.length cs) ∧ w'.cell? ⟨sb, so + k, none⟩ = some (.int .i64 (mn : Int))) from fun w' h =>
            ⟨h, h.cell ((hC4.tr hC5).cell x1 id) (by show ¬ w.heap.size + 1 = w3.heap.size + 1; omega), h.cell ((hC4.tr hC5).cell hcell id) (by show ¬ sb = w3.heap.size + 1; simp only at hsbl; omega)⟩)
          have hx1l : w.heap.size + 1 < w3.heap.size := by omega
          have hx1m : w.heap.size < w3.heap.size := by omega
          clear hs1 hs0 hm4 hsp hlx hF hFk hk hkl hv4 hw4 hs4 hC4 hC5 hcl hm hsbl hcell
          go_wp2_with fail
          rw [HW4.out.1, HW4.out.2]
          have HX1 := Lib.hid x1
          clear x1
          go_region_held3 (fun w' => Chg (fun q => q = w3.heap.size + 1) w4 w' ∧ w'.cell? ⟨w.heap.size + 1, 0, none⟩ = some (.slice (some ⟨sb, so, none⟩) s.length cs) ∧ w'.cell? ⟨sb, so + k, none⟩ = some (.int .i64 (mn : Int))) ((refine KP.out _ ?_; repeat (first | (with_reducible exact Chg.refl _ _) | (with_reducible refine pchg_drew ?_) | (with_reducible refine pchg_set ?_) | (with_reducible refine pchg_tr ?_ hC7)))) (first
            | (go_at_call 61
               (with_reducible refine (HCLN.out _ ?_).mono ?_)
               · exact HCX2.out.drew
               rintro e9 w7 ⟨v7, rfl, ho7, hC7⟩
               obtain ⟨a7, c7, rfl⟩ := own_name ho7
               replace h11 := hC7.cell (w := w4.drew) (p := ⟨w3.heap.size + 1, 0, none⟩) h11 id
               replace f11 := hC7.frozen (w := w4.drew) (p := ⟨w3.heap.size + 1, 0, none⟩) HC11.out f11 id))
          all_goals
            rename_i hHd
            clear hHd
            have X := pchg_set (i := 0) (u := .int .i64 (mn : Int)) (pchg_tr ((Chg.refl (fun q => q = w3.heap.size + 1) w4).drew) hC7)
            have hw4s : w4.heap.size = w3.heap.size + 1 + 1 := by rw [← HW4.out.2, World.size_alloc, ← HW4.out.1, World.size_alloc]
            have hfo := own_set ho7 (a := ⟨w3.heap.size + 1, 0, none⟩) (by show w3.heap.size + 1 < w4.heap.size; omega) (.int .i64 (mn : Int))
            have h11' : (w7.setCell ⟨w3.heap.size + 1, 0, none⟩ (.int .i64 (mn : Int))).cell? ⟨w3.heap.size + 1, 0, none⟩ = some (.int .i64 (mn : Int)) := World.cell?_setCell_same' _ _ _ (by rw [h11]; rfl)
            obtain ⟨w5, hw5⟩ : ∃ w5, w7.setCell ⟨w3.heap.size + 1, 0, none⟩ (.int .i64 (mn : Int)) = w5 := ⟨_, rfl⟩
            rw [hw5] at X hfo h11' ⊢
            clear h11 f11 hw5 ho7 hC7
            have h11 := h11'
            have x1 := HX1.out
            have hC35 : Chg (fun _ => False) w3 w5 := HCX2.out.trans X (fun _ _ h => h) (fun i hi e => by omega)
            have HF := Lib.hid (show Own w5 w4.heap.size 3 (.slice a7 F.length c7) F from hfo)
            have HFO := Lib.hid (show ∀ q, (Value.slice a7 F.length c7).ownBlock = some q → w4.heap.size ≤ q ∧ q < w5.heap.size from fun q hq => HF.out.lt q hq)
            have HNB := Lib.hid (show ∀ q, (Value.slice a7 F.length c7).ownBlock = some q → q ≠ w3.heap.size + 1 from fun q hq => by have := HFO.out q hq; omega)
            have HB11 := Lib.hid (show w.heap.size + 1 + 1 < w3.heap.size + 1 by omega)
            have HBS := Lib.hid (show w.heap.size + 1 + 1 < w4.heap.size ∧ w4.heap.size ≤ w5.heap.size from ⟨by omega, X.size⟩)
            have HFL := Lib.hid (show F.length = F.length ∧ F.length ≤ 4 from ⟨rfl, by have h1 := HSP.out.2; have h2 := HSB.out.1; omega⟩)
            replace f0 := hC35.frozen z0 f0 id
            replace f1 := hC35.frozen z1 f1 id
            replace z0 := hC35.cell z0 id
            replace z1 := hC35.cell z1 id
            replace y0 := hC35.cell y0 id
            replace y1 := hC35.cell y1 id
            replace y2 := hC35.cell y2 id
            replace x1 := hC35.cell x1 id
            replace HC := Lib.hid (HC.out.tr hC35)
            replace HX := Lib.hid (HX.out.fr hC35)
            have hcs : cpS L s = F ++ [(mn : Int)] ∧ cpLong L s = (mn : Int) := by rw [HSP.out.1]; exact cp_cons
            have HCS := Lib.hid (show (cpS L s).dropLast = F ∧ (s ≠ [] → cpLong L s = (mn : Int) ∧ 0 ≤ (mn : Int) ∧ (mn : Int) ≤ 4096) ∧ (cpLong L s).toNat = mn ∧ cpLong L s = (mn : Int) from ⟨by rw [hcs.1, List.dropLast_concat], fun _ => ⟨hcs.2, HM4.out.1, HM4.out.2⟩, by rw [hcs.2]; rfl, hcs.2⟩)
            clear X hfo h11' hC35 hcs
            by_cases hsc : L.s = []
            · have hl1 := HL1.out hsc
              have b2 : ((L.s.length : Int) == 0) = true := by rw [hsc]; rfl
              have hl0' : 0 < L.e.length := by omega
              obtain ⟨bb, oo, c', e1, hcell⟩ := HX.out.at hl0'
              injection e1 with e1 e2 e3
              subst e1
              clear e2 e3
              have hx0 := HNN.out L.e[0] (List.getElem_mem hl0')
              have hhd : L.e.headD 0 = L.e[0] := head_at _ hl0'
              generalize L.e[0] = x at *
              have HPL := Lib.hid (show cntL L (cpLong L s).toNat = List.replicate mn x ∧ (cpS L s).dropLast = F ∧ (s ≠ [] → cpLong L s = (mn : Int) ∧ 0 ≤ (mn : Int) ∧ (mn : Int) ≤ 4096) from ⟨by rw [HCS.out.2.2.1]; unfold cntL; rw [if_pos hsc, hhd], HCS.out.1, HCS.out.2.1⟩)
              have HAL := Lib.hid (show L.s = [] ∨ (L.e.length : Int) = cpLong L s from .inl hsc)
              have HCL := Lib.hid (show (List.replicate mn x).length ≤ 1000000 by have := HM4.out; simp; omega)
              have hco := copies_all x bb (oo + 0) xc L.e.length mn w5 hl0' hx0 hcell (by have := HM4.out; omega)
              clear hl1 hl0' hhd hx0 hsc hcell
              go_wp2_with fail
              -- w5: the world ahead of copies; F the front in (.slice a7 F.length c7), from w4.heap.size on
              unfold GaveCo at hco
              obtain ⟨P, hP⟩ : ∃ P, cpR (List.replicate mn x) = P := ⟨_, rfl⟩
              obtain ⟨B, hB⟩ : ∃ B, decide (sumL (List.replicate mn x) ≤ 4096) = B := ⟨_, rfl⟩
              rw [hP, hB] at hco
              have HP := Lib.hid hP
              have HBB := Lib.hid hB
              clear hP hB
              refine hco.mono ?_
              clear hco
              rintro e9 w6 ⟨vp, rfl, hop, hC6⟩
              obtain ⟨pa, cc, rfl⟩ := own_name hop
              obtain ⟨M, hM⟩ : ∃ M, P.length = M := ⟨_, rfl⟩
              rw [hM] at hop ⊢
              have HM := Lib.hid hM
              clear hM
              replace f0 := hC6.frozen z0 f0 id
              replace f1 := hC6.frozen z1 f1 id
              replace z0 := hC6.cell z0 id
              replace z1 := hC6.cell z1 id
              replace y0 := hC6.cell y0 id
              replace y1 := hC6.cell y1 id
              replace y2 := hC6.cell y2 id
              replace x1 := hC6.cell x1 id
              replace HC := Lib.hid (HC.out.tr hC6)
              replace h11 := hC6.cell h11 id
              replace HF := Lib.hid (HF.out.fr hC6)
              have HOP := Lib.hid hop
              have hz6 : w.heap.size + 1 + 1 < w6.heap.size := cell_lt z0
              have h13 := new_cell w6 #[.slice pa M cc] 22 (i := 0) (v := .slice pa M cc) rfl
              have hC7 := (Chg.refl (fun _ => False) w6).alloc (.cells #[.slice pa M cc] 22)
              have hC78 := (Chg.refl (fun _ => False) (w6.alloc (.cells #[.slice pa M cc] 22))).alloc (.cells #[.int .i64 (M : Int)] 3)
              have hC8 := hC7.tr hC78
              have hnew := (own_lit (w6.alloc (.cells #[.slice pa M cc] 22)) 3 [(M : Int)] 1 rfl #[.int .i64 (M : Int)] rfl (by simp)).ls
              rw [World.size_alloc] at hnew
              replace h13 := hC78.cell h13 id
              have HY := Lib.hid (And.intro z0 (And.intro z1 (And.intro f0 (And.intro f1 (And.intro x1 h11)))))
              have HF8 := Lib.hid (HF.out.fr hC8)
              have H13 := Lib.hid h13
              have HNEW := Lib.hid hnew
              have HC6 := Lib.hid hC6
              have HC8 := Lib.hid hC8
              have HBS6 := Lib.hid (show w4.heap.size ≤ w6.heap.size by have h1 := HBS.out.2; have h2 := hC6.size; omega)
              clear hnew hC7 hC78 hC8 h13 hop hC6 z0 z1 f0 f1 x1 y0 y1 y2 h11
              go_wp2_with (at_builtin; refine wpList_append_own_any rfl (.tmp 80) (.tmp 83) 22 rfl w4.heap.size 3 i0 (.int .i64 0) 1 8 Try.underlying22 hi hz0 hz1 hz2 rfl (by decide) (.slice a7 F.length c7) F.length (F.map I) rfl (by have h := HF8.out; unfold Own at h; exact h) (some ⟨w6.heap.size + 1, 0, none⟩) 1 1 [.int .i64 (M : Int)] rfl rfl HNEW.out.src (by simp [Value.oneCell']) (by have := HFL.out.2; unfold maxLen; omega) (by have := HFL.out.2; omega) (by have := HBS6.out; simp; omega) ?_; intro v9 w9 hown9 hg9 _ hO9)
              have X9 : Chg (fun q => (Value.slice a7 F.length c7).ownBlock = some q) w6 w9 := (Chg.mono HC8.out (fun _ _ h => h.elim)).grown hg9 (fun k e => .inl e)
              have X8 : Chg (fun q => (Value.slice a7 F.length c7).ownBlock = some q) _ w9 := (Chg.refl _ _).grown hg9 (fun k e => .inl e)
              have hfb : ∀ q, (Value.slice a7 F.length c7).ownBlock = some q → w4.heap.size ≤ q ∧ q < w5.heap.size := HFO.out
              have m0 : ¬ (Value.slice a7 F.length c7).ownBlock = some (w.heap.size + 1 + 1) := fun e => by have := hfb _ e; have := HBS.out.1; omega
              have m1 : ¬ (Value.slice a7 F.length c7).ownBlock = some (w.heap.size + 1) := fun e => by have := hfb _ e; have := HBS.out.1; omega
              have m2 : ¬ (Value.slice a7 F.length c7).ownBlock = some (w3.heap.size + 1) := fun e => HNB.out _ e rfl
              have m3 : ¬ (Value.slice a7 F.length c7).ownBlock = some w6.heap.size := fun e => by have h1 := hfb _ e; have h2 := HC6.out.size; omega
              obtain ⟨z0, z1, f0, f1, x1, h11⟩ := HY.out
              replace f0 := X9.frozen z0 f0 m0
              replace f1 := X9.frozen z1 f1 m0
              replace z0 := X9.cell z0 m0
              replace z1 := X9.cell z1 m0
              replace x1 := X9.cell x1 m1
              replace h11 := X9.cell h11 m2
              have h13 := X8.cell H13.out m3
              have HO9 := Lib.hid (show Own w9 w4.heap.size 3 v9 (F ++ [(M : Int)]) from by
                have h := hown9
                unfold Own
                rw [List.length_append, List.map_append]
                exact h)
              obtain ⟨a9, l9, c9, rfl, hl9⟩ := owns_name hown9
              have HC9 := Lib.hid (show Chg (fun _ => False) w w9 from HC.out.trans X9 (fun _ _ h => h) (fun i hi h => by have := hfb i h; have := HBS.out.1; omega))
              have HOP9 := Lib.hid (show Ls w9 (.slice pa M cc) P from HOP.out.ls.chg X9 (fun q hq e => by have h1 := HOP.out.lt q hq; have h2 := hfb q e; omega))
              have hcn := count_any _ (F ++ [(M : Int)]) w9 HO9.out.ls
              unfold GaveC at hcn
              clear hown9 hg9 hO9 X8 X9 hfb m0 m1 m2 m3 hl9 hz6
              go_wp2_with fail
              cases hsh2 : shB (F ++ [(M : Int)]) with
              | false =>
                rw [cntN_not hsh2, cntE_not hsh2] at hcn
                have HSH2 := Lib.hid hsh2
                clear hsh2
                refine hcn.mono ?_
                clear hcn
                rintro e9 w10 ⟨rfl, rfl⟩
                have HR := Lib.hid (cpW_err (L := L) (s := s) (n := 9) (cp_lim HSH.out HL0.out HNG.out HAL.out (by
                  rw [HPL.out.1]
                  rintro ⟨q1, q2⟩
                  have hb := HBB.out
                  have hp := HP.out
                  unfold cpR at hp
                  rw [if_pos q1] at hp
                  have q3 : cpTo L s = F ++ [(M : Int)] := by unfold cpTo; rw [HPL.out.1, HPL.out.2.1, hp, HM.out]
                  rw [q3] at q2
                  (rw [HSH2.out] at q2; cases q2))) (by decide))
                obtain ⟨g0, g1⟩ := mset2 (.slice none 0 0) .nilFunc z0 z1
                clear h13 h11
                go_wp2
                simp [bodyPost, results, Try.results31, go_sem, g0, g1]
                rw [HR.out]
                exact mway_no (by decide) (Nat.le_trans (Nat.le_succ _) (Nat.le_succ _)) HC9.out
              | true =>
                rw [cntN_ok hsh2, cntE_ok hsh2] at hcn
                have HSH2 := Lib.hid hsh2
                clear hsh2
                refine hcn.mono ?_
                clear hcn
                rintro e9 w10 ⟨rfl, rfl⟩
                cases B with
                | false =>
                  have HR := Lib.hid (cpW_err (L := L) (s := s) (n := 9) (cp_lim HSH.out HL0.out HNG.out HAL.out (by
                    rw [HPL.out.1]
                    rintro ⟨q1, q2⟩
                    have hb := HBB.out
                    have hp := HP.out
                    unfold cpR at hp
                    rw [if_pos q1] at hp
                    have q3 : cpTo L s = F ++ [(M : Int)] := by unfold cpTo; rw [HPL.out.1, HPL.out.2.1, hp, HM.out]
                    rw [q3] at q2
                    (rw [decide_eq_true q1] at hb; cases hb))) (by decide))
                  obtain ⟨g0, g1⟩ := mset2 (.slice none 0 0) .nilFunc z0 z1
                  clear h13 h11
                  go_wp2
                  simp [bodyPost, results, Try.results31, go_sem, g0, g1]
                  rw [HR.out]
                  exact mway_no (by decide) (Nat.le_trans (Nat.le_succ _) (Nat.le_succ _)) HC9.out
                | true =>
                  have hsum : sumL (List.replicate mn x) ≤ 4096 := of_decide_eq_true HBB.out
                  have hPc : cpy (List.replicate mn x) 0 = P := by have h := HP.out; unfold cpR at h; rw [if_pos hsum] at h; exact h
                  have hto : cpTo L s = F ++ [(P.length : Int)] := by unfold cpTo; rw [HPL.out.1, HPL.out.2.1, hPc]
                  have hsh3 : shB (F ++ [(P.length : Int)]) = true := by rw [HM.out]; exact HSH2.out
                  have hE : cpE L s = 0 := cp_ok HSH.out HL0.out HNG.out HAL.out (by rw [HPL.out.1]; exact hsum) (by rw [hto]; exact hsh3)
                  have hpp : ∀ i : Int, cpP L s i = cpF s (mn : Int) P i := fun i => by
                    by_cases e : s = []
                    · rw [← cpF_eq, e]
                      rfl
                    · rw [← cpF_eq, HPL.out.1, hPc, (HPL.out.2.2 e).1]
                  have HR := Lib.hid (show cpW L s = ⟨F ++ [(P.length : Int)], (List.range (prodL (F ++ [(P.length : Int)])).toNat).map (fun (i : Nat) => ((0 : Int), cpF s (mn : Int) P i)), 0⟩ by
                    unfold cpW
                    rw [if_pos hE, hto]
                    simp only [hpp])
                  have HFN := Lib.hid (cw_fnAt w10 (fun k => w.heap.size ≤ k ∧ k ≠ w.heap.size + 1 + 1) (w.heap.size + 1) w6.heap.size (w3.heap.size + 1) s.length cs M cc _ pa s P F (mn : Int) ⟨by omega, by omega⟩ ⟨by have := HC.out.size; omega, by have := HBS.out.1; have := HBS6.out; omega⟩ ⟨by have := HB11.out; omega, by have := HB11.out; omega⟩ (fun q hq => by have h1 := (HOP.out.lt q hq).1; have h2 := HBS.out; exact ⟨by omega, by omega⟩) rfl x1 h13 HM.out HOP9.out h11 (fun e => (HPL.out.2.2 e).2) (fun x hx => by
                    rw [← hPc] at hx
                    have h1 := cpy_bd x hx
                    have h2 := HCL.out
                    omega) hsh3)
                  obtain ⟨g0, g1⟩ := mset2 (.slice a9 l9 c9) (.func (.func 63) #[] #[.pointer (some ⟨w.heap.size + 1, 0, none⟩), .pointer (some ⟨w6.heap.size, 0, none⟩), .pointer (some ⟨(w3.heap.size + 1), 0, none⟩)]) z0 z1
                  clear hsum hPc hto hsh3 hE hpp
                  go_wp2
                  simp [bodyPost, results, Try.results31, go_sem, g0, g1]
                  rw [HR.out]
                  exact mway_store (D3 := fun k => w.heap.size ≤ k ∧ k ≠ w.heap.size + 1 + 1) (x := w.heap.size) (.inl ⟨rfl, _, _, _, rfl, by simp only []; rw [HM.out]; exact HO9.out.ls, fun q hq => by have h1 := (HO9.out.lt q hq).1; have h2 := HBS.out.1; exact ⟨by omega, by omega⟩, HFN.out⟩) (fun k hk => .inr hk.1) (Nat.le_refl _) (by omega) (fun h => h.2 rfl) HC9.out rfl
            · have b2 : ((L.s.length : Int) == 0) = false := beq_eq_false_iff_ne.2 (fun h => hsc (List.eq_nil_of_length_eq_zero (by omega)))
              by_cases hml : L.e.length = mn
              · have b3 : ((L.e.length : Int) != (mn : Int)) = false := by rw [bne_eq_false_iff_eq]; omega
                have HPL := Lib.hid (show cntL L (cpLong L s).toNat = L.e ∧ (cpS L s).dropLast = F ∧ (s ≠ [] → cpLong L s = (mn : Int) ∧ 0 ≤ (mn : Int) ∧ (mn : Int) ≤ 4096) from ⟨by unfold cntL; rw [if_neg hsc], HCS.out.1, HCS.out.2.1⟩)
                have HAL := Lib.hid (show L.s = [] ∨ (L.e.length : Int) = cpLong L s from .inr (by rw [HCS.out.2.2.2, hml]))
                have HCL := Lib.hid hle
                have hco := copies_each _ L.e mn hml w5 HX.out HNN.out hle
                clear hsc hml
                go_wp2_with fail
                -- w5: the world ahead of copies; F the front in (.slice a7 F.length c7), from w4.heap.size on
                unfold GaveCo at hco
                obtain ⟨P, hP⟩ : ∃ P, cpR L.e = P := ⟨_, rfl⟩
                obtain ⟨B, hB⟩ : ∃ B, decide (sumL L.e ≤ 4096) = B := ⟨_, rfl⟩
                rw [hP, hB] at hco
                have HP := Lib.hid hP
                have HBB := Lib.hid hB
                clear hP hB
                refine hco.mono ?_
                clear hco
                rintro e9 w6 ⟨vp, rfl, hop, hC6⟩
                obtain ⟨pa, cc, rfl⟩ := own_name hop
                obtain ⟨M, hM⟩ : ∃ M, P.length = M := ⟨_, rfl⟩
                rw [hM] at hop ⊢
                have HM := Lib.hid hM
                clear hM
                replace f0 := hC6.frozen z0 f0 id
                replace f1 := hC6.frozen z1 f1 id
                replace z0 := hC6.cell z0 id
                replace z1 := hC6.cell z1 id
                replace y0 := hC6.cell y0 id
                replace y1 := hC6.cell y1 id
                replace y2 := hC6.cell y2 id
                replace x1 := hC6.cell x1 id
                replace HC := Lib.hid (HC.out.tr hC6)
                replace h11 := hC6.cell h11 id
                replace HF := Lib.hid (HF.out.fr hC6)
                have HOP := Lib.hid hop
                have hz6 : w.heap.size + 1 + 1 < w6.heap.size := cell_lt z0
                have h13 := new_cell w6 #[.slice pa M cc] 22 (i := 0) (v := .slice pa M cc) rfl
                have hC7 := (Chg.refl (fun _ => False) w6).alloc (.cells #[.slice pa M cc] 22)
                have hC78 := (Chg.refl (fun _ => False) (w6.alloc (.cells #[.slice pa M cc] 22))).alloc (.cells #[.int .i64 (M : Int)] 3)
                have hC8 := hC7.tr hC78
                have hnew := (own_lit (w6.alloc (.cells #[.slice pa M cc] 22)) 3 [(M : Int)] 1 rfl #[.int .i64 (M : Int)] rfl (by simp)).ls
                rw [World.size_alloc] at hnew
                replace h13 := hC78.cell h13 id
                have HY := Lib.hid (And.intro z0 (And.intro z1 (And.intro f0 (And.intro f1 (And.intro x1 h11)))))
                have HF8 := Lib.hid (HF.out.fr hC8)
                have H13 := Lib.hid h13
                have HNEW := Lib.hid hnew
                have HC6 := Lib.hid hC6
                have HC8 := Lib.hid hC8
                have HBS6 := Lib.hid (show w4.heap.size ≤ w6.heap.size by have h1 := HBS.out.2; have h2 := hC6.size; omega)
                clear hnew hC7 hC78 hC8 h13 hop hC6 z0 z1 f0 f1 x1 y0 y1 y2 h11
                go_wp2_with (at_builtin; refine wpList_append_own_any rfl (.tmp 80) (.tmp 83) 22 rfl w4.heap.size 3 i0 (.int .i64 0) 1 8 Try.underlying22 hi hz0 hz1 hz2 rfl (by decide) (.slice a7 F.length c7) F.length (F.map I) rfl (by have h := HF8.out; unfold Own at h; exact h) (some ⟨w6.heap.size + 1, 0, none⟩) 1 1 [.int .i64 (M : Int)] rfl rfl HNEW.out.src (by simp [Value.oneCell']) (by have := HFL.out.2; unfold maxLen; omega) (by have := HFL.out.2; omega) (by have := HBS6.out; simp; omega) ?_; intro v9 w9 hown9 hg9 _ hO9)
                have X9 : Chg (fun q => (Value.slice a7 F.length c7).ownBlock = some q) w6 w9 := (Chg.mono HC8.out (fun _ _ h => h.elim)).grown hg9 (fun k e => .inl e)
                have X8 : Chg (fun q => (Value.slice a7 F.length c7).ownBlock = some q) _ w9 := (Chg.refl _ _).grown hg9 (fun k e => .inl e)
                have hfb : ∀ q, (Value.slice a7 F.length c7).ownBlock = some q → w4.heap.size ≤ q ∧ q < w5.heap.size := HFO.out
                have m0 : ¬ (Value.slice a7 F.length c7).ownBlock = some (w.heap.size + 1 + 1) := fun e => by have := hfb _ e; have := HBS.out.1; omega
                have m1 : ¬ (Value.slice a7 F.length c7).ownBlock = some (w.heap.size + 1) := fun e => by have := hfb _ e; have := HBS.out.1; omega
                have m2 : ¬ (Value.slice a7 F.length c7).ownBlock = some (w3.heap.size + 1) := fun e => HNB.out _ e rfl
                have m3 : ¬ (Value.slice a7 F.length c7).ownBlock = some w6.heap.size := fun e => by have h1 := hfb _ e; have h2 := HC6.out.size; omega
                obtain ⟨z0, z1, f0, f1, x1, h11⟩ := HY.out
                replace f0 := X9.frozen z0 f0 m0
                replace f1 := X9.frozen z1 f1 m0
                replace z0 := X9.cell z0 m0
                replace z1 := X9.cell z1 m0
                replace x1 := X9.cell x1 m1
                replace h11 := X9.cell h11 m2
                have h13 := X8.cell H13.out m3
                have HO9 := Lib.hid (show Own w9 w4.heap.size 3 v9 (F ++ [(M : Int)]) from by
                  have h := hown9
                  unfold Own
                  rw [List.length_append, List.map_append]
                  exact h)
                obtain ⟨a9, l9, c9, rfl, hl9⟩ := owns_name hown9
                have HC9 := Lib.hid (show Chg (fun _ => False) w w9 from HC.out.trans X9 (fun _ _ h => h) (fun i hi h => by have := hfb i h; have := HBS.out.1; omega))
                have HOP9 := Lib.hid (show Ls w9 (.slice pa M cc) P from HOP.out.ls.chg X9 (fun q hq e => by have h1 := HOP.out.lt q hq; have h2 := hfb q e; omega))
                have hcn := count_any _ (F ++ [(M : Int)]) w9 HO9.out.ls
                unfold GaveC at hcn
                clear hown9 hg9 hO9 X8 X9 hfb m0 m1 m2 m3 hl9 hz6
                go_wp2_with fail
                cases hsh2 : shB (F ++ [(M : Int)]) with
                | false =>
                  rw [cntN_not hsh2, cntE_not hsh2] at hcn
                  have HSH2 := Lib.hid hsh2
                  clear hsh2
                  refine hcn.mono ?_
                  clear hcn
                  rintro e9 w10 ⟨rfl, rfl⟩
                  have HR := Lib.hid (cpW_err (L := L) (s := s) (n := 9) (cp_lim HSH.out HL0.out HNG.out HAL.out (by
                    rw [HPL.out.1]
                    rintro ⟨q1, q2⟩
                    have hb := HBB.out
                    have hp := HP.out
                    unfold cpR at hp
                    rw [if_pos q1] at hp
                    have q3 : cpTo L s = F ++ [(M : Int)] := by unfold cpTo; rw [HPL.out.1, HPL.out.2.1, hp, HM.out]
                    rw [q3] at q2
                    (rw [HSH2.out] at q2; cases q2))) (by decide))
                  obtain ⟨g0, g1⟩ := mset2 (.slice none 0 0) .nilFunc z0 z1
                  clear h13 h11
                  go_wp2
                  simp [bodyPost, results, Try.results31, go_sem, g0, g1]
                  rw [HR.out]
                  exact mway_no (by decide) (Nat.le_trans (Nat.le_succ _) (Nat.le_succ _)) HC9.out
                | true =>
                  rw [cntN_ok hsh2, cntE_ok hsh2] at hcn
                  have HSH2 := Lib.hid hsh2
                  clear hsh2
                  refine hcn.mono ?_
                  clear hcn
                  rintro e9 w10 ⟨rfl, rfl⟩
                  cases B with
                  | false =>
                    have HR := Lib.hid (cpW_err (L := L) (s := s) (n := 9) (cp_lim HSH.out HL0.out HNG.out HAL.out (by
                      rw [HPL.out.1]
                      rintro ⟨q1, q2⟩
                      have hb := HBB.out
                      have hp := HP.out
                      unfold cpR at hp
                      rw [if_pos q1] at hp
                      have q3 : cpTo L s = F ++ [(M : Int)] := by unfold cpTo; rw [HPL.out.1, HPL.out.2.1, hp, HM.out]
                      rw [q3] at q2
                      (rw [decide_eq_true q1] at hb; cases hb))) (by decide))
                    obtain ⟨g0, g1⟩ := mset2 (.slice none 0 0) .nilFunc z0 z1
                    clear h13 h11
                    go_wp2
                    simp [bodyPost, results, Try.results31, go_sem, g0, g1]
                    rw [HR.out]
                    exact mway_no (by decide) (Nat.le_trans (Nat.le_succ _) (Nat.le_succ _)) HC9.out
                  | true =>
                    have hsum : sumL L.e ≤ 4096 := of_decide_eq_true HBB.out
                    have hPc : cpy L.e 0 = P := by have h := HP.out; unfold cpR at h; rw [if_pos hsum] at h; exact h
                    have hto : cpTo L s = F ++ [(P.length : Int)] := by unfold cpTo; rw [HPL.out.1, HPL.out.2.1, hPc]
                    have hsh3 : shB (F ++ [(P.length : Int)]) = true := by rw [HM.out]; exact HSH2.out
                    have hE : cpE L s = 0 := cp_ok HSH.out HL0.out HNG.out HAL.out (by rw [HPL.out.1]; exact hsum) (by rw [hto]; exact hsh3)
                    have hpp : ∀ i : Int, cpP L s i = cpF s (mn : Int) P i := fun i => by
                      by_cases e : s = []
                      · rw [← cpF_eq, e]
                        rfl
                      · rw [← cpF_eq, HPL.out.1, hPc, (HPL.out.2.2 e).1]
                    have HR := Lib.hid (show cpW L s = ⟨F ++ [(P.length : Int)], (List.range (prodL (F ++ [(P.length : Int)])).toNat).map (fun (i : Nat) => ((0 : Int), cpF s (mn : Int) P i)), 0⟩ by
                      unfold cpW
                      rw [if_pos hE, hto]
                      simp only [hpp])
                    have HFN := Lib.hid (cw_fnAt w10 (fun k => w.heap.size ≤ k ∧ k ≠ w.heap.size + 1 + 1) (w.heap.size + 1) w6.heap.size (w3.heap.size + 1) s.length cs M cc _ pa s P F (mn : Int) ⟨by omega, by omega⟩ ⟨by have := HC.out.size; omega, by have := HBS.out.1; have := HBS6.out; omega⟩ ⟨by have := HB11.out; omega, by have := HB11.out; omega⟩ (fun q hq => by have h1 := (HOP.out.lt q hq).1; have h2 := HBS.out; exact ⟨by omega, by omega⟩) rfl x1 h13 HM.out HOP9.out h11 (fun e => (HPL.out.2.2 e).2) (fun x hx => by
                      rw [← hPc] at hx
                      have h1 := cpy_bd x hx
                      have h2 := HCL.out
                      omega) hsh3)
                    obtain ⟨g0, g1⟩ := mset2 (.slice a9 l9 c9) (.func (.func 63) #[] #[.pointer (some ⟨w.heap.size + 1, 0, none⟩), .pointer (some ⟨w6.heap.size, 0, none⟩), .pointer (some ⟨(w3.heap.size + 1), 0, none⟩)]) z0 z1
                    clear hsum hPc hto hsh3 hE hpp
                    go_wp2
                    simp [bodyPost, results, Try.results31, go_sem, g0, g1]
                    rw [HR.out]
                    exact mway_store (D3 := fun k => w.heap.size ≤ k ∧ k ≠ w.heap.size + 1 + 1) (x := w.heap.size) (.inl ⟨rfl, _, _, _, rfl, by simp only []; rw [HM.out]; exact HO9.out.ls, fun q hq => by have h1 := (HO9.out.lt q hq).1; have h2 := HBS.out.1; exact ⟨by omega, by omega⟩, HFN.out⟩) (fun k hk => .inr hk.1) (Nat.le_refl _) (by omega) (fun h => h.2 rfl) HC9.out rfl
              · have b3 : ((L.e.length : Int) != (mn : Int)) = true := by rw [bne_iff_ne]; omega
                have HR := Lib.hid (cpW_err (cp_len HSH.out HL0.out HNG.out hsc (by rw [HCS.out.2.2.2]; omega)) (by decide))
                clear hsc hml
                obtain ⟨g0, g1⟩ := mset2 (.slice none 0 0) .nilFunc z0 z1
                go_wp2
                simp [bodyPost, results, Try.results31, go_sem, g0, g1]
                rw [HR.out]
                exact mway_no (by decide) (Nat.le_trans (Nat.le_succ _) (Nat.le_succ _)) HC.out
    · have HR := Lib.hid (cpW_err (cp_list HSH.out hl0) hl0)
      have HN := Lib.hid hl0
      have b1 : (lstE L != 0) = true := bne_iff_ne.2 hl0
      generalize lstE L = N at *
      clear hl0
      refine hm1.mono ?_
      clear hm1
      rintro e9 w2 ⟨vx, rfl, hox, hC2⟩
      obtain ⟨xa, xl, xc, rfl, _⟩ := owns_name hox
      replace f0 := hC2.frozen z0 f0 id
      replace f1 := hC2.frozen z1 f1 id
      replace z0 := hC2.cell z0 id
      replace z1 := hC2.cell z1 id
      replace y0 := hC2.cell y0 id
      replace y1 := hC2.cell y1 id
      replace y2 := hC2.cell y2 id
      replace x1 := hC2.cell x1 id
      replace HC := Lib.hid (HC.out.tr hC2)
      clear hC2 hox
      obtain ⟨g0, g1⟩ := mset2 (.slice none 0 0) .nilFunc z0 z1
      go_wp2
      simp [bodyPost, results, Try.results31, go_sem, g0, g1]
      rw [HR.out]
      exact mway_no HN.out (Nat.le_trans (Nat.le_succ _) (Nat.le_succ _)) HC.out
end Go.Proofs.Ytnjnajbdpaaikaa
