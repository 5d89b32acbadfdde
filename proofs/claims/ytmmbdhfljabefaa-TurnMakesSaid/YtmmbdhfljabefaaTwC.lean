/- The document's permute, walked. -/
import Derived.Test.YtmmbdhfljabefaaTwB
namespace Go.Proofs.Ytmmbdhfljabefaa
open Go.RowKit Go.Shelf

/-- The first j are axes, each another one. -/
def GoodTo (e : List Int) (j : Nat) : Prop := ∀ i, i < j → (1 ≤ e.getD i 0 ∧ e.getD i 0 ≤ e.length) ∧ ∀ k, k < i → e.getD k 0 ≠ e.getD i 0
theorem GoodTo.zero (e : List Int) : GoodTo e 0 := fun i hi => absurd hi (Nat.not_lt_zero i)
theorem GoodTo.next {e : List Int} {j : Nat} (h : GoodTo e j) (h1 : 1 ≤ e.getD j 0 ∧ e.getD j 0 ≤ e.length) (h2 : ∀ k, k < j → e.getD k 0 ≠ e.getD j 0) : GoodTo e (j + 1) := fun i hi => by
  by_cases hij : i = j
  · subst hij
    exact ⟨h1, h2⟩
  · exact h i (by omega)
theorem axesP_getD {e : List Int} {i : Nat} (hi : i < e.length) : (axesP e).getD i 0 = (e.getD i 0 - 1).toNat := by
  unfold axesP
  simp [List.getD, List.getElem?_map, List.getElem?_eq_getElem hi]
theorem axesP_length (e : List Int) : (axesP e).length = e.length := by simp [axesP]
theorem good_all {e : List Int} (h : GoodTo e e.length) : allB e = true := by
  have hp : (axesP e).Perm (List.range e.length) := by
    refine range_perm_nodup e.length _ ?_ ?_ (axesP_length e)
    · refine List.pairwise_iff_getElem.2 (fun i j hi hj hij => ?_)
      have hi' : i < e.length := by rw [axesP_length] at hi; exact hi
      have hj' : j < e.length := by rw [axesP_length] at hj; exact hj
      have a1 : (axesP e)[i] = (axesP e).getD i 0 := by rw [List.getD, List.getElem?_eq_getElem hi]; rfl
      have a2 : (axesP e)[j] = (axesP e).getD j 0 := by rw [List.getD, List.getElem?_eq_getElem hj]; rfl
      rw [a1, a2, axesP_getD hi', axesP_getD hj']
      have b1 := (h i hi').1
      have b2 := (h j hj').1
      have b3 := (h j hj').2 i hij
      omega
    · intro a ha
      obtain ⟨i, hi, rfl⟩ := mem_getD ha
      rw [axesP_length] at hi
      rw [axesP_getD hi]
      have := (h i hi).1
      omega
  refine allB_iff.2 (fun i hi => ?_)
  obtain ⟨k, hk, e1⟩ := mem_getD (hp.mem_iff.2 (List.mem_range.2 hi))
  rw [axesP_length] at hk
  rw [axesP_getD hk] at e1
  have b := (h k hk).1
  have e2 : e.getD k 0 = (i : Int) + 1 := by omega
  rw [← e2, List.getD, List.getElem?_eq_getElem hk]
  exact List.getElem_mem _
theorem all_good {e : List Int} (h : allB e = true) : GoodTo e e.length := fun i hi => by
  obtain ⟨hp, hb⟩ := axes_perm h
  have hm : ∀ k, k < e.length → e.getD k 0 ∈ e := fun k hk => by
    rw [List.getD, List.getElem?_eq_getElem hk]
    exact List.getElem_mem _
  refine ⟨hb _ (hm i hi), fun k hk e1 => ?_⟩
  have hn := (perm_facts hp).2.1
  exact nodup_ne hn (by rw [axesP_length]; omega) (by rw [axesP_length]; exact hi) (show k ≠ i by omega) (by rw [axesP_getD (by omega), axesP_getD hi, e1])
set_option maxRecDepth 100000 in
set_option maxHeartbeats 4000000 in
theorem r14per_any (u v : Value) (L : Ar) (s : List Int) (w : World) (hL : Ara w u L) (hS : Ls w v s) (hle : L.e.length ≤ 1000000) : Calls Try.prog 22 #[u, v] w (GaveG w (perW L s)) := by
  obtain ⟨i0, hi, hz0, hz1, hz2⟩ := info_parts info_int
  obtain ⟨k, t, e⟩ := L
  have hL' := hL
  obtain ⟨vt, ve, hv, ht, he⟩ := hL
  simp only at hv ht he hle
  subst hv
  obtain ⟨ta, ct, rfl, _⟩ := ht.form
  obtain ⟨ae, ce, rfl, _⟩ := he.form
  obtain ⟨ao, c, rfl, _⟩ := hS.form
  have hC0 := ((Chg.refl (fun _ => False) w).alloc (.cells #[.int .i64 k, .slice ta t.length ct, .slice ae e.length ce] 25)).alloc (.cells #[.slice none 0 0, .slice none 0 0, .slice none 0 0] 38)
  have hR0 := Bx.new (w.alloc (.cells #[.int .i64 k, .slice ta t.length ct, .slice ae e.length ce] 25)) (.slice none 0 0) (.slice none 0 0) (.slice none 0 0) 38
  rw [World.size_alloc] at hR0
  obtain ⟨y0, y1, y2⟩ := cell_two w (.int .i64 k) (.slice ta t.length ct) (.slice ae e.length ce) 25
  replace y0 := alloc_cell y0 (.cells #[.slice none 0 0, .slice none 0 0, .slice none 0 0] 38)
  replace y1 := alloc_cell y1 (.cells #[.slice none 0 0, .slice none 0 0, .slice none 0 0] 38)
  replace y2 := alloc_cell y2 (.cells #[.slice none 0 0, .slice none 0 0, .slice none 0 0] 38)
  have hmay := r14may_any _ s _ (hS.fr hC0)
  have HLA := Lib.hid (show ∀ w', Chg (fun _ => False) w w' → Ara w' (.agg #[.int .i64 k, .slice ta t.length ct, .slice ae e.length ce]) ⟨k, t, e⟩ from fun w' h => hL'.fr h)
  have HS := Lib.hid hS
  clear hL' ht he hS
  cases hsh : shB s with
  | false =>
    rw [hsh] at hmay
    have HR := Lib.hid (perW_no (L := ⟨k, t, e⟩) (s := s) (n := 110) (by unfold perE; rw [hsh]; rfl) (by decide))
    clear hsh
    go_enter Try.func22, Try.ntmps22
    go_wp2_with fail
    refine hmay.mono ?_
    clear hmay
    rintro e9 w1 ⟨rfl, hC1⟩
    have HC := Lib.hid (hC0.tr hC1)
    have HRB := Lib.hid (hR0.fr hC1)
    replace y0 := hC1.cell y0 id
    replace y1 := hC1.cell y1 id
    replace y2 := hC1.cell y2 id
    clear hC1 hC0 hR0 y0 y1 y2
    obtain ⟨z0, z1, z2, x0', x1', x2'⟩ := HRB.out
    obtain ⟨⟨g0, g1⟩, g2⟩ := set3_cells (.slice none 0 0) (.slice none 0 0) (.slice none 0 0) z0 z1 z2
    go_wp2
    simp [bodyPost, results, Try.results22, go_sem, g0, g1, g2]
    rw [HR.out]
    exact leaveG0 (Nat.le_succ _) HC.out
  | true =>
    rw [hsh] at hmay
    by_cases hn : lstE ⟨k, t, e⟩ = 0
    · have hlL : lstL ⟨k, t, e⟩ = e := if_pos hn
      have hpE : perE ⟨k, t, e⟩ s = (if e.length ≠ s.length then 4 else if allB e then 0 else 5) := by unfold perE; rw [hsh, if_pos rfl, if_neg (by rw [hn]; exact fun h => h rfl)]
      have HNL := Lib.hid (show lstE ⟨k, t, e⟩ = 0 ∧ lstL ⟨k, t, e⟩ = e from ⟨hn, hlL⟩)
      have hs4 := (shB_iff.1 hsh).1
      have HSH := Lib.hid hsh
      clear hn hlL hsh
      by_cases h4 : e.length = s.length
      · rw [if_neg (fun h => h h4)] at hpE
        have HPE := Lib.hid hpE
        have H4 := Lib.hid h4
        have hb : ((e.length : Int) != (s.length : Int)) = false := bne_eq_false_iff_eq.2 (by omega)
        have he4 : e.length ≤ 4 := by omega
        clear hpE h4
        go_enter Try.func22, Try.ntmps22
        go_wp2_with fail
        refine hmay.mono ?_
        clear hmay
        rintro e9 w1 ⟨rfl, hC1⟩
        have HC := Lib.hid (hC0.tr hC1)
        have HRB := Lib.hid (hR0.fr hC1)
        replace y0 := hC1.cell y0 id
        replace y1 := hC1.cell y1 id
        replace y2 := hC1.cell y2 id
        have hlist := r13list_any _ ⟨k, t, e⟩ _ (HLA.out _ HC.out) hle
        rw [HNL.out.1, HNL.out.2] at hlist
        clear hC1 hC0 hR0
        go_wp2_with fail
        refine hlist.mono ?_
        clear hlist y0 y1 y2
        rintro e9 w3 ⟨v3, rfl, ho3, hC3⟩
        obtain ⟨a3, c3, rfl⟩ := own_name ho3
        replace HC := Lib.hid (HC.out.tr hC3)
        replace HRB := Lib.hid (HRB.out.fr hC3)
        have HO3 := Lib.hid ho3.ls
        clear hC3 ho3
        go_wp2
        go_loopw [8, 9] (fun tv i wr => ∃ j : Nat, j ≤ e.length ∧ i = .int .i64 j ∧ GoodTo e j ∧ Own wr w3.heap.size 3 tv ((e.map (fun x => IntKind.i64.wrap (x - 1))).take j) ∧ Chg (fun _ => False) w3 wr) (fun _ i _ => e.length - (intOf i).toNat)
        case atStart => exact ⟨0, Nat.zero_le _, rfl, GoodTo.zero e, Own.nil _ _ _, Chg.refl _ _⟩
        case round =>
          obtain ⟨j, hj, rfl, hgt, hown, hC⟩ := hrel
          by_cases hlt : j < e.length
          · have hLr := HO3.out.fr hC
            obtain ⟨be, oe, cc, e1, hcx⟩ := hLr.at hlt
            injection e1 with e1 e2 e3
            clear e2 e3
            subst e1
            have hgd : e.getD j 0 = e[j] := by rw [List.getD, List.getElem?_eq_getElem hlt]; rfl
            have hlt' : (j : Int) < (e.length : Int) := by omega
            have hj0 : (0 : Int) ≤ (j : Int) := by omega
            have hkw : IntKind.i64.wrap ((j : Int) + 1) = (j : Int) + 1 := IntWalk.i64_in _ (by omega)
            have hml : (e.map (fun x => IntKind.i64.wrap (x - 1))).length = e.length := List.length_map _
            have HTK := Lib.hid (show (e.map (fun x => IntKind.i64.wrap (x - 1))).take (j + 1) = (e.map (fun x => IntKind.i64.wrap (x - 1))).take j ++ [IntKind.i64.wrap (e[j] - 1)] by rw [List.take_succ_eq_append_getElem (by rw [hml]; exact hlt), List.getElem_map])
            have hpl : ((e.map (fun x => IntKind.i64.wrap (x - 1))).take j).length ≤ 4 := by rw [List.length_take]; omega
            generalize e[j] = x at *
            generalize (e.map (fun x => IntKind.i64.wrap (x - 1))).take j = pre at *
            have HGD := Lib.hid hgd
            have HLT := Lib.hid hlt
            have HGT := Lib.hid hgt
            have HCr := Lib.hid hC
            have HO := Lib.hid hown
            have HPL := Lib.hid hpl
            have hm1 : w3.heap.size ≤ wr.heap.size := hC.size
            obtain ⟨al, Ln, cL, rfl, hLn⟩ := owns_name hown
            have HLL := Lib.hid (show Ln = pre.length from hLn.out)
            clear hgd hgt hown hC hpl hml hLr hLn hj
            by_cases hx1 : x < 1
            · have HR := Lib.hid (perW_no (L := ⟨k, t, e⟩) (s := s) (n := 5) (by
                rw [HPE.out, if_neg (fun h => by have h9 := (all_good h j HLT.out).1.1; rw [HGD.out] at h9; omega)]) (by decide))
              clear hlt
              have hBr := HRB.out.fr HCr.out
              have hCend := HC.out.tr HCr.out
              clear hm1
              obtain ⟨z0, z1, z2, x0', x1', x2'⟩ := hBr
              obtain ⟨⟨g0, g1⟩, g2⟩ := set3_cells (.slice none 0 0) (.slice none 0 0) (.slice none 0 0) z0 z1 z2
              go_wp2
              simp [bodyPost, results, Try.results22, go_sem, g0, g1, g2]
              rw [HR.out]
              exact leaveG0 (Nat.le_succ _) hCend
            · by_cases hx2 : (e.length : Int) < x
              · have HR := Lib.hid (perW_no (L := ⟨k, t, e⟩) (s := s) (n := 5) (by
                  rw [HPE.out, if_neg (fun h => by have h9 := (all_good h j HLT.out).1.2; rw [HGD.out] at h9; omega)]) (by decide))
                clear hlt
                have hBr := HRB.out.fr HCr.out
                have hCend := HC.out.tr HCr.out
                clear hm1
                obtain ⟨z0, z1, z2, x0', x1', x2'⟩ := hBr
                obtain ⟨⟨g0, g1⟩, g2⟩ := set3_cells (.slice none 0 0) (.slice none 0 0) (.slice none 0 0) z0 z1 z2
                go_wp2
                simp [bodyPost, results, Try.results22, go_sem, g0, g1, g2]
                rw [HR.out]
                exact leaveG0 (Nat.le_succ _) hCend
              · have hx1' : 1 ≤ x := by omega
                have hx2' : x ≤ (e.length : Int) := by omega
                have hyw : IntKind.i64.wrap (x - 1) = x - 1 := IntWalk.i64_in _ (by omega)
                rw [hyw] at HTK
                have HBR := Lib.hid (HRB.out.fr HCr.out)
                have HCE := Lib.hid (HC.out.tr HCr.out)
                clear hlt
                go_wp2
                go_loopw [10] (fun i wq => ∃ q : Nat, q ≤ j ∧ i = .int .i64 q ∧ (∀ k, k < q → e.getD k 0 ≠ x) ∧ Chg (fun _ => False) wr wq) (fun i _ => j - (intOf i).toNat)
                case atStart => exact ⟨0, Nat.zero_le _, rfl, fun k hk => absurd hk (Nat.not_lt_zero k), Chg.refl _ _⟩
                case round =>
                  obtain ⟨q, hq, rfl, hne, hCq⟩ := hrel
                  have hcj := hCq.cell hcx id
                  by_cases hqj : q < j
                  · have hqe : q < e.length := Nat.lt_trans hqj HLT.out
                    obtain ⟨b2, o2, c2, e1, hcq⟩ := (HO3.out.fr (HCr.out.tr hCq)).at hqe
                    injection e1 with e1 e2 e3
                    clear e2 e3
                    injection e1 with e1
                    injection e1 with e1 e2 e3
                    clear e3
                    subst e1 e2
                    have hgq : e.getD q 0 = e[q] := by rw [List.getD, List.getElem?_eq_getElem hqe]; rfl
                    generalize e[q] = y at *
                    have hq0 : (0 : Int) ≤ (q : Int) := by omega
                    have hq1 : (q : Int) < (e.length : Int) := by omega
                    have hq2 : (q : Int) < (j : Int) := by omega
                    have hkq : IntKind.i64.wrap ((q : Int) + 1) = (q : Int) + 1 := IntWalk.i64_in _ (by omega)
                    have HQJ := Lib.hid hqj
                    have HNE := Lib.hid hne
                    have HCQ := Lib.hid hCq
                    have HGQ := Lib.hid hgq
                    have KP := Lib.hid (show ∀ w', Chg (fun _ => False) wr w' → (Chg (fun _ => False) wr w' ∧ w'.cell? ⟨be, oe + q, none⟩ = some (.int .i64 y) ∧ w'.cell? ⟨be, oe + j, none⟩ = some (.int .i64 x)) from fun w' h => ⟨h, h.cell hcq id, h.cell hcj id⟩)
                    clear hne hqj hqe hgq hq hCq
                    by_cases hyx : y = x
                    · have b1 : (y == x) = true := beq_iff_eq.2 hyx
                      have HR := Lib.hid (perW_no (L := ⟨k, t, e⟩) (s := s) (n := 5) (by
                        rw [HPE.out, if_neg (fun h => (all_good h j HLT.out).2 q HQJ.out (by rw [HGQ.out, HGD.out, hyx]))]) (by decide))
                      clear hyx
                      go_wp2_with fail
                      go_region_held3 (fun w' => Chg (fun _ => False) wr w' ∧ w'.cell? ⟨be, oe + q, none⟩ = some (.int .i64 y) ∧ w'.cell? ⟨be, oe + j, none⟩ = some (.int .i64 x)) ((refine KP.out _ ?_; repeat (first | (with_reducible exact Chg.refl _ _) | (with_reducible refine chg_drew' ?_)))) (fail)
                      all_goals
                        rename_i hHd
                        generalize wr.drew = wz at *
                        have hBr := HBR.out.fr (HCQ.out.tr hHd.1)
                        have hCend := HCE.out.tr (HCQ.out.tr hHd.1)
                        clear hHd hcq hcj
                        obtain ⟨z0, z1, z2, x0', x1', x2'⟩ := hBr
                        obtain ⟨⟨g0, g1⟩, g2⟩ := set3_cells (.slice none 0 0) (.slice none 0 0) (.slice none 0 0) z0 z1 z2
                        go_wp2
                        simp [bodyPost, results, Try.results22, go_sem, g0, g1, g2]
                        rw [HR.out]
                        exact leaveG0 (Nat.le_succ _) hCend
                    · have b1 : (y == x) = false := beq_eq_false_iff_ne.2 hyx
                      have HYX := Lib.hid hyx
                      clear hyx
                      go_wp2_with fail
                      go_region_held3 (fun w' => Chg (fun _ => False) wr w' ∧ w'.cell? ⟨be, oe + q, none⟩ = some (.int .i64 y) ∧ w'.cell? ⟨be, oe + j, none⟩ = some (.int .i64 x)) ((refine KP.out _ ?_; repeat (first | (with_reducible exact Chg.refl _ _) | (with_reducible refine chg_drew' ?_)))) (fail)
                      all_goals
                        rename_i hHd
                        generalize wr.drew = wz at *
                        have hCend := HCQ.out.tr hHd.1
                        clear hHd hcq hcj
                        go_wp2
                        go_roundw
                        case rel => exact ⟨q + 1, HQJ.out, by go_num, fun k hk => (by
                          by_cases hkq : k = q
                          · subst hkq
                            rw [HGQ.out]
                            exact HYX.out
                          · exact HNE.out k (by omega)), hCend⟩
                        case measure => exact fit_meas q j HQJ.out
                  · obtain rfl : q = j := by omega
                    have HNE := Lib.hid hne
                    have HCQ := Lib.hid (HCr.out.tr hCq)
                    have HOQ := Lib.hid (HO.out.fr hCq)
                    have hm2 : w3.heap.size ≤ wr.heap.size := Nat.le_trans hm1 hCq.size
                    have hLb : Ln ≤ 4 := by rw [HLL.out]; exact HPL.out
                    clear hne hCq hqj hq
                    go_wp2_with (refine wpList_append_own_any (by rfl) (.tmp 66) (.tmp 72) 22 (by rfl) w3.heap.size 3 i0 (.int .i64 0) 1 8 Try.underlying22 hi hz0 hz1 hz2 rfl (by decide) (.slice al Ln cL) pre.length (pre.map I) (by rfl) (World.ownsRow.alloc HOQ.out _) (some ⟨wr.heap.size, 0, none⟩) 1 1 [.int .i64 (x - 1)] (by rfl) rfl (fun j u hu => ⟨_, rfl, cell_one_new wr _ _ j u hu⟩) (by simp [Value.oneCell']) (by have := HPL.out; unfold maxLen; omega) (by have := HPL.out; omega) (by simp; omega) ?_; intro v2 w2 hown2 hg2 _ hO2; have hC2 : Chg (fun _ => False) w3 w2 := ((HCQ.out.alloc _).grown hg2 (fun k e => .inr (HOQ.out.lt k e).1)); have O2 := Lib.hid (own_snoc hown2 rfl); obtain ⟨al2, L2, cl2, rfl, hL2⟩ := owns_name O2.out)
                    go_roundw
                    case rel => exact ⟨q + 1, HLT.out, by go_num, HGT.out.next (by rw [HGD.out]; omega) (fun k hk => by rw [HGD.out]; exact HNE.out k hk), by rw [HTK.out]; exact O2.out, hC2⟩
                    case measure => exact fit_meas q e.length HLT.out
          · obtain rfl : j = e.length := by omega
            have hall := good_all hgt
            have hE0 : perE ⟨k, t, e⟩ s = 0 := by rw [HPE.out, if_pos hall]
            have HR := Lib.hid (show perW ⟨k, t, e⟩ s = ⟨outL s (axesP e), axG s (axesP e), 0⟩ from if_pos hE0)
            obtain ⟨hp1, hp2⟩ := axes_perm hall
            have hmap : (e.map (fun x => IntKind.i64.wrap (x - 1))).take e.length = (axesP e).map (fun (a : Nat) => (a : Int)) := by
              rw [List.take_of_length_le (by rw [List.length_map]; exact Nat.le_refl _), axes_cast hall]
              exact List.map_congr_left (fun x hx => IntWalk.i64_in _ (by have := hp2 x hx; omega))
            rw [hmap] at hown
            rw [H4.out] at hp1
            have hax := r14axes_any _ _ s (axesP e) wr hown.ls (HS.out.fr (HC.out.tr hC)) HSH.out hp1
            obtain ⟨al, Ln, cL, rfl, hLn⟩ := owns_name hown
            have HCr := Lib.hid (HC.out.tr hC)
            have HRr := Lib.hid (HRB.out.fr hC)
            have hsr : w.heap.size + 1 < wr.heap.size := HRr.out.lt
            have HSR := Lib.hid hsr
            clear hown hC hLn hlt hj hsr hall hE0 hp1 hp2 hmap hgt
            go_wp2_with fail
            refine hax.mono ?_
            clear hax
            rintro e9 w5 ⟨vs, vo, vp, rfl, hG, hC5⟩
            simp only at hG
            obtain ⟨as1, Ls1, cs1, rfl, _⟩ := owns_name hG.os
            obtain ⟨ao1, Lo1, co1, rfl, _⟩ := owns_name hG.oo
            obtain ⟨ap1, Lp1, cp1, rfl, _⟩ := owns_name hG.op
            obtain ⟨z0, z1, z2, x0', x1', x2'⟩ := HRr.out.fr hC5
            obtain ⟨⟨g0, g1⟩, g2⟩ := set3_cells (.slice as1 Ls1 cs1) (.slice ao1 Lo1 co1) (.slice ap1 Lp1 cp1) z0 z1 z2
            have HG := Lib.hid hG
            have HC5 := Lib.hid (HCr.out.tr hC5)
            clear hG hC5
            go_wp2
            simp [bodyPost, results, Try.results22, go_sem, g0, g1, g2]
            rw [HR.out]
            exact leaveG HG.out (fun q hq => by have := (HG.out.os.lt q hq).1; have := HSR.out; omega) (fun q hq => by have := (HG.out.oo.lt q hq).1; have := HSR.out; omega) (fun q hq => by have := (HG.out.op.lt q hq).1; have := HSR.out; omega) (Nat.le_succ _) HC5.out
      · have HR := Lib.hid (perW_no (L := ⟨k, t, e⟩) (s := s) (n := 4) (by rw [hpE, if_pos h4]) (by decide))
        have hb : ((e.length : Int) != (s.length : Int)) = true := bne_iff_ne.2 (by omega)
        clear hpE h4
        go_enter Try.func22, Try.ntmps22
        go_wp2_with fail
        refine hmay.mono ?_
        clear hmay
        rintro e9 w1 ⟨rfl, hC1⟩
        have HC := Lib.hid (hC0.tr hC1)
        have HRB := Lib.hid (hR0.fr hC1)
        replace y0 := hC1.cell y0 id
        replace y1 := hC1.cell y1 id
        replace y2 := hC1.cell y2 id
        have hlist := r13list_any _ ⟨k, t, e⟩ _ (HLA.out _ HC.out) hle
        rw [HNL.out.1, HNL.out.2] at hlist
        clear hC1 hC0 hR0
        go_wp2_with fail
        refine hlist.mono ?_
        clear hlist y0 y1 y2
        rintro e9 w3 ⟨v3, rfl, ho3, hC3⟩
        obtain ⟨a3, c3, rfl⟩ := own_name ho3
        have hBr := HRB.out.fr hC3
        have hCend := HC.out.tr hC3
        clear ho3 hC3
        obtain ⟨z0, z1, z2, x0', x1', x2'⟩ := hBr
        obtain ⟨⟨g0, g1⟩, g2⟩ := set3_cells (.slice none 0 0) (.slice none 0 0) (.slice none 0 0) z0 z1 z2
        go_wp2
        simp [bodyPost, results, Try.results22, go_sem, g0, g1, g2]
        rw [HR.out]
        exact leaveG0 (Nat.le_succ _) hCend
    · obtain ⟨n, hnn⟩ : ∃ n, lstE ⟨k, t, e⟩ = n := ⟨_, rfl⟩
      have HR := Lib.hid (perW_no (L := ⟨k, t, e⟩) (s := s) (n := n) (by unfold perE; rw [hsh, if_pos rfl, if_pos hn]; exact hnn) (by rw [← hnn]; exact hn))
      rw [hnn] at hn
      have hb : (n != 0) = true := bne_iff_ne.2 hn
      have HNN := Lib.hid hnn
      clear hsh hnn hn
      go_enter Try.func22, Try.ntmps22
      go_wp2_with fail
      refine hmay.mono ?_
      clear hmay
      rintro e9 w1 ⟨rfl, hC1⟩
      have HC := Lib.hid (hC0.tr hC1)
      have HRB := Lib.hid (hR0.fr hC1)
      replace y0 := hC1.cell y0 id
      replace y1 := hC1.cell y1 id
      replace y2 := hC1.cell y2 id
      have hlist := r13list_any _ ⟨k, t, e⟩ _ (HLA.out _ HC.out) hle
      rw [HNN.out] at hlist
      clear hC1 hC0 hR0
      go_wp2_with fail
      refine hlist.mono ?_
      clear hlist y0 y1 y2
      rintro e9 w3 ⟨v3, rfl, ho3, hC3⟩
      obtain ⟨a3, c3, rfl⟩ := own_name ho3
      have hBr := HRB.out.fr hC3
      have hCend := HC.out.tr hC3
      clear ho3 hC3
      obtain ⟨z0, z1, z2, x0', x1', x2'⟩ := hBr
      obtain ⟨⟨g0, g1⟩, g2⟩ := set3_cells (.slice none 0 0) (.slice none 0 0) (.slice none 0 0) z0 z1 z2
      go_wp2
      simp [bodyPost, results, Try.results22, go_sem, g0, g1, g2]
      rw [HR.out]
      exact leaveG0 (Nat.le_succ _) hCend
end Go.Proofs.Ytmmbdhfljabefaa
