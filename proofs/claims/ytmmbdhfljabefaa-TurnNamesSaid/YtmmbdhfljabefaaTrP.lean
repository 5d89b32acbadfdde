/- turn: PermuteWay, walked. -/
import Derived.Test.YtmmbdhfljabefaaTrO
namespace Go.Proofs.Ytmmbdhfljabefaa
open Go.RowKit Go.Shelf

def HasTo (e : List Int) (j : Nat) : Prop := ∀ k : Nat, k < j → ((k : Int) + 1) ∈ e
set_option maxRecDepth 100000 in
set_option maxHeartbeats 20000000 in
theorem perway_any (u v : Value) (L : Ar) (s : List Int) (w : World) (hL : Ara w u L) (hS : Ls w v s) (hsl : s.length ≤ 1000000) (hle : L.e.length ≤ 1000000) : Calls Try.prog 17 #[u, v] w (GaveW w (perW L s)) := by
  obtain ⟨k, t, e⟩ := L
  obtain ⟨vt, ve, hv, ht, he⟩ := hL
  simp only at hv ht he hle
  subst hv
  obtain ⟨ta, ct, rfl, _⟩ := ht.form
  obtain ⟨ae, ce, rfl, _⟩ := he.form
  obtain ⟨ao, c, rfl, _⟩ := hS.form
  have hC0 := ((Chg.refl (fun _ => False) w).alloc (.cells #[.int .i64 k, .slice ta t.length ct, .slice ae e.length ce] 25)).alloc (.cells #[.slice none 0 0, .nilFunc] 31)
  obtain ⟨y0, y1, y2⟩ := cell_two w (.int .i64 k) (.slice ta t.length ct) (.slice ae e.length ce) 25
  replace y0 := alloc_cell y0 (.cells #[.slice none 0 0, .nilFunc] 31)
  replace y1 := alloc_cell y1 (.cells #[.slice none 0 0, .nilFunc] 31)
  replace y2 := alloc_cell y2 (.cells #[.slice none 0 0, .nilFunc] 31)
  have z0 := new_cell (w.alloc (.cells #[.int .i64 k, .slice ta t.length ct, .slice ae e.length ce] 25)) #[.slice none 0 0, .nilFunc] 31 (i := 0) rfl
  have z1 := new_cell (w.alloc (.cells #[.int .i64 k, .slice ta t.length ct, .slice ae e.length ce] 25)) #[.slice none 0 0, .nilFunc] 31 (i := 1) rfl
  have f0 := new_frozen (w.alloc (.cells #[.int .i64 k, .slice ta t.length ct, .slice ae e.length ce] 25)) #[.slice none 0 0, .nilFunc] 31 0
  have f1 := new_frozen (w.alloc (.cells #[.int .i64 k, .slice ta t.length ct, .slice ae e.length ce] 25)) #[.slice none 0 0, .nilFunc] 31 1
  simp only [World.size_alloc] at z0 z1 f0 f1
  have hse := seen_any _ s _ (hS.fr hC0) hsl
  unfold GaveSeen at hse
  have hck := fun w' (h : Chg (fun _ => False) w w') => mlist_any _ ⟨k, t, e⟩ w' (Ara.mk (k := k) (ht.fr h) (he.fr h)) hle
  have HCK := Lib.hid hck
  clear ht he hS hck
  cases hsh : shB s with
  | false =>
    rw [cntE_not hsh] at hse
    have HR := Lib.hid (perW_no (L := ⟨k, t, e⟩) (s := s) (n := 110) (by unfold perE; rw [hsh]; rfl) (by decide))
    clear hsh
    go_enter Try.func17, Try.ntmps17
    go_wp2_with fail
    refine hse.mono ?_
    clear hse
    rintro e9 w1 ⟨v1, rfl, ho1, hC1⟩
    obtain ⟨a1, c1, rfl⟩ := own_name ho1
    have HO1 := Lib.hid (show ∀ w', Chg (fun _ => False) w1 w' → Ls w' (.slice a1 s.length c1) s from fun _ h => ho1.ls.fr h)
    have HN1 := Lib.hid (show ∀ q, Blk (.slice a1 s.length c1) q → w.heap.size + 1 < q ∧ q < w1.heap.size from fun q hq => by have := ho1.lt q hq; simp at this; omega)
    have hsz : w.heap.size + 1 < w1.heap.size := cell_lt (hC1.cell z0 id)
    have hC2 := hC1.alloc (.cells #[.slice a1 s.length c1] 69)
    have hC02 := hC0.tr hC2
    have yv := new_cell w1 #[.slice a1 s.length c1] 69 (i := 0) rfl
    have zz0 := hC1.cell z0 id
    have zz1 := hC1.cell z1 id
    have ff0 := hC1.frozen z0 f0 id
    have ff1 := hC1.frozen z1 f1 id
    replace f0 := hC2.frozen z0 f0 id
    replace f1 := hC2.frozen z1 f1 id
    replace z0 := hC2.cell z0 id
    replace z1 := hC2.cell z1 id
    replace y0 := hC2.cell y0 id
    replace y1 := hC2.cell y1 id
    replace y2 := hC2.cell y2 id
    have HC := Lib.hid (hC0.tr hC1)
    obtain ⟨g0, g1⟩ := set2_cells (.slice none 0 0) .nilFunc zz0 zz1
    replace g0 := alloc_cell g0 (.cells #[.slice a1 s.length c1] 69)
    replace g1 := alloc_cell g1 (.cells #[.slice a1 s.length c1] 69)
    clear hC1 hC2 hC0 hC02 ho1 z0 z1 f0 f1 y0 y1 y2
    go_wp2
    simp [bodyPost, results, Try.results17, go_sem, g0, g1]
    rw [HR.out]
    exact ⟨_, fun _ => False, rfl, .inr ⟨by decide, rfl, rfl, rfl⟩, fun _ h => h.elim, ((HC.out.setCell (p := ⟨w.heap.size + 1, 0, none⟩) (.inr (Nat.le_succ _)) _).setCell (p := ⟨w.heap.size + 1, 1, none⟩) (.inr (Nat.le_succ _)) _).alloc _⟩
  | true =>
    rw [cntE_ok hsh] at hse
    by_cases hn : lstE ⟨k, t, e⟩ = 0
    · have hlL : lstL ⟨k, t, e⟩ = e := if_pos hn
      have HNL := Lib.hid (show lstE ⟨k, t, e⟩ = 0 ∧ lstL ⟨k, t, e⟩ = e from ⟨hn, hlL⟩)
      have hpE : perE ⟨k, t, e⟩ s = (if e.length ≠ s.length then 4 else if allB e then 0 else 5) := by unfold perE; rw [hsh, if_pos rfl, if_neg (by rw [hn]; exact fun h => h rfl)]
      clear hn hlL
      by_cases h4 : e.length = s.length
      · rw [if_neg (fun h => h h4)] at hpE
        have HPE := Lib.hid hpE
        have H4 := Lib.hid h4
        have HSH := Lib.hid hsh
        have hb : ((e.length : Int) != (s.length : Int)) = false := bne_eq_false_iff_eq.2 (by omega)
        have hs4 := (shB_iff.1 hsh).1
        have he4 : e.length ≤ 4 := by omega
        obtain ⟨i0, hi, hz0, hz1, hz2⟩ := info_parts info_int
        clear hpE h4 hsh
        go_enter Try.func17, Try.ntmps17
        go_wp2_with fail
        refine hse.mono ?_
        clear hse
        rintro e9 w1 ⟨v1, rfl, ho1, hC1⟩
        obtain ⟨a1, c1, rfl⟩ := own_name ho1
        have HO1 := Lib.hid (show ∀ w', Chg (fun _ => False) w1 w' → Ls w' (.slice a1 s.length c1) s from fun _ h => ho1.ls.fr h)
        have HN1 := Lib.hid (show ∀ q, Blk (.slice a1 s.length c1) q → w.heap.size + 1 < q ∧ q < w1.heap.size from fun q hq => by have := ho1.lt q hq; simp at this; omega)
        have hsz : w.heap.size + 1 < w1.heap.size := cell_lt (hC1.cell z0 id)
        have hC2 := hC1.alloc (.cells #[.slice a1 s.length c1] 69)
        have hC02 := hC0.tr hC2
        have yv := new_cell w1 #[.slice a1 s.length c1] 69 (i := 0) rfl
        have zz0 := hC1.cell z0 id
        have zz1 := hC1.cell z1 id
        have ff0 := hC1.frozen z0 f0 id
        have ff1 := hC1.frozen z1 f1 id
        replace f0 := hC2.frozen z0 f0 id
        replace f1 := hC2.frozen z1 f1 id
        replace z0 := hC2.cell z0 id
        replace z1 := hC2.cell z1 id
        replace y0 := hC2.cell y0 id
        replace y1 := hC2.cell y1 id
        replace y2 := hC2.cell y2 id
        have hck1 := HCK.out _ hC02
        rw [HNL.out.1, HNL.out.2] at hck1
        go_wp2_with fail
        refine hck1.mono ?_
        clear hck1
        rintro e9 w3 ⟨v3, rfl, ho3, hC3⟩
        obtain ⟨a3, c3, rfl⟩ := own_name ho3
        have hC03 := hC02.tr hC3
        replace f0 := hC3.frozen z0 f0 id
        replace f1 := hC3.frozen z1 f1 id
        replace z0 := hC3.cell z0 id
        replace z1 := hC3.cell z1 id
        replace yv := hC3.cell yv id
        have HC13 := Lib.hid (((Chg.refl (fun _ => False) w1).alloc (.cells #[.slice a1 s.length c1] 69)).tr hC3)
        have HC := Lib.hid hC03
        have HO3 := Lib.hid ho3
        clear zz0 zz1 ff0 ff1 hC1 hC2 hC0 hC02 ho1 hC3 hC03 ho3 y0 y1 y2
        have hsz3 : w.heap.size + 1 < w3.heap.size := cell_lt z0
        go_wp2
        go_loopw [9, 39] (fun tv i wr => ∃ j : Nat, j ≤ e.length ∧ i = .int .i64 j ∧ HasTo e j ∧ Own wr w3.heap.size 3 tv ((e.map (fun x => IntKind.i64.wrap (x - 1))).take j) ∧ Chg (fun _ => False) w3 wr) (fun _ i _ => e.length - (intOf i).toNat)
        case atStart => exact ⟨0, Nat.zero_le _, rfl, fun k h => absurd h (Nat.not_lt_zero k), Own.nil _ _ _, Chg.refl _ _⟩
        case round =>
          obtain ⟨j, hj, rfl, hto, hown, hC⟩ := hrel
          have hm1 : w3.heap.size ≤ wr.heap.size := hC.size
          have hLs := HO3.out.ls.fr hC
          by_cases hlt : j < e.length
          · have hcon := containsL_any _ e ((j : Int) + 1) wr hLs (by omega)
            have hlt' : (j : Int) < (e.length : Int) := by omega
            have hw3 : IntKind.i64.wrap ((j : Int) + 1) = (j : Int) + 1 := IntWalk.i64_in _ (by omega)
            by_cases hm : ((j : Int) + 1) ∈ e
            · rw [decide_eq_true hm] at hcon
              obtain ⟨bb, oo, cc, e1, hcell⟩ := hLs.at hlt
              injection e1 with e1 e2 e3
              clear e2 e3
              subst e1
              obtain ⟨al, L, cl, rfl, hL⟩ := owns_name hown
              have hml : (e.map (fun x => IntKind.i64.wrap (x - 1))).length = e.length := List.length_map _
              have hLL : L = j := by rw [hL.out, List.length_take, hml]; omega
              have HTK := Lib.hid (show (e.map (fun x => IntKind.i64.wrap (x - 1))).take (j + 1) = (e.map (fun x => IntKind.i64.wrap (x - 1))).take j ++ [IntKind.i64.wrap (e[j] - 1)] by rw [List.take_succ_eq_append_getElem (by rw [hml]; exact hlt), List.getElem_map])
              have HTO := Lib.hid (show HasTo e (j + 1) from fun k hk => by
                by_cases h : k = j
                · subst h; exact hm
                · exact hto k (by omega))
              generalize e[j] = x at *
              have htl : ((e.map (fun x => IntKind.i64.wrap (x - 1))).take j).length = j := by rw [List.length_take, hml]; omega
              generalize (e.map (fun x => IntKind.i64.wrap (x - 1))).take j = pre at *
              obtain ⟨y, hy⟩ : ∃ y, IntKind.i64.wrap (x - 1) = y := ⟨_, rfl⟩
              rw [hy] at HTK
              have HLL := Lib.hid hLL
              have HO := Lib.hid hown
              have HCr := Lib.hid hC
              have HPL := Lib.hid htl
              have hLb : L ≤ 4 := by omega
              have hj4 : j ≤ 4 := by omega
              have hj0 : (0 : Int) ≤ (j : Int) := by omega
              clear hown hC hLs hto hm hLL htl hml
              go_wp2_with fail
              refine hcon.mono ?_
              clear hcon
              rintro e9 w5 ⟨rfl, rfl⟩
              go_wp2_with (refine wpList_append_own_any (by rfl) (.tmp 48) (.tmp 54) 22 (by rfl) w3.heap.size 3 i0 (.int .i64 0) 1 8 Try.underlying22 hi hz0 hz1 hz2 rfl (by decide) (.slice al L cl) pre.length (pre.map I) (by rfl) (World.ownsRow.alloc HO.out _) (some ⟨w5.heap.size, 0, none⟩) 1 1 [.int .i64 y] (by rfl) rfl (fun j u hu => ⟨_, rfl, cell_one_new w5 _ _ j u hu⟩) (by simp [Value.oneCell']) (by rw [HPL.out]; unfold maxLen; omega) (by rw [HPL.out]; omega) (by simp; omega) ?_; intro v2 w2 hown2 hg2 _ hO2; have hC2 : Chg (fun _ => False) w3 w2 := ((HCr.out.alloc _).grown hg2 (fun k e => .inr (HO.out.lt k e).1)); have O2 := Lib.hid (own_snoc hown2 rfl); obtain ⟨al2, L2, cl2, rfl, hL2⟩ := owns_name O2.out)
              go_roundw
              case rel => exact ⟨j + 1, hlt, rfl, HTO.out, by rw [HTK.out]; exact O2.out, hC2⟩
              case measure => exact fit_meas j e.length hlt
            · rw [decide_eq_false hm] at hcon
              have HR := Lib.hid (perW_no (L := ⟨k, t, e⟩) (s := s) (n := 5) (by rw [HPE.out, if_neg (fun h => hm ((allB_iff.1 h) j hlt))]) (by decide))
              replace f0 := hC.frozen z0 f0 id
              replace f1 := hC.frozen z1 f1 id
              replace z0 := hC.cell z0 id
              replace z1 := hC.cell z1 id
              replace HC := Lib.hid (HC.out.tr hC)
              obtain ⟨al, L, cl, rfl, hL⟩ := owns_name hown
              clear hm hown hC hLs hto
              go_wp2_with fail
              refine hcon.mono ?_
              clear hcon
              rintro e9 w5 ⟨rfl, rfl⟩
              obtain ⟨g0, g1⟩ := set2_cells (.slice none 0 0) .nilFunc z0 z1
              go_wp2
              simp [bodyPost, results, Try.results17, go_sem, g0, g1]
              rw [HR.out]
              exact way_no (by decide) (Nat.le_succ _) HC.out
          · obtain rfl : j = e.length := by omega
            have hall : allB e = true := allB_iff.2 hto
            have hE0 : perE ⟨k, t, e⟩ s = 0 := by rw [HPE.out, if_pos hall]
            have HR := Lib.hid (show perW ⟨k, t, e⟩ s = ⟨outL s (axesP e), axG s (axesP e), 0⟩ from if_pos hE0)
            obtain ⟨hp1, hp2⟩ := axes_perm hall
            have hmap : (e.map (fun x => IntKind.i64.wrap (x - 1))).take e.length = (axesP e).map (fun (a : Nat) => (a : Int)) := by
              rw [List.take_of_length_le (by rw [List.length_map]; exact Nat.le_refl _), axes_cast hall]
              exact List.map_congr_left (fun x hx => IntWalk.i64_in _ (by have := hp2 x hx; omega))
            rw [hmap] at hown
            rw [H4.out] at hp1
            have hC19 := HC13.out.tr hC
            have hby := by_any _ _ s (axesP e) wr (HO1.out _ hC19) hown.ls HSH.out hp1 (fun q hq => by have h1 := (HN1.out q hq).2; have h2 : w1.heap.size ≤ wr.heap.size := hC19.size; omega) (fun q hq => (hown.lt q hq).2)
            replace f0 := hC.frozen z0 f0 id
            replace f1 := hC.frozen z1 f1 id
            replace z0 := hC.cell z0 id
            replace z1 := hC.cell z1 id
            replace yv := hC.cell yv id
            obtain ⟨al, L, cl, rfl, hL⟩ := owns_name hown
            replace HC := Lib.hid (HC.out.tr hC)
            have HSZ := Lib.hid hsz3
            have hszr : w.heap.size + 1 < wr.heap.size := by omega
            clear hown hC hC19 hLs hto hall hE0 hp1 hp2 hmap
            go_wp2_with fail
            refine hby.mono ?_
            clear hby
            rintro e9 w5 ⟨v5, D5, rfl, hW5, hD5, hC5⟩
            replace f0 := hC5.frozen z0 f0 id
            replace f1 := hC5.frozen z1 f1 id
            replace z0 := hC5.cell z0 id
            replace z1 := hC5.cell z1 id
            obtain ⟨_, vs5, gf5, lb5, rfl, hs5, hd5, hf5⟩ := id (hW5.resolve_right (fun h => h.1 rfl))
            simp only at hs5
            obtain ⟨a5, c5, rfl, _⟩ := hs5.form
            rw [outL_length] at hW5 ⊢
            obtain ⟨g0, g1⟩ := set2_cells (.slice a5 s.length c5) (.func (.func gf5) #[] lb5) z0 z1
            have HW := Lib.hid hW5
            have HD := Lib.hid hD5
            have HC5 := Lib.hid hC5
            clear hs5 hd5 hf5 hW5 hD5 hC5
            go_wp2
            simp [bodyPost, results, Try.results17, go_sem, g0, g1]
            rw [HR.out]
            refine way_store (x := w.heap.size) HW.out (fun k hk => ?_) (Nat.le_refl _) (Nat.le_succ _) (fun hk => ?_) (HC.out.tr HC5.out) rfl
            · rcases HD.out k hk with h | h
              · exact h.elim
              · exact .inr (by omega)
            · rcases HD.out _ hk with h | h
              · exact h
              · omega
      · have HR := Lib.hid (perW_no (L := ⟨k, t, e⟩) (s := s) (n := 4) (by rw [hpE, if_pos h4]) (by decide))
        have hb : ((e.length : Int) != (s.length : Int)) = true := bne_iff_ne.2 (by omega)
        clear hsh hpE h4
        go_enter Try.func17, Try.ntmps17
        go_wp2_with fail
        refine hse.mono ?_
        clear hse
        rintro e9 w1 ⟨v1, rfl, ho1, hC1⟩
        obtain ⟨a1, c1, rfl⟩ := own_name ho1
        have HO1 := Lib.hid (show ∀ w', Chg (fun _ => False) w1 w' → Ls w' (.slice a1 s.length c1) s from fun _ h => ho1.ls.fr h)
        have HN1 := Lib.hid (show ∀ q, Blk (.slice a1 s.length c1) q → w.heap.size + 1 < q ∧ q < w1.heap.size from fun q hq => by have := ho1.lt q hq; simp at this; omega)
        have hsz : w.heap.size + 1 < w1.heap.size := cell_lt (hC1.cell z0 id)
        have hC2 := hC1.alloc (.cells #[.slice a1 s.length c1] 69)
        have hC02 := hC0.tr hC2
        have yv := new_cell w1 #[.slice a1 s.length c1] 69 (i := 0) rfl
        have zz0 := hC1.cell z0 id
        have zz1 := hC1.cell z1 id
        have ff0 := hC1.frozen z0 f0 id
        have ff1 := hC1.frozen z1 f1 id
        replace f0 := hC2.frozen z0 f0 id
        replace f1 := hC2.frozen z1 f1 id
        replace z0 := hC2.cell z0 id
        replace z1 := hC2.cell z1 id
        replace y0 := hC2.cell y0 id
        replace y1 := hC2.cell y1 id
        replace y2 := hC2.cell y2 id
        have hck1 := HCK.out _ hC02
        rw [HNL.out.1, HNL.out.2] at hck1
        go_wp2_with fail
        refine hck1.mono ?_
        clear hck1
        rintro e9 w3 ⟨v3, rfl, ho3, hC3⟩
        obtain ⟨a3, c3, rfl⟩ := own_name ho3
        have hC03 := hC02.tr hC3
        replace f0 := hC3.frozen z0 f0 id
        replace f1 := hC3.frozen z1 f1 id
        replace z0 := hC3.cell z0 id
        replace z1 := hC3.cell z1 id
        replace yv := hC3.cell yv id
        have HC13 := Lib.hid (((Chg.refl (fun _ => False) w1).alloc (.cells #[.slice a1 s.length c1] 69)).tr hC3)
        have HC := Lib.hid hC03
        have HO3 := Lib.hid ho3
        clear zz0 zz1 ff0 ff1 hC1 hC2 hC0 hC02 ho1 hC3 hC03 ho3 y0 y1 y2
        obtain ⟨g0, g1⟩ := set2_cells (.slice none 0 0) .nilFunc z0 z1
        go_wp2
        simp [bodyPost, results, Try.results17, go_sem, g0, g1]
        rw [HR.out]
        exact way_no (by decide) (Nat.le_succ _) HC.out
    · obtain ⟨n, hnn⟩ : ∃ n, lstE ⟨k, t, e⟩ = n := ⟨_, rfl⟩
      have HR := Lib.hid (perW_no (L := ⟨k, t, e⟩) (s := s) (n := n) (by unfold perE; rw [hsh, if_pos rfl, if_pos hn]; exact hnn) (by rw [← hnn]; exact hn))
      rw [hnn] at hn
      have hb : (n != 0) = true := bne_iff_ne.2 hn
      have HNN := Lib.hid hnn
      have HN0 := Lib.hid hn
      clear hsh hnn
      go_enter Try.func17, Try.ntmps17
      go_wp2_with fail
      refine hse.mono ?_
      clear hse
      rintro e9 w1 ⟨v1, rfl, ho1, hC1⟩
      obtain ⟨a1, c1, rfl⟩ := own_name ho1
      have HO1 := Lib.hid (show ∀ w', Chg (fun _ => False) w1 w' → Ls w' (.slice a1 s.length c1) s from fun _ h => ho1.ls.fr h)
      have HN1 := Lib.hid (show ∀ q, Blk (.slice a1 s.length c1) q → w.heap.size + 1 < q ∧ q < w1.heap.size from fun q hq => by have := ho1.lt q hq; simp at this; omega)
      have hsz : w.heap.size + 1 < w1.heap.size := cell_lt (hC1.cell z0 id)
      have hC2 := hC1.alloc (.cells #[.slice a1 s.length c1] 69)
      have hC02 := hC0.tr hC2
      have yv := new_cell w1 #[.slice a1 s.length c1] 69 (i := 0) rfl
      have zz0 := hC1.cell z0 id
      have zz1 := hC1.cell z1 id
      have ff0 := hC1.frozen z0 f0 id
      have ff1 := hC1.frozen z1 f1 id
      replace f0 := hC2.frozen z0 f0 id
      replace f1 := hC2.frozen z1 f1 id
      replace z0 := hC2.cell z0 id
      replace z1 := hC2.cell z1 id
      replace y0 := hC2.cell y0 id
      replace y1 := hC2.cell y1 id
      replace y2 := hC2.cell y2 id
      have hck1 := HCK.out _ hC02
      rw [HNN.out] at hck1
      go_wp2_with fail
      refine hck1.mono ?_
      clear hck1
      rintro e9 w3 ⟨v3, rfl, ho3, hC3⟩
      obtain ⟨a3, c3, rfl⟩ := own_name ho3
      have hC03 := hC02.tr hC3
      replace f0 := hC3.frozen z0 f0 id
      replace f1 := hC3.frozen z1 f1 id
      replace z0 := hC3.cell z0 id
      replace z1 := hC3.cell z1 id
      replace yv := hC3.cell yv id
      have HC13 := Lib.hid (((Chg.refl (fun _ => False) w1).alloc (.cells #[.slice a1 s.length c1] 69)).tr hC3)
      have HC := Lib.hid hC03
      have HO3 := Lib.hid ho3
      clear zz0 zz1 ff0 ff1 hC1 hC2 hC0 hC02 ho1 hC3 hC03 ho3 y0 y1 y2
      obtain ⟨g0, g1⟩ := set2_cells (.slice none 0 0) .nilFunc z0 z1
      go_wp2
      simp [bodyPost, results, Try.results17, go_sem, g0, g1]
      rw [HR.out]
      exact way_no HN0.out (Nat.le_succ _) HC.out
end Go.Proofs.Ytmmbdhfljabefaa
