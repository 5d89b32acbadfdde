/- pick: index' way, and index. -/
import Derived.Test.YtnjnajbdpaaikaaPlF
namespace Go.Proofs.Ytnjnajbdpaaikaa
open Go.RowKit Go.Shelf

theorem OwnP.chg {S : Nat → Prop} {w w' : World} {base : Nat} {v : Value} {R : List (Px × Value)} (h : OwnP w base v R) (hC : Chg S w w') (hS : ∀ k, base ≤ k → ¬ S k) : OwnP w' base v R :=
  ⟨hC.owns h.row (fun k hk => hS k (h.lt k hk).1), fun p hp => (h.each p hp).chg hC (fun k hk => hS k ((h.each p hp).lt k hk).1)⟩
theorem rgt_any : ∀ {s : List Int} {L : List Ax}, L.length = s.length → (pxL s L).any (fun x => !rgtP x) = !rgtL s L
  | [], [], _ => rfl
  | m :: s, [], h => by simp at h
  | [], y :: r, h => by simp at h
  | m :: s, y :: r, h => by
    rw [pxL, List.any_cons, rgt_any (by simpa using h), rgtL, Bool.not_and]
    rfl
theorem pxL_ok : ∀ {s : List Int} {L : List Ax}, (∀ l ∈ s, 0 ≤ l ∧ l ≤ 4096) → (∀ x ∈ L, axB x = true) → rgtL s L = true → (∀ l ∈ ixS s L, 0 < l) → ∀ y ∈ pxL s L, PxOk y
  | [], L, _, _, _, _, y, h => by cases L <;> cases h
  | m :: s, [], _, _, _, _, y, h => by cases h
  | m :: s, x :: r, hs, hx, hr, hp, y, h => by
    unfold rgtL at hr
    rw [Bool.and_eq_true] at hr
    rcases List.mem_cons.1 h with rfl | h
    · have h1 := prod_shp (l := m) (hx x (by simp))
      have h2 : 0 < prodL (shp m x) := prodL_pos (fun l hl => hp l (by rw [ixS]; exact List.mem_append_left _ hl))
      have h3 := hs m (by simp)
      refine ⟨⟨?_, ?_⟩, h3, hr.1⟩
      · show 0 < mny m x
        omega
      · show mny m x ≤ 4096
        unfold mny
        cases ha : x.all with
        | true => exact h3.2
        | false =>
          have h4 := hx x (by simp)
          unfold axB at h4
          rw [ha, Bool.false_or] at h4
          obtain ⟨h5, h6, _⟩ := chkB_iff.1 h4
          have h7 := (shB_iff.1 h5).2.2
          simp only [Bool.false_eq_true, if_false]
          omega
    · exact pxL_ok (fun l hl => hs l (List.mem_cons_of_mem _ hl)) (fun z hz => hx z (List.mem_cons_of_mem _ hz)) hr.2 (fun l hl => hp l (by rw [ixS]; exact List.mem_append_right _ hl)) y h
theorem pxL_e : ∀ {s : List Int} {L : List Ax} {N : Nat}, (∀ x ∈ L, x.a.e.length ≤ N) → ∀ y ∈ pxL s L, y.e.length ≤ N
  | [], L, _, _, y, h => by cases L <;> cases h
  | m :: s, [], _, _, y, h => by cases h
  | m :: s, x :: r, N, hx, y, h => by
    rcases List.mem_cons.1 h with rfl | h
    · exact hx x (by simp)
    · exact pxL_e (fun z hz => hx z (List.mem_cons_of_mem _ hz)) y h
theorem ix_shape {s : List Int} {L : List Ax} (h : shB s = false) : ixE s L = 110 := by unfold ixE; rw [h]; rfl
theorem ix_odd {s : List Int} {L : List Ax} (h : shB s = true) (h2 : L.any (fun x => !axB x) = true) : ixE s L = 110 := by
  unfold ixE
  have : L.all axB = false := by
    rw [Bool.eq_false_iff]
    intro ha
    obtain ⟨x, hx, hx2⟩ := List.any_eq_true.1 h2
    rw [List.all_eq_true.1 ha x hx] at hx2
    cases hx2
  rw [h, this]
  rfl
theorem ix_fine {L : List Ax} (h2 : L.any (fun x => !axB x) = false) : L.all axB = true := by
  rw [List.all_eq_true]
  intro x hx
  have := List.any_eq_false.1 h2 x hx
  simpa using this
theorem ix_pk {s : List Int} {L : List Ax} (h : shB s = true) (h2 : L.all axB = true) (h3 : pkE s L ≠ 0) : ixE s L = pkE s L := by
  unfold ixE pkE at *
  rw [h, h2, if_pos rfl, if_pos rfl]
  by_cases h4 : L.length = s.length
  · rw [if_pos h4, if_pos h4] at *
    by_cases h5 : L.any isCh = true
    · rw [if_pos h5]
      exact if_pos h5
    · rw [if_neg h5] at h3
      exact absurd rfl h3
  · rw [if_neg h4, if_neg h4]
theorem pk_zero {s : List Int} {L : List Ax} (h : pkE s L = 0) : L.length = s.length ∧ L.any isCh = false := by
  unfold pkE at h
  split at h
  · rename_i h1
    split at h
    · cases h
    · rename_i h2
      exact ⟨h1, by simpa using h2⟩
  · cases h
theorem ix_rest {s : List Int} {L : List Ax} (h : shB s = true) (h2 : L.all axB = true) (h3 : pkE s L = 0) : ixE s L = if shB (ixS s L) then (if rgtL s L then 0 else 6) else 9 := by
  obtain ⟨h4, h5⟩ := pk_zero h3
  unfold ixE
  rw [h, h2, if_pos rfl, if_pos rfl, if_pos h4]
  exact if_neg (by unfold isCh at h5; simp [h5])
theorem ixW_err {s : List Int} {L : List Ax} {n : Int} (h : ixE s L = n) (hn : n ≠ 0) : ixW s L = noW n := by
  unfold ixW
  rw [h, if_neg hn]
set_option maxRecDepth 100000 in
theorem ix_fnAt (w : World) (D : Nat → Prop) (b9 base : Nat) (v : Value) (R : List (Px × Value)) (s : List Int) (L : List Ax) (h9 : D b9) (hD : ∀ k, base ≤ k → D k) (hc : w.cell? ⟨b9, 0, none⟩ = some v) (ho : OwnP w base v R) (hR : R.map Prod.fst = pxL s L) (hlen : L.length = s.length) (hsh : shB s = true) (hax : ∀ x ∈ L, axB x = true) (hto : shB (ixS s L) = true) (hr : rgtL s L = true) :
    FnAt w D 70 #[.pointer (some ⟨b9, 0, none⟩)] ((List.range (prodL (ixS s L)).toNat).map (fun (i : Nat) => ((0 : Int), ixP s L i))) := by
  refine ⟨fun _ _ => rfl, fun i x hx w' hO => ?_⟩
  rw [List.getElem?_map, Option.map_eq_some_iff] at hx
  obtain ⟨j, hj, rfl⟩ := hx
  rw [List.getElem?_eq_some_iff] at hj
  obtain ⟨hj1, hj2⟩ := hj
  rw [List.getElem_range] at hj2
  subst hj2
  rw [List.length_range] at hj1
  have hs := shB_iff.1 hsh
  have ht := shB_iff.1 hto
  have hpos : ∀ l ∈ ixS s L, 0 < l := pos_of_prod (fun l hl => (ht.2.1 l hl).1) (by omega)
  have hok := pxL_ok hs.2.1 hax hr hpos
  have ho2 := ho.chg hO (fun k hk h => h (hD k hk))
  have hp := ho2.pxs
  rw [hR] at hp
  have h := ixw3_any b9 i v (pxL s L) w' (hO.cell hc h9) hp (by rw [pxL_length hlen]; exact hs.1) hok (by omega)
  rw [ixR_eq _ _ _ _ (fun y hy => by have := (hok y (List.mem_reverse.1 hy)).1; omega), List.reverse_reverse, ixF_ixP _ hlen hax, Int.zero_add, Int.one_mul] at h
  exact h
set_option maxRecDepth 100000 in
set_option maxHeartbeats 4000000 in
theorem iway_any (u v : Value) (s : List Int) (L : List Ax) (w : World) (hS : Ls w u s) (hL : Axs w v L) (hel : ∀ x ∈ L, x.a.e.length ≤ 1000000) (hLl : L.length ≤ 1000000) : Calls Try.prog 32 #[u, v] w (GaveW w (ixW s L)) := by
  have hod := fun w' (h : Chg (fun _ => False) w w') => odds_ax v L w' (hL.fr h) hLl hel
  have hpk := fun w' (h : Chg (fun _ => False) w w') (h4 : s.length ≤ 4) (ha : ∀ x ∈ L, axB x = true) => picked_any u v s L w' (hS.fr h) (hL.fr h) h4 (fun _ => ha) hel hLl
  obtain ⟨sa, cs, rfl, _⟩ := hS.form
  obtain ⟨la, cl, rfl, _⟩ := hL.form
  have hC0 := (Chg.refl (fun _ => False) w).alloc (.cells #[.slice none 0 0, .nilFunc] 52)
  have z0 := new_cell w #[.slice none 0 0, .nilFunc] 52 (i := 0) (v := .slice none 0 0) rfl
  have z1 := new_cell w #[.slice none 0 0, .nilFunc] 52 (i := 1) (v := .nilFunc) rfl
  have f0 := new_frozen w #[.slice none 0 0, .nilFunc] 52 0
  have f1 := new_frozen w #[.slice none 0 0, .nilFunc] 52 1
  have HC := Lib.hid hC0
  have hcnt := count_any _ s _ (hS.fr hC0)
  unfold GaveC at hcnt
  have HOD := Lib.hid hod
  have HPK := Lib.hid hpk
  have HEL := Lib.hid hel
  clear hC0 hS hL hod hpk hel
  go_enter Try.func32, Try.ntmps32
  go_wp2_with fail
  cases hsh : shB s with
  | false =>
    rw [cntN_not hsh, cntE_not hsh] at hcnt
    have HR := Lib.hid (ixW_err (L := L) (ix_shape hsh) (by decide))
    clear hsh
    refine hcnt.mono ?_
    clear hcnt
    rintro e9 w1 ⟨rfl, hw1⟩
    have hC1 : Chg (fun _ => False) (w.alloc (.cells #[.slice none 0 0, .nilFunc] 52)) w1 := by rw [hw1]; exact Chg.refl _ _
    clear hw1
    replace f0 := hC1.frozen z0 f0 id
    replace f1 := hC1.frozen z1 f1 id
    replace z0 := hC1.cell z0 id
    replace z1 := hC1.cell z1 id
    replace HC := Lib.hid (HC.out.tr hC1)
    clear hC1
    obtain ⟨g0, g1⟩ := mset2 (.slice none 0 0) .nilFunc z0 z1
    go_wp2
    simp [bodyPost, results, Try.results32, go_sem, g0, g1]
    rw [HR.out]
    exact mway_no (by decide) (Nat.le_refl _) HC.out
  | true =>
    rw [cntN_ok hsh, cntE_ok hsh] at hcnt
    have HSH := Lib.hid hsh
    have HS4 := Lib.hid (shB_iff.1 hsh).1
    clear hsh
    refine hcnt.mono ?_
    clear hcnt
    rintro e9 w1 ⟨rfl, hw1⟩
    have hC1 : Chg (fun _ => False) (w.alloc (.cells #[.slice none 0 0, .nilFunc] 52)) w1 := by rw [hw1]; exact Chg.refl _ _
    clear hw1
    replace f0 := hC1.frozen z0 f0 id
    replace f1 := hC1.frozen z1 f1 id
    replace z0 := hC1.cell z0 id
    replace z1 := hC1.cell z1 id
    replace HC := Lib.hid (HC.out.tr hC1)
    clear hC1
    have hod1 := HOD.out _ HC.out
    go_wp2_with fail
    cases hoa : L.any (fun x => !axB x) with
    | true =>
      rw [hoa] at hod1
      have HR := Lib.hid (ixW_err (ix_odd HSH.out hoa) (by decide))
      clear hoa
      refine hod1.mono ?_
      clear hod1
      rintro e9 w2 ⟨rfl, hC2⟩
      replace f0 := hC2.frozen z0 f0 id
      replace f1 := hC2.frozen z1 f1 id
      replace z0 := hC2.cell z0 id
      replace z1 := hC2.cell z1 id
      replace HC := Lib.hid (HC.out.tr hC2)
      clear hC2
      obtain ⟨g0, g1⟩ := mset2 (.slice none 0 0) .nilFunc z0 z1
      go_wp2
      simp [bodyPost, results, Try.results32, go_sem, g0, g1]
      rw [HR.out]
      exact mway_no (by decide) (Nat.le_refl _) HC.out
    | false =>
      rw [hoa] at hod1
      have HAL := Lib.hid (ix_fine hoa)
      have HAX := Lib.hid (List.all_eq_true.1 HAL.out)
      clear hoa
      refine hod1.mono ?_
      clear hod1
      rintro e9 w2 ⟨rfl, hC2⟩
      replace f0 := hC2.frozen z0 f0 id
      replace f1 := hC2.frozen z1 f1 id
      replace z0 := hC2.cell z0 id
      replace z1 := hC2.cell z1 id
      replace HC := Lib.hid (HC.out.tr hC2)
      clear hC2
      have hpk1 := HPK.out _ HC.out HS4.out HAX.out
      unfold GavePk at hpk1
      go_wp2_with fail
      by_cases hz : pkE s L = 0
      · have HZ := Lib.hid hz
        obtain ⟨hlen, _⟩ := pk_zero hz
        have HLEN := Lib.hid hlen
        rw [hz] at hpk1
        clear hz hlen
        refine hpk1.mono ?_
        clear hpk1
        rintro e9 w3 ⟨v4, v5, rfl, hg, _, hC3⟩
        obtain ⟨⟨R, hR, ho4⟩, ho5⟩ := hg rfl
        clear hg
        obtain ⟨a4, l4, c4, rfl, hl4⟩ := owns_name ho4.row
        obtain ⟨a5, l5, c5, rfl, hl5⟩ := owns_name (show World.ownsRow _ _ _ _ _ _ _ from ho5)
        have HB := Lib.hid (show w.heap.size + 1 ≤ w2.heap.size from cell_lt z0)
        replace f0 := hC3.frozen z0 f0 id
        replace f1 := hC3.frozen z1 f1 id
        replace z0 := hC3.cell z0 id
        replace z1 := hC3.cell z1 id
        replace HC := Lib.hid (HC.out.tr hC3)
        have h9 := new_cell w3 #[.slice a4 l4 c4] 97 (i := 0) (v := .slice a4 l4 c4) rfl
        have hC4 := (Chg.refl (fun _ => False) w3).alloc (.cells #[.slice a4 l4 c4] 97)
        obtain ⟨w4, hw4⟩ : ∃ x, w3.alloc (.cells #[.slice a4 l4 c4] 97) = x := ⟨_, rfl⟩
        rw [hw4] at h9 hC4
        have HO4 := Lib.hid (ho4.fr hC4)
        have HO5 := Lib.hid (ho5.fr hC4)
        have HRR := Lib.hid hR
        have HW4 := Lib.hid hw4
        have HB3 := Lib.hid hC3.size
        have HZ3 := Lib.hid (show w.heap.size < w3.heap.size from cell_lt z0)
        have hcn := count_any _ (ixS s L) w4 HO5.out.ls
        unfold GaveC at hcn
        clear hR ho4 ho5 hC3 hw4 hl4 hl5
        go_wp2_with fail
        rw [HW4.out]
        replace f0 := hC4.frozen z0 f0 id
        replace f1 := hC4.frozen z1 f1 id
        replace z0 := hC4.cell z0 id
        replace z1 := hC4.cell z1 id
        replace HC := Lib.hid (HC.out.tr hC4)
        have HH9 := Lib.hid h9
        have HC4 := Lib.hid hC4
        clear hC4
        cases hsh2 : shB (ixS s L) with
        | false =>
          rw [cntN_not hsh2, cntE_not hsh2] at hcn
          have HR := Lib.hid (ixW_err (n := 9) (by rw [ix_rest HSH.out HAL.out HZ.out, hsh2]; rfl) (by decide))
          clear hsh2
          refine hcn.mono ?_
          clear hcn
          rintro e9 w5 ⟨rfl, rfl⟩
          obtain ⟨g0, g1⟩ := mset2 (.slice none 0 0) .nilFunc z0 z1
          go_wp2
          simp [bodyPost, results, Try.results32, go_sem, g0, g1]
          rw [HR.out]
          exact mway_no (by decide) (Nat.le_refl _) HC.out
        | true =>
          rw [cntN_ok hsh2, cntE_ok hsh2] at hcn
          have HSH2 := Lib.hid hsh2
          clear hsh2
          refine hcn.mono ?_
          clear hcn
          rintro e9 w5 ⟨rfl, rfl⟩
          have hpx := HO4.out.pxs
          rw [HRR.out] at hpx
          have hwr := wrongs_px _ (pxL s L) w5 hpx (by rw [pxL_length HLEN.out]; have := HS4.out; omega) (pxL_e HEL.out)
          rw [rgt_any HLEN.out] at hwr
          clear hpx
          go_wp2_with fail
          cases hrg : rgtL s L with
          | false =>
            rw [hrg] at hwr
            have HR := Lib.hid (ixW_err (n := 6) (by rw [ix_rest HSH.out HAL.out HZ.out, HSH2.out, hrg]; rfl) (by decide))
            clear hrg
            refine hwr.mono ?_
            clear hwr
            rintro e9 w6 ⟨rfl, hC6⟩
            replace f0 := hC6.frozen z0 f0 id
            replace f1 := hC6.frozen z1 f1 id
            replace z0 := hC6.cell z0 id
            replace z1 := hC6.cell z1 id
            replace HC := Lib.hid (HC.out.tr hC6)
            clear hC6 h9
            obtain ⟨g0, g1⟩ := mset2 (.slice none 0 0) .nilFunc z0 z1
            go_wp2
            simp [bodyPost, results, Try.results32, go_sem, g0, g1]
            rw [HR.out]
            exact mway_no (by decide) (Nat.le_refl _) HC.out
          | true =>
            rw [hrg] at hwr
            have HRG := Lib.hid hrg
            have HE := Lib.hid (show ixE s L = 0 by rw [ix_rest HSH.out HAL.out HZ.out, HSH2.out, hrg]; rfl)
            clear hrg
            refine hwr.mono ?_
            clear hwr
            rintro e9 w6 ⟨rfl, hC6⟩
            replace f0 := hC6.frozen z0 f0 id
            replace f1 := hC6.frozen z1 f1 id
            replace z0 := hC6.cell z0 id
            replace z1 := hC6.cell z1 id
            replace HC := Lib.hid (HC.out.tr hC6)
            replace h9 := hC6.cell h9 id
            have HR := Lib.hid (show ixW s L = ⟨ixS s L, (List.range (prodL (ixS s L)).toNat).map (fun (i : Nat) => (0, ixP s L i)), 0⟩ by unfold ixW; rw [if_pos HE.out])
            have HFN := Lib.hid (ix_fnAt w6 (fun k => w.heap.size < k) w3.heap.size w2.heap.size _ R s L HZ3.out (fun k hk => by have := HB.out; omega) h9 (HO4.out.fr hC6) HRR.out HLEN.out HSH.out HAX.out HSH2.out HRG.out)
            have HO56 := Lib.hid (HO5.out.fr hC6)
            obtain ⟨g0, g1⟩ := mset2 (.slice a5 l5 c5) (.func (.func 70) #[] #[.pointer (some ⟨w3.heap.size, 0, none⟩)]) z0 z1
            clear hC6 h9
            go_wp2
            simp [bodyPost, results, Try.results32, go_sem, g0, g1]
            rw [HR.out]
            exact mway_store (D3 := fun k => w.heap.size < k) (x := w.heap.size) (.inl ⟨rfl, _, _, _, rfl, HO56.out.ls, fun q hq => by have h1 := (HO56.out.lt q hq).1; have h2 := HB.out; omega, HFN.out⟩) (fun k hk => .inr (Nat.le_of_lt hk)) (Nat.le_refl _) (Nat.le_refl _) (fun h => Nat.lt_irrefl _ h) HC.out rfl
      · have HR := Lib.hid (ixW_err (ix_pk HSH.out HAL.out hz) hz)
        have HN := Lib.hid hz
        have b1 : (pkE s L != 0) = true := bne_iff_ne.2 hz
        generalize pkE s L = N at *
        clear hz
        refine hpk1.mono ?_
        clear hpk1
        rintro e9 w3 ⟨v4, v5, rfl, _, hg, hC3⟩
        obtain ⟨rfl, rfl⟩ := hg HN.out
        replace f0 := hC3.frozen z0 f0 id
        replace f1 := hC3.frozen z1 f1 id
        replace z0 := hC3.cell z0 id
        replace z1 := hC3.cell z1 id
        replace HC := Lib.hid (HC.out.tr hC3)
        have hz3 : w.heap.size < w3.heap.size := cell_lt z0
        obtain ⟨g0, g1⟩ := mset2 (.slice none 0 0) .nilFunc z0 z1
        replace g0 := alloc_cell g0 (.cells #[.slice none 0 0] 97)
        replace g1 := alloc_cell g1 (.cells #[.slice none 0 0] 97)
        clear hg hC3
        go_wp2
        simp [bodyPost, results, Try.results32, go_sem, g0, g1]
        rw [HR.out]
        obtain ⟨v9, D9, e9, h9, h10, h11⟩ := mway_no (D0 := fun _ => False) (w := w) (rb := w.heap.size) (n := N) HN.out (Nat.le_refl _) HC.out
        exact ⟨v9, D9, e9, h9.fr ((Chg.refl _ _).alloc _), h10, h11.alloc _⟩
end Go.Proofs.Ytnjnajbdpaaikaa
