/- turn: RotateWay, walked. -/
import Derived.Test.YtmmbdhfljabefaaTrH
import Derived.Test.YtmmbdhfljabefaaArK
namespace Go.Proofs.Ytmmbdhfljabefaa
open Go.RowKit Go.Shelf

theorem sizeOf_int (w : World) : (sizeOf 3).run Try.prog w = .ok 1 w := by kernel_rfl
theorem Ls.slice {w : World} {v : Value} {xs : List Int} (h : Ls w v xs) (hi : Nat) (h2 : hi ≤ xs.length) : ∃ ao c, Ls w (.slice ao hi c) (xs.take hi) ∧ (∀ W, (Instr.slice 22 v none (some (.int .i64 hi)) none).run Try.prog W = .ok (.slice ao hi c) W) := by
  obtain ⟨ao, c, hS, _, _, _, h5⟩ := Sl.slice (P := Try.prog) 22 3 Try.underlying22 sizeOf_int h 0 hi (Nat.zero_le _) (by rw [List.length_map]; exact h2)
  refine ⟨ao, c, ?_, h5 rfl⟩
  unfold Ls
  rw [List.map_take]
  exact hS
theorem chg_alloc' {w w' : World} {o : Obj} (h : Chg (fun _ => False) w w') : Chg (fun _ => False) w (w'.alloc o) := h.alloc o
theorem chg_drew' {w w' : World} (h : Chg (fun _ => False) w w') : Chg (fun _ => False) w w'.drew := h.drew
set_option maxRecDepth 100000 in
set_option maxHeartbeats 20000000 in
theorem rotway_any (u v : Value) (L : Ar) (s : List Int) (w : World) (hL : Ara w u L) (hS : Ls w v s) (hsl : s.length ≤ 1000000) (hle : L.e.length ≤ 1000000) (hls : L.s.length ≤ 1000000) : Calls Try.prog 16 #[u, v] w (GaveW w (rotW L s)) := by
  obtain ⟨k, t, e⟩ := L
  obtain ⟨vt, ve, hv, ht, he⟩ := hL
  simp only at hv ht he hle hls
  subst hv
  obtain ⟨ta, ct, rfl, _⟩ := ht.form
  obtain ⟨ae, ce, rfl, _⟩ := he.form
  obtain ⟨ao, c, rfl, _⟩ := hS.form
  have hC0 := ((Chg.refl (fun _ => False) w).alloc (.cells #[.int .i64 k, .slice ta t.length ct, .slice ae e.length ce] 25)).alloc (.cells #[.slice none 0 0, .nilFunc] 31)
  obtain ⟨y0, y1, y2⟩ := cell_two w (.int .i64 k) (.slice ta t.length ct) (.slice ae e.length ce) 25
  replace y0 := alloc_cell y0 (.cells #[.slice none 0 0, .nilFunc] 31)
  replace y1 := alloc_cell y1 (.cells #[.slice none 0 0, .nilFunc] 31)
  replace y2 := alloc_cell y2 (.cells #[.slice none 0 0, .nilFunc] 31)
  have z0 := new_cell (w.alloc (.cells #[.int .i64 k, .slice ta t.length ct, .slice ae e.length ce] 25)) #[.slice none 0 0, .nilFunc] 31 (i := 0) rfl
  have z1 := new_cell (w.alloc (.cells #[.int .i64 k, .slice ta t.length ct, .slice ae e.length ce] 25)) #[.slice none 0 0, .nilFunc] 31 (i := 1) rfl
  have f0 := new_frozen (w.alloc (.cells #[.int .i64 k, .slice ta t.length ct, .slice ae e.length ce] 25)) #[.slice none 0 0, .nilFunc] 31 0
  have f1 := new_frozen (w.alloc (.cells #[.int .i64 k, .slice ta t.length ct, .slice ae e.length ce] 25)) #[.slice none 0 0, .nilFunc] 31 1
  simp only [World.size_alloc] at z0 z1 f0 f1
  have hse := seen_any _ s _ (hS.fr hC0) hsl
  unfold GaveSeen at hse
  have hck := fun w' (h : Chg (fun _ => False) w w') => check_any _ ⟨k, t, e⟩ w' (Ara.mk (k := k) (ht.fr h) (he.fr h)) hle
  have HT := Lib.hid ht
  have HE := Lib.hid he
  have HS := Lib.hid hS
  have HCK := Lib.hid hck
  clear ht he hS hck
  cases hsh : shB s with
  | false =>
    rw [cntE_not hsh] at hse
    have HR := Lib.hid (rotW_no (L := ⟨k, t, e⟩) (s := s) (n := 110) (by unfold rotE; rw [hsh]; rfl) (by decide))
    clear hsh
    go_enter Try.func16, Try.ntmps16
    go_wp2_with fail
    refine hse.mono ?_
    clear hse
    rintro e9 w1 ⟨v1, rfl, ho1, hC1⟩
    obtain ⟨a1, c1, rfl⟩ := own_name ho1
    have HO1 := Lib.hid (show ∀ w', Chg (fun _ => False) w1 w' → Ls w' (.slice a1 s.length c1) s from fun _ h => ho1.ls.fr h)
    have HN1 := Lib.hid (show ∀ q, Blk (.slice a1 s.length c1) q → w.heap.size + 1 < q from fun q hq => by have := (ho1.lt q hq).1; simp at this; omega)
    have hsz : w.heap.size + 1 < w1.heap.size := cell_lt (hC1.cell z0 id)
    have hC2 := hC1.alloc (.cells #[.slice a1 s.length c1] 69)
    have hC02 := hC0.tr hC2
    have yv := new_cell w1 #[.slice a1 s.length c1] 69 (i := 0) rfl
    have zz0 := hC1.cell z0 id
    have zz1 := hC1.cell z1 id
    have ff0 := hC1.frozen z0 f0 id
    have ff1 := hC1.frozen z1 f1 id
    replace f0 := hC2.frozen z0 f0 id
    replace f1 := hC2.frozen z1 f1 id
    replace z0 := hC2.cell z0 id
    replace z1 := hC2.cell z1 id
    replace y0 := hC2.cell y0 id
    replace y1 := hC2.cell y1 id
    replace y2 := hC2.cell y2 id
    have HC := Lib.hid (hC0.tr hC1)
    obtain ⟨g0, g1⟩ := set2_cells (.slice none 0 0) .nilFunc zz0 zz1
    replace g0 := alloc_cell g0 (.cells #[.slice a1 s.length c1] 69)
    replace g1 := alloc_cell g1 (.cells #[.slice a1 s.length c1] 69)
    clear hC1 hC2 hC0 hC02 ho1 z0 z1 f0 f1 y0 y1 y2
    go_wp2
    simp [bodyPost, results, Try.results16, go_sem, g0, g1]
    rw [HR.out]
    exact ⟨_, fun _ => False, rfl, .inr ⟨by decide, rfl, rfl, rfl⟩, fun _ h => h.elim, ((HC.out.setCell (p := ⟨w.heap.size + 1, 0, none⟩) (.inr (Nat.le_succ _)) _).setCell (p := ⟨w.heap.size + 1, 1, none⟩) (.inr (Nat.le_succ _)) _).alloc _⟩
  | true =>
    rw [cntE_ok hsh] at hse
    cases hcb : chkB ⟨k, t, e⟩ with
    | false =>
      have HCE := Lib.hid (show chkE ⟨k, t, e⟩ = 110 by unfold chkE; rw [hcb]; rfl)
      have HR := Lib.hid (rotW_no (L := ⟨k, t, e⟩) (s := s) (n := 110) (by unfold rotE; rw [hsh, hcb]; rfl) (by decide))
      clear hsh hcb
      go_enter Try.func16, Try.ntmps16
      go_wp2_with fail
      refine hse.mono ?_
      clear hse
      rintro e9 w1 ⟨v1, rfl, ho1, hC1⟩
      obtain ⟨a1, c1, rfl⟩ := own_name ho1
      have HO1 := Lib.hid (show ∀ w', Chg (fun _ => False) w1 w' → Ls w' (.slice a1 s.length c1) s from fun _ h => ho1.ls.fr h)
      have HN1 := Lib.hid (show ∀ q, Blk (.slice a1 s.length c1) q → w.heap.size + 1 < q from fun q hq => by have := (ho1.lt q hq).1; simp at this; omega)
      have hsz : w.heap.size + 1 < w1.heap.size := cell_lt (hC1.cell z0 id)
      have hC2 := hC1.alloc (.cells #[.slice a1 s.length c1] 69)
      have hC02 := hC0.tr hC2
      have yv := new_cell w1 #[.slice a1 s.length c1] 69 (i := 0) rfl
      have zz0 := hC1.cell z0 id
      have zz1 := hC1.cell z1 id
      have ff0 := hC1.frozen z0 f0 id
      have ff1 := hC1.frozen z1 f1 id
      replace f0 := hC2.frozen z0 f0 id
      replace f1 := hC2.frozen z1 f1 id
      replace z0 := hC2.cell z0 id
      replace z1 := hC2.cell z1 id
      replace y0 := hC2.cell y0 id
      replace y1 := hC2.cell y1 id
      replace y2 := hC2.cell y2 id
      have hck1 := HCK.out _ hC02
      rw [HCE.out] at hck1
      go_wp2_with fail
      refine hck1.mono ?_
      clear hck1
      rintro e9 w3 ⟨rfl, hC3⟩
      have hC03 := hC02.tr hC3
      have HC13 := Lib.hid (((Chg.refl (fun _ => False) w1).alloc (.cells #[.slice a1 s.length c1] 69)).tr hC3)
      replace f0 := hC3.frozen z0 f0 id
      replace f1 := hC3.frozen z1 f1 id
      replace z0 := hC3.cell z0 id
      replace z1 := hC3.cell z1 id
      replace y0 := hC3.cell y0 id
      replace y1 := hC3.cell y1 id
      replace y2 := hC3.cell y2 id
      replace yv := hC3.cell yv id
      clear zz0 zz1 ff0 ff1
      have HC := Lib.hid hC03
      clear hC1 hC2 hC0 hC02 ho1 hC3 hC03
      obtain ⟨g0, g1⟩ := set2_cells (.slice none 0 0) .nilFunc z0 z1
      skip
      go_wp2
      simp [bodyPost, results, Try.results16, go_sem, g0, g1]
      rw [HR.out]
      exact way_no (by decide) (Nat.le_succ _) HC.out
    | true =>
      have HCE := Lib.hid (show chkE ⟨k, t, e⟩ = 0 by unfold chkE; rw [hcb]; rfl)
      have hrE : rotE ⟨k, t, e⟩ s = (if t ≠ [] ∧ (t.length : Int) ≠ (s.length : Int) - 1 then 3 else if t ≠ [] ∧ t ≠ s.take (s.length - 1) then 4 else if k = 2 then 5 else 0) := by unfold rotE; rw [hsh, hcb]; rfl
      have hs4 := (shB_iff.1 hsh).1
      have hsw : IntKind.i64.wrap ((s.length : Int) - 1) = (s.length : Int) - 1 := IntWalk.i64_in _ (by omega)
      by_cases h3 : t ≠ [] ∧ (t.length : Int) ≠ (s.length : Int) - 1
      · have HR := Lib.hid (rotW_no (L := ⟨k, t, e⟩) (s := s) (n := 3) (by rw [hrE, if_pos h3]) (by decide))
        have ht0 : 0 < t.length := List.length_pos_iff.2 h3.1
        have ht1 : (0 : Int) < (t.length : Int) := by omega
        have b3 : ((t.length : Int) != (s.length : Int) - 1) = true := bne_iff_ne.2 h3.2
        clear hsh hcb hrE h3
        go_enter Try.func16, Try.ntmps16
        go_wp2_with fail
        refine hse.mono ?_
        clear hse
        rintro e9 w1 ⟨v1, rfl, ho1, hC1⟩
        obtain ⟨a1, c1, rfl⟩ := own_name ho1
        have HO1 := Lib.hid (show ∀ w', Chg (fun _ => False) w1 w' → Ls w' (.slice a1 s.length c1) s from fun _ h => ho1.ls.fr h)
        have HN1 := Lib.hid (show ∀ q, Blk (.slice a1 s.length c1) q → w.heap.size + 1 < q from fun q hq => by have := (ho1.lt q hq).1; simp at this; omega)
        have hsz : w.heap.size + 1 < w1.heap.size := cell_lt (hC1.cell z0 id)
        have hC2 := hC1.alloc (.cells #[.slice a1 s.length c1] 69)
        have hC02 := hC0.tr hC2
        have yv := new_cell w1 #[.slice a1 s.length c1] 69 (i := 0) rfl
        have zz0 := hC1.cell z0 id
        have zz1 := hC1.cell z1 id
        have ff0 := hC1.frozen z0 f0 id
        have ff1 := hC1.frozen z1 f1 id
        replace f0 := hC2.frozen z0 f0 id
        replace f1 := hC2.frozen z1 f1 id
        replace z0 := hC2.cell z0 id
        replace z1 := hC2.cell z1 id
        replace y0 := hC2.cell y0 id
        replace y1 := hC2.cell y1 id
        replace y2 := hC2.cell y2 id
        have hck1 := HCK.out _ hC02
        rw [HCE.out] at hck1
        go_wp2_with fail
        refine hck1.mono ?_
        clear hck1
        rintro e9 w3 ⟨rfl, hC3⟩
        have hC03 := hC02.tr hC3
        have HC13 := Lib.hid (((Chg.refl (fun _ => False) w1).alloc (.cells #[.slice a1 s.length c1] 69)).tr hC3)
        replace f0 := hC3.frozen z0 f0 id
        replace f1 := hC3.frozen z1 f1 id
        replace z0 := hC3.cell z0 id
        replace z1 := hC3.cell z1 id
        replace y0 := hC3.cell y0 id
        replace y1 := hC3.cell y1 id
        replace y2 := hC3.cell y2 id
        replace yv := hC3.cell yv id
        clear zz0 zz1 ff0 ff1
        have HC := Lib.hid hC03
        clear hC1 hC2 hC0 hC02 ho1 hC3 hC03
        obtain ⟨g0, g1⟩ := set2_cells (.slice none 0 0) .nilFunc z0 z1
        skip
        go_wp2
        simp [bodyPost, results, Try.results16, go_sem, g0, g1]
        rw [HR.out]
        exact way_no (by decide) (Nat.le_succ _) HC.out
      · rw [if_neg h3] at hrE
        by_cases h4 : t ≠ [] ∧ t ≠ s.take (s.length - 1)
        · have HR := Lib.hid (rotW_no (L := ⟨k, t, e⟩) (s := s) (n := 4) (by rw [hrE, if_pos h4]) (by decide))
          have ht0 : 0 < t.length := List.length_pos_iff.2 h4.1
          have ht1 : (0 : Int) < (t.length : Int) := by omega
          have ht2 : (t.length : Int) = (s.length : Int) - 1 := by
            by_cases h : (t.length : Int) = (s.length : Int) - 1
            · exact h
            · exact absurd ⟨h4.1, h⟩ h3
          have b3 : ((t.length : Int) != (s.length : Int) - 1) = false := bne_eq_false_iff_eq.2 ht2
          have b4 : decide (t = s.take (s.length - 1)) = false := decide_eq_false h4.2
          have hs1 : 0 < s.length := by omega
          clear hsh hcb hrE h3 h4 ht2
          go_enter Try.func16, Try.ntmps16
          go_wp2_with fail
          refine hse.mono ?_
          clear hse
          rintro e9 w1 ⟨v1, rfl, ho1, hC1⟩
          obtain ⟨a1, c1, rfl⟩ := own_name ho1
          have HO1 := Lib.hid (show ∀ w', Chg (fun _ => False) w1 w' → Ls w' (.slice a1 s.length c1) s from fun _ h => ho1.ls.fr h)
          have HN1 := Lib.hid (show ∀ q, Blk (.slice a1 s.length c1) q → w.heap.size + 1 < q from fun q hq => by have := (ho1.lt q hq).1; simp at this; omega)
          have hsz : w.heap.size + 1 < w1.heap.size := cell_lt (hC1.cell z0 id)
          have hC2 := hC1.alloc (.cells #[.slice a1 s.length c1] 69)
          have hC02 := hC0.tr hC2
          have yv := new_cell w1 #[.slice a1 s.length c1] 69 (i := 0) rfl
          have zz0 := hC1.cell z0 id
          have zz1 := hC1.cell z1 id
          have ff0 := hC1.frozen z0 f0 id
          have ff1 := hC1.frozen z1 f1 id
          replace f0 := hC2.frozen z0 f0 id
          replace f1 := hC2.frozen z1 f1 id
          replace z0 := hC2.cell z0 id
          replace z1 := hC2.cell z1 id
          replace y0 := hC2.cell y0 id
          replace y1 := hC2.cell y1 id
          replace y2 := hC2.cell y2 id
          have hck1 := HCK.out _ hC02
          rw [HCE.out] at hck1
          go_wp2_with fail
          refine hck1.mono ?_
          clear hck1
          rintro e9 w3 ⟨rfl, hC3⟩
          have hC03 := hC02.tr hC3
          have HC13 := Lib.hid (((Chg.refl (fun _ => False) w1).alloc (.cells #[.slice a1 s.length c1] 69)).tr hC3)
          replace f0 := hC3.frozen z0 f0 id
          replace f1 := hC3.frozen z1 f1 id
          replace z0 := hC3.cell z0 id
          replace z1 := hC3.cell z1 id
          replace y0 := hC3.cell y0 id
          replace y1 := hC3.cell y1 id
          replace y2 := hC3.cell y2 id
          replace yv := hC3.cell yv id
          clear zz0 zz1 ff0 ff1
          obtain ⟨jj, hjj⟩ : ∃ jj, s.length - 1 = jj := ⟨_, rfl⟩
          have hsw2 : (s.length : Int) - 1 = (jj : Int) := by omega
          obtain ⟨ax, cx, hxl, hxr⟩ := (HS.out.fr hC03).slice jj (by omega)
          have heq := fun w' (h : Chg (fun _ => False) w3 w') => equalI_any _ _ t (s.take jj) w' ((HT.out.fr hC03).fr h) (hxl.fr h) (by omega)
          rw [hjj] at b4
          rw [b4] at heq
          rw [hsw2] at b3
          replace hsw := hsw.trans hsw2
          have HEQ := Lib.hid heq
          have HC := Lib.hid hC03
          have KP := Lib.hid (show ∀ w', Chg (fun _ => False) w3 w' → (Chg (fun _ => False) w3 w' ∧ w'.cell? ⟨w.heap.size, 1, none⟩ = some (.slice ta t.length ct)) from fun w' h => ⟨h, h.cell y1 id⟩)
          have heq1 := heq _ ((Chg.refl _ _).drew)
          clear hC1 hC2 hC0 hC02 ho1 hC3 hC03 heq hxl hjj hsw2 b4
          go_wp2_with fail
          go_region_held3 (fun w' => Chg (fun _ => False) w3 w' ∧ w'.cell? ⟨w.heap.size, 1, none⟩ = some (.slice ta t.length ct)) (first | exact KP.out _ ((Chg.refl _ _).drew) | exact KP.out _ (((Chg.refl _ _).drew).tr hC4)) ((go_at_call 49; (with_reducible refine heq1.mono ?_); rintro e9 w4 ⟨rfl, hC4⟩; have f0 := hC4.frozen z0 f0 id; have f1 := hC4.frozen z1 f1 id; have y0 := hC4.cell y0 id; have y1 := hC4.cell y1 id; have y2 := hC4.cell y2 id; have yv := hC4.cell yv id; have z0 := hC4.cell z0 id; have z1 := hC4.cell z1 id))
          all_goals
            obtain ⟨g0, g1⟩ := set2_cells (.slice none 0 0) .nilFunc z0 z1
            go_wp2
            simp [bodyPost, results, Try.results16, go_sem, g0, g1]
            rw [HR.out]
            exact way_no (by decide) (Nat.le_succ _) (HC.out.tr (((Chg.refl _ w3).drew).tr hC4))
        · rw [if_neg h4] at hrE
          have hH := rot_has hsh hcb
          by_cases ht0 : t = []
          · have b5 : ((t.length : Int) == 0) = true := by rw [ht0]; rfl
            have ht1 : ¬ 0 < t.length := by rw [ht0]; simp
            have ht2 : ¬ (0 : Int) < (t.length : Int) := by omega
            have ht3 : decide ((0 : Int) < (t.length : Int)) = false := decide_eq_false ht2
            have ht4 : decide (0 < t.length) = false := decide_eq_false ht1
            have HT0 := Lib.hid ht0
            by_cases hk2 : k = 2
            · have HR := Lib.hid (rotW_no (L := ⟨k, t, e⟩) (s := s) (n := 5) (by rw [hrE, if_pos hk2]) (by decide))
              have b6 : (k == 2) = true := beq_iff_eq.2 hk2
              clear hsh hcb hrE h3 h4 hH ht0 hk2
              go_enter Try.func16, Try.ntmps16
              go_wp2_with fail
              refine hse.mono ?_
              clear hse
              rintro e9 w1 ⟨v1, rfl, ho1, hC1⟩
              obtain ⟨a1, c1, rfl⟩ := own_name ho1
              have HO1 := Lib.hid (show ∀ w', Chg (fun _ => False) w1 w' → Ls w' (.slice a1 s.length c1) s from fun _ h => ho1.ls.fr h)
              have HN1 := Lib.hid (show ∀ q, Blk (.slice a1 s.length c1) q → w.heap.size + 1 < q from fun q hq => by have := (ho1.lt q hq).1; simp at this; omega)
              have hsz : w.heap.size + 1 < w1.heap.size := cell_lt (hC1.cell z0 id)
              have hC2 := hC1.alloc (.cells #[.slice a1 s.length c1] 69)
              have hC02 := hC0.tr hC2
              have yv := new_cell w1 #[.slice a1 s.length c1] 69 (i := 0) rfl
              have zz0 := hC1.cell z0 id
              have zz1 := hC1.cell z1 id
              have ff0 := hC1.frozen z0 f0 id
              have ff1 := hC1.frozen z1 f1 id
              replace f0 := hC2.frozen z0 f0 id
              replace f1 := hC2.frozen z1 f1 id
              replace z0 := hC2.cell z0 id
              replace z1 := hC2.cell z1 id
              replace y0 := hC2.cell y0 id
              replace y1 := hC2.cell y1 id
              replace y2 := hC2.cell y2 id
              have hck1 := HCK.out _ hC02
              rw [HCE.out] at hck1
              go_wp2_with fail
              refine hck1.mono ?_
              clear hck1
              rintro e9 w3 ⟨rfl, hC3⟩
              have hC03 := hC02.tr hC3
              have HC13 := Lib.hid (((Chg.refl (fun _ => False) w1).alloc (.cells #[.slice a1 s.length c1] 69)).tr hC3)
              replace f0 := hC3.frozen z0 f0 id
              replace f1 := hC3.frozen z1 f1 id
              replace z0 := hC3.cell z0 id
              replace z1 := hC3.cell z1 id
              replace y0 := hC3.cell y0 id
              replace y1 := hC3.cell y1 id
              replace y2 := hC3.cell y2 id
              replace yv := hC3.cell yv id
              clear zz0 zz1 ff0 ff1
              have HC := Lib.hid hC03
              clear hC1 hC2 hC0 hC02 ho1 hC3 hC03
              go_wp2_with fail
              go_quiet (fail)
              obtain ⟨w4, hw4⟩ : ∃ w4, w3.drewN nq = w4 := ⟨_, rfl⟩
              have hC4 : Chg (fun _ => False) w3 w4 := by rw [← hw4]; exact (Chg.refl _ _).drewN _
              rw [hw4]
              clear hw4
              replace f0 := hC4.frozen z0 f0 id
              replace f1 := hC4.frozen z1 f1 id
              replace z0 := hC4.cell z0 id
              replace z1 := hC4.cell z1 id
              replace y0 := hC4.cell y0 id
              replace y1 := hC4.cell y1 id
              replace y2 := hC4.cell y2 id
              replace yv := hC4.cell yv id
              obtain ⟨g0, g1⟩ := set2_cells (.slice none 0 0) .nilFunc z0 z1
              go_wp2
              simp [bodyPost, results, Try.results16, go_sem, g0, g1]
              rw [HR.out]
              exact way_no (by decide) (Nat.le_succ _) (HC.out.tr hC4)
            · have b6 : (k == 2) = false := beq_eq_false_iff_ne.2 hk2
              have hE0 : rotE ⟨k, t, e⟩ s = 0 := by rw [hrE, if_neg hk2]
              have HR := Lib.hid (show rotW ⟨k, t, e⟩ s = ⟨s, alongG s (rotF ⟨k, t, e⟩ s), 0⟩ from if_pos hE0)
              have HH := Lib.hid (hH hE0)
              have HSH := Lib.hid hsh
              have HT1 := Lib.hid (show ∀ (m : Int) (i : Nat), (if t = [] then 0 else (i : Int) / m) = if true then 0 else (i : Int) / m from fun m i => by rw [if_pos HT0.out]; rfl)
              clear hsh hcb hrE h3 h4 hH ht0 hk2 hE0
              go_enter Try.func16, Try.ntmps16
              go_wp2_with fail
              refine hse.mono ?_
              clear hse
              rintro e9 w1 ⟨v1, rfl, ho1, hC1⟩
              obtain ⟨a1, c1, rfl⟩ := own_name ho1
              have HO1 := Lib.hid (show ∀ w', Chg (fun _ => False) w1 w' → Ls w' (.slice a1 s.length c1) s from fun _ h => ho1.ls.fr h)
              have HN1 := Lib.hid (show ∀ q, Blk (.slice a1 s.length c1) q → w.heap.size + 1 < q from fun q hq => by have := (ho1.lt q hq).1; simp at this; omega)
              have hsz : w.heap.size + 1 < w1.heap.size := cell_lt (hC1.cell z0 id)
              have hC2 := hC1.alloc (.cells #[.slice a1 s.length c1] 69)
              have hC02 := hC0.tr hC2
              have yv := new_cell w1 #[.slice a1 s.length c1] 69 (i := 0) rfl
              have zz0 := hC1.cell z0 id
              have zz1 := hC1.cell z1 id
              have ff0 := hC1.frozen z0 f0 id
              have ff1 := hC1.frozen z1 f1 id
              replace f0 := hC2.frozen z0 f0 id
              replace f1 := hC2.frozen z1 f1 id
              replace z0 := hC2.cell z0 id
              replace z1 := hC2.cell z1 id
              replace y0 := hC2.cell y0 id
              replace y1 := hC2.cell y1 id
              replace y2 := hC2.cell y2 id
              have hck1 := HCK.out _ hC02
              rw [HCE.out] at hck1
              go_wp2_with fail
              refine hck1.mono ?_
              clear hck1
              rintro e9 w3 ⟨rfl, hC3⟩
              have hC03 := hC02.tr hC3
              have HC13 := Lib.hid (((Chg.refl (fun _ => False) w1).alloc (.cells #[.slice a1 s.length c1] 69)).tr hC3)
              replace f0 := hC3.frozen z0 f0 id
              replace f1 := hC3.frozen z1 f1 id
              replace z0 := hC3.cell z0 id
              replace z1 := hC3.cell z1 id
              replace y0 := hC3.cell y0 id
              replace y1 := hC3.cell y1 id
              replace y2 := hC3.cell y2 id
              replace yv := hC3.cell yv id
              clear zz0 zz1 ff0 ff1
              have HC := Lib.hid hC03
              clear hC1 hC2 hC0 hC02 ho1 hC3 hC03
              go_wp2_with fail
              go_quiet (fail)
              obtain ⟨w4, hw4⟩ : ∃ w4, w3.drewN nq = w4 := ⟨_, rfl⟩
              have hC4 : Chg (fun _ => False) w3 w4 := by rw [← hw4]; exact (Chg.refl _ _).drewN _
              rw [hw4]
              clear hw4
              replace f0 := hC4.frozen z0 f0 id
              replace f1 := hC4.frozen z1 f1 id
              replace z0 := hC4.cell z0 id
              replace z1 := hC4.cell z1 id
              replace y0 := hC4.cell y0 id
              replace y1 := hC4.cell y1 id
              replace y2 := hC4.cell y2 id
              replace yv := hC4.cell yv id
              have hcl := fun w' (h : Chg (fun _ => False) w4 w') => cloneL_any _ e w' ((HE.out.fr (HC.out.tr hC4)).fr h) hle
              have HCL := Lib.hid hcl
              clear hcl
              go_wp2_with fail
              go_cut [8, 9] (fun s8 s9 wx => ∃ x8 x9 v8, s8 = .pointer (some ⟨x8, 0, none⟩) ∧ s9 = .pointer (some ⟨x9, 0, none⟩) ∧ wx.cell? ⟨x8, 0, none⟩ = some v8 ∧ wx.cell? ⟨x9, 0, none⟩ = some (.bool true) ∧ Own wx w4.heap.size 2 v8 e ∧ Chg (fun _ => False) w4 wx ∧ w4.heap.size ≤ x8 ∧ w4.heap.size ≤ x9)
              case first =>
                have KP := Lib.hid (show ∀ w', Chg (fun _ => False) w4 w' → (Chg (fun _ => False) w4 w' ∧ w'.cell? ⟨w.heap.size, 1, none⟩ = some (.slice ta t.length ct) ∧ w'.cell? ⟨w.heap.size, 2, none⟩ = some (.slice ae e.length ce)) from fun w' h => ⟨h, h.cell y1 id, h.cell y2 id⟩)
                go_region_held3 (fun w' => Chg (fun _ => False) w4 w' ∧ w'.cell? ⟨w.heap.size, 1, none⟩ = some (.slice ta t.length ct) ∧ w'.cell? ⟨w.heap.size, 2, none⟩ = some (.slice ae e.length ce)) ((refine KP.out _ ?_; repeat (first | (with_reducible exact Chg.refl _ _) | assumption | (with_reducible refine chg_drew' ?_) | (with_reducible refine chg_alloc' ?_) | (with_reducible refine Chg.tr ?_ hC5) | (refine Chg.setCell ?_ (.inr (by simp only []; omega)) _)))) (first
                  | (go_at_call 50; (with_reducible refine (HCL.out _ ((Chg.refl _ _).drew)).mono ?_); rintro e9 w5 ⟨v5, rfl, ho5, hC5⟩; obtain ⟨a5, c5, rfl⟩ := own_name ho5; have hsz5 : w4.heap.size ≤ w5.heap.size := hC5.size)
                  | (go_at_call 50; (with_reducible refine (HCL.out _ (((Chg.refl _ _).alloc (.cells #[.slice none 0 0] 23)).drew)).mono ?_); rintro e9 w5 ⟨v5, rfl, ho5, hC5⟩; obtain ⟨a5, c5, rfl⟩ := own_name ho5; have p0 := hC5.cell (new_cell w4 #[.slice none 0 0] 23 (i := 0) rfl) id; have p1 := hC5.frozen (new_cell w4 #[.slice none 0 0] 23 (i := 0) rfl) (new_frozen w4 _ _ 0) id; have hsz5 : w4.heap.size < w5.heap.size := (by have := hC5.size; simp at this; omega))
                  | (go_at_call 50; (with_reducible refine (HCL.out _ (((Chg.refl _ _).alloc (.cells #[.bool false] 4)).drew)).mono ?_); rintro e9 w5 ⟨v5, rfl, ho5, hC5⟩; obtain ⟨a5, c5, rfl⟩ := own_name ho5; have p0 := hC5.cell (new_cell w4 #[.bool false] 4 (i := 0) rfl) id; have p1 := hC5.frozen (new_cell w4 #[.bool false] 4 (i := 0) rfl) (new_frozen w4 _ _ 0) id; have hsz5 : w4.heap.size < w5.heap.size := (by have := hC5.size; simp at this; omega))
                  | (go_at_call 50; (with_reducible refine (HCL.out _ ((((Chg.refl _ _).alloc (.cells #[.slice none 0 0] 23)).alloc (.cells #[.bool false] 4)).drew)).mono ?_); rintro e9 w5 ⟨v5, rfl, ho5, hC5⟩; obtain ⟨a5, c5, rfl⟩ := own_name ho5; have p0 := hC5.cell (alloc_cell (new_cell w4 #[.slice none 0 0] 23 (i := 0) rfl) (.cells #[.bool false] 4)) id; have p1 := hC5.frozen (alloc_cell (new_cell w4 #[.slice none 0 0] 23 (i := 0) rfl) (.cells #[.bool false] 4)) (alloc_frozen (new_cell w4 #[.slice none 0 0] 23 (i := 0) rfl) (new_frozen w4 _ _ 0) (.cells #[.bool false] 4)) id; have q0 := new_cell (w4.alloc (.cells #[.slice none 0 0] 23)) #[.bool false] 4 (i := 0) rfl; have q1 := new_frozen (w4.alloc (.cells #[.slice none 0 0] 23)) #[.bool false] 4 0; rw [World.size_alloc] at q0 q1; have q2 := hC5.cell q0 id; have q3 := hC5.frozen q0 q1 id; clear q0 q1; have hsz6 : w4.heap.size + 1 < w5.heap.size := (by have := hC5.size; simp at this; omega); have hsz5 : w4.heap.size < w5.heap.size := (by omega))
                  | (go_at_call 50; (with_reducible refine (HCL.out _ ((((Chg.refl _ _).alloc (.cells #[.bool false] 4)).alloc (.cells #[.slice none 0 0] 23)).drew)).mono ?_); rintro e9 w5 ⟨v5, rfl, ho5, hC5⟩; obtain ⟨a5, c5, rfl⟩ := own_name ho5; have p0 := hC5.cell (alloc_cell (new_cell w4 #[.bool false] 4 (i := 0) rfl) (.cells #[.slice none 0 0] 23)) id; have p1 := hC5.frozen (alloc_cell (new_cell w4 #[.bool false] 4 (i := 0) rfl) (.cells #[.slice none 0 0] 23)) (alloc_frozen (new_cell w4 #[.bool false] 4 (i := 0) rfl) (new_frozen w4 _ _ 0) (.cells #[.slice none 0 0] 23)) id; have q0 := new_cell (w4.alloc (.cells #[.bool false] 4)) #[.slice none 0 0] 23 (i := 0) rfl; have q1 := new_frozen (w4.alloc (.cells #[.bool false] 4)) #[.slice none 0 0] 23 0; rw [World.size_alloc] at q0 q1; have q2 := hC5.cell q0 id; have q3 := hC5.frozen q0 q1 id; clear q0 q1; have hsz6 : w4.heap.size + 1 < w5.heap.size := (by have := hC5.size; simp at this; omega); have hsz5 : w4.heap.size < w5.heap.size := (by omega)))
                all_goals
                  rename_i hHd
                  go_wp2_with fail
                  go_meet
                  refine ⟨_, _, .slice a5 e.length c5, rfl, rfl, ?_, ?_, ?_, hHd.1, ?_, ?_⟩
                  · first | exact nn0 _ _ _ _ _ | exact nn1 _ _ _ _ _ | exact sn1 _ _ _ _ _ | exact sn0 p0 _ _ | exact ss0 p0 (by simp) _ _ | exact ss1 p0 (by simp) _ _ | exact ss0 q2 (by simp) _ _ | exact ss1 q2 (by simp) _ _
                  · first | exact nn0 _ _ _ _ _ | exact nn1 _ _ _ _ _ | exact sn1 _ _ _ _ _ | exact sn0 p0 _ _ | exact ss0 p0 (by simp) _ _ | exact ss1 p0 (by simp) _ _ | exact ss0 q2 (by simp) _ _ | exact ss1 q2 (by simp) _ _
                  · first | exact (ho5.fr (((Chg.refl _ w5).alloc _).alloc _)).mono (by simp) | exact ((own_set ho5 (by simp) _).fr ((Chg.refl _ _).alloc _)).mono (by simp) | exact (own_set (own_set ho5 (by simp <;> omega) _) (by simp <;> omega) _).mono (by simp <;> omega)
                  · first | exact Nat.le_refl _ | exact hsz5 | exact Nat.le_succ _ | exact Nat.le_of_lt hsz5 | exact Nat.le_succ_of_le hsz5
                  · first | exact Nat.le_refl _ | exact hsz5 | exact Nat.le_succ _ | exact Nat.le_of_lt hsz5 | exact Nat.le_succ_of_le hsz5
              case rest =>
                obtain ⟨x8, x9, v8, rfl, rfl, c8, c9, ho8, hCc, hx8, hx9⟩ := hcut
                have hsz4 : w.heap.size + 1 < w4.heap.size := cell_lt z0
                have hszc : w4.heap.size ≤ wc.heap.size := hCc.size
                have hvc := HO1.out _ ((HC13.out.tr hC4).tr hCc)
                replace f0 := hCc.frozen z0 f0 id
                replace f1 := hCc.frozen z1 f1 id
                replace yv := hCc.cell yv id
                replace z0 := hCc.cell z0 id
                replace z1 := hCc.cell z1 id
                have hrow := row_any _ s _ hvc (by have := (shB_iff.1 HSH.out).1; omega)
                obtain ⟨m, hm⟩ : ∃ m, rowN s = m := ⟨_, rfl⟩
                rw [hm] at hrow
                have HM := Lib.hid hm
                have HV := Lib.hid hvc
                have HO8 := Lib.hid ho8
                clear hm hvc ho8 y0 y1 y2
                go_wp2_with fail
                refine hrow.mono ?_
                clear hrow
                rintro e9 w6 ⟨rfl, hC6⟩
                have hsz6 : wc.heap.size ≤ w6.heap.size := hC6.size
                have hC7 := hC6.alloc (.cells #[.int .i64 m] 3)
                have l0 := new_cell w6 #[.int .i64 m] 3 (i := 0) rfl
                replace c8 := hC7.cell c8 id
                replace c9 := hC7.cell c9 id
                replace f0 := hC7.frozen z0 f0 id
                replace f1 := hC7.frozen z1 f1 id
                replace yv := hC6.cell yv id
                have hszv : w1.heap.size < w6.heap.size := cell_lt yv
                replace z0 := hC7.cell z0 id
                replace z1 := hC7.cell z1 id
                have ho9 := HO8.out.fr hC7
                have hto : ToAt (w6.alloc (.cells #[.int .i64 m] 3)) (fun k => Blk (.slice a1 s.length c1) k ∨ w4.heap.size ≤ k) 53 #[.pointer (some ⟨x9, 0, none⟩), .pointer (some ⟨x8, 0, none⟩), .pointer (some ⟨w6.heap.size, 0, none⟩)] (rowN s) (cnt s) (rotF ⟨k, t, e⟩ s) :=
                  ⟨enters_of Try.func53 (by kernel_rfl) rfl, fun i hi w' hw' => by
                    obtain ⟨p1, p2, p3⟩ := ediv_lt_cnt HSH.out hi
                    obtain ⟨q, hq, hqe⟩ := HH.out i hi
                    unfold rotF
                    rw [HT1.out] at hq
                    rw [HM.out] at p1 p2 hq hqe ⊢
                    exact rot1_any x9 x8 w6.heap.size q true v8 e _ _ m _ w' (hw'.cell c9 (.inr hx9)) (hw'.cell c8 (.inr hx8)) (hw'.cell l0 (.inr (by simp only []; omega))) (ho9.ls.chg hw' (fun b hb h => h (.inr (ho9.lt b hb).1))) hq hqe p1 p2 (Int.emod_nonneg _ (by omega)) (Int.emod_lt_of_pos _ p1)⟩
                have hal := along_any (fun k => Blk (.slice a1 s.length c1) k ∨ w4.heap.size ≤ k) 53 #[.pointer (some ⟨x9, 0, none⟩), .pointer (some ⟨x8, 0, none⟩), .pointer (some ⟨w6.heap.size, 0, none⟩)] _ s (rotF ⟨k, t, e⟩ s) _ (HV.out.fr hC7) (fun q hq => .inl hq) HSH.out hto (fun i hi => by
                    obtain ⟨p1, p2, p3⟩ := ediv_lt_cnt HSH.out hi
                    unfold rotF rotK
                    have := Int.emod_nonneg ((i : Int) % rowN s + rotRow ⟨k, t, e⟩ (rowN s) i) (show rowN s ≠ 0 by omega)
                    have := Int.emod_lt_of_pos ((i : Int) % rowN s + rotRow ⟨k, t, e⟩ (rowN s) i) p1
                    omega)
                have HC47 := Lib.hid ((hC4.tr hCc).tr hC7)
                clear hto l0 hC6 hC7 hCc hC4 ho9 HV HO8 c8 c9
                go_wp2_with fail
                refine hal.mono ?_
                clear hal
                rintro e9 w8 ⟨v3, D3, rfl, hW3, hD3, hC3⟩
                replace f0 := hC3.frozen z0 f0 id
                replace f1 := hC3.frozen z1 f1 id
                replace z0 := hC3.cell z0 id
                replace z1 := hC3.cell z1 id
                obtain ⟨_, vs3, gf3, lb3, rfl, hs3, hd3, hf3⟩ := id (hW3.resolve_right (fun h => h.1 rfl))
                simp only at hs3
                obtain ⟨a3, c3, rfl, _⟩ := hs3.form
                obtain ⟨g0, g1⟩ := set2_cells (.slice a3 s.length c3) (.func (.func gf3) #[] lb3) z0 z1
                have HW := Lib.hid hW3
                have HD := Lib.hid hD3
                have HC3 := Lib.hid hC3
                clear hs3 hd3 hf3 hW3 hD3 hC3 yv
                go_wp2
                simp [bodyPost, results, Try.results16, go_sem, g0, g1]
                rw [HR.out]
                refine way_store (x := w.heap.size) HW.out (fun k hk => ?_) (Nat.le_refl _) (Nat.le_succ _) (fun hk => ?_) ((HC.out.tr HC47.out).tr HC3.out) rfl
                · rcases HD.out k hk with (h | h) | h
                  · exact .inr (by have := HN1.out _ h; omega)
                  · exact .inr (by omega)
                  · exact .inr (by simp at h; omega)
                · rcases HD.out _ hk with (h | h) | h
                  · have := HN1.out _ h; omega
                  · omega
                  · simp at h; omega
          · have ht5 : t = s.take (s.length - 1) := by
              by_cases h : t = s.take (s.length - 1)
              · exact h
              · exact absurd ⟨ht0, h⟩ h4
            have ht6 : (t.length : Int) = (s.length : Int) - 1 := by
              by_cases h : (t.length : Int) = (s.length : Int) - 1
              · exact h
              · exact absurd ⟨ht0, h⟩ h3
            have ht7 : 0 < t.length := List.length_pos_iff.2 ht0
            have ht1 : (0 : Int) < (t.length : Int) := by omega
            have hs1 : 0 < s.length := by omega
            have b3 : ((t.length : Int) != (s.length : Int) - 1) = false := bne_eq_false_iff_eq.2 ht6
            have b4 : decide (t = s.take (s.length - 1)) = true := decide_eq_true ht5
            have b5 : ((t.length : Int) == 0) = false := beq_eq_false_iff_ne.2 (by omega)
            have HT0 := Lib.hid ht0
            by_cases hk2 : k = 2
            · have HR := Lib.hid (rotW_no (L := ⟨k, t, e⟩) (s := s) (n := 5) (by rw [hrE, if_pos hk2]) (by decide))
              have b6 : (k == 2) = true := beq_iff_eq.2 hk2
              clear hsh hcb hrE h3 h4 hH ht0 hk2 ht5 ht6
              go_enter Try.func16, Try.ntmps16
              go_wp2_with fail
              refine hse.mono ?_
              clear hse
              rintro e9 w1 ⟨v1, rfl, ho1, hC1⟩
              obtain ⟨a1, c1, rfl⟩ := own_name ho1
              have HO1 := Lib.hid (show ∀ w', Chg (fun _ => False) w1 w' → Ls w' (.slice a1 s.length c1) s from fun _ h => ho1.ls.fr h)
              have HN1 := Lib.hid (show ∀ q, Blk (.slice a1 s.length c1) q → w.heap.size + 1 < q from fun q hq => by have := (ho1.lt q hq).1; simp at this; omega)
              have hsz : w.heap.size + 1 < w1.heap.size := cell_lt (hC1.cell z0 id)
              have hC2 := hC1.alloc (.cells #[.slice a1 s.length c1] 69)
              have hC02 := hC0.tr hC2
              have yv := new_cell w1 #[.slice a1 s.length c1] 69 (i := 0) rfl
              have zz0 := hC1.cell z0 id
              have zz1 := hC1.cell z1 id
              have ff0 := hC1.frozen z0 f0 id
              have ff1 := hC1.frozen z1 f1 id
              replace f0 := hC2.frozen z0 f0 id
              replace f1 := hC2.frozen z1 f1 id
              replace z0 := hC2.cell z0 id
              replace z1 := hC2.cell z1 id
              replace y0 := hC2.cell y0 id
              replace y1 := hC2.cell y1 id
              replace y2 := hC2.cell y2 id
              have hck1 := HCK.out _ hC02
              rw [HCE.out] at hck1
              go_wp2_with fail
              refine hck1.mono ?_
              clear hck1
              rintro e9 w3 ⟨rfl, hC3⟩
              have hC03 := hC02.tr hC3
              have HC13 := Lib.hid (((Chg.refl (fun _ => False) w1).alloc (.cells #[.slice a1 s.length c1] 69)).tr hC3)
              replace f0 := hC3.frozen z0 f0 id
              replace f1 := hC3.frozen z1 f1 id
              replace z0 := hC3.cell z0 id
              replace z1 := hC3.cell z1 id
              replace y0 := hC3.cell y0 id
              replace y1 := hC3.cell y1 id
              replace y2 := hC3.cell y2 id
              replace yv := hC3.cell yv id
              clear zz0 zz1 ff0 ff1
              obtain ⟨jj, hjj⟩ : ∃ jj, s.length - 1 = jj := ⟨_, rfl⟩
              have hsw2 : (s.length : Int) - 1 = (jj : Int) := by omega
              obtain ⟨ax, cx, hxl, hxr⟩ := (HS.out.fr hC03).slice jj (by omega)
              have heq := fun w' (h : Chg (fun _ => False) w3 w') => equalI_any _ _ t (s.take jj) w' ((HT.out.fr hC03).fr h) (hxl.fr h) (by omega)
              rw [hjj] at b4
              rw [b4] at heq
              rw [hsw2] at b3
              replace hsw := hsw.trans hsw2
              have HEQ := Lib.hid heq
              have HC := Lib.hid hC03
              have KP := Lib.hid (show ∀ w', Chg (fun _ => False) w3 w' → (Chg (fun _ => False) w3 w' ∧ w'.cell? ⟨w.heap.size, 1, none⟩ = some (.slice ta t.length ct)) from fun w' h => ⟨h, h.cell y1 id⟩)
              have heq1 := heq _ ((Chg.refl _ _).drew)
              clear hC1 hC2 hC0 hC02 ho1 hC3 hC03 heq hxl hjj hsw2 b4
              go_wp2_with fail
              go_region_held3 (fun w' => Chg (fun _ => False) w3 w' ∧ w'.cell? ⟨w.heap.size, 1, none⟩ = some (.slice ta t.length ct)) (first | exact KP.out _ ((Chg.refl _ _).drew) | exact KP.out _ (((Chg.refl _ _).drew).tr hC4)) ((go_at_call 49; (with_reducible refine heq1.mono ?_); rintro e9 w4 ⟨rfl, hC4⟩; have f0 := hC4.frozen z0 f0 id; have f1 := hC4.frozen z1 f1 id; have y0 := hC4.cell y0 id; have y1 := hC4.cell y1 id; have y2 := hC4.cell y2 id; have yv := hC4.cell yv id; have z0 := hC4.cell z0 id; have z1 := hC4.cell z1 id))
              all_goals
                obtain ⟨g0, g1⟩ := set2_cells (.slice none 0 0) .nilFunc z0 z1
                go_wp2
                simp [bodyPost, results, Try.results16, go_sem, g0, g1]
                rw [HR.out]
                exact way_no (by decide) (Nat.le_succ _) (HC.out.tr (((Chg.refl _ w3).drew).tr hC4))
            · have b6 : (k == 2) = false := beq_eq_false_iff_ne.2 hk2
              have hE0 : rotE ⟨k, t, e⟩ s = 0 := by rw [hrE, if_neg hk2]
              have HR := Lib.hid (show rotW ⟨k, t, e⟩ s = ⟨s, alongG s (rotF ⟨k, t, e⟩ s), 0⟩ from if_pos hE0)
              have HH := Lib.hid (hH hE0)
              have HSH := Lib.hid hsh
              have HT1 := Lib.hid (show ∀ (m : Int) (i : Nat), (if t = [] then 0 else (i : Int) / m) = if false then 0 else (i : Int) / m from fun m i => by rw [if_neg HT0.out]; rfl)
              clear hsh hcb hrE h3 h4 hH ht0 hk2 hE0 ht5 ht6
              go_enter Try.func16, Try.ntmps16
              go_wp2_with fail
              refine hse.mono ?_
              clear hse
              rintro e9 w1 ⟨v1, rfl, ho1, hC1⟩
              obtain ⟨a1, c1, rfl⟩ := own_name ho1
              have HO1 := Lib.hid (show ∀ w', Chg (fun _ => False) w1 w' → Ls w' (.slice a1 s.length c1) s from fun _ h => ho1.ls.fr h)
              have HN1 := Lib.hid (show ∀ q, Blk (.slice a1 s.length c1) q → w.heap.size + 1 < q from fun q hq => by have := (ho1.lt q hq).1; simp at this; omega)
              have hsz : w.heap.size + 1 < w1.heap.size := cell_lt (hC1.cell z0 id)
              have hC2 := hC1.alloc (.cells #[.slice a1 s.length c1] 69)
              have hC02 := hC0.tr hC2
              have yv := new_cell w1 #[.slice a1 s.length c1] 69 (i := 0) rfl
              have zz0 := hC1.cell z0 id
              have zz1 := hC1.cell z1 id
              have ff0 := hC1.frozen z0 f0 id
              have ff1 := hC1.frozen z1 f1 id
              replace f0 := hC2.frozen z0 f0 id
              replace f1 := hC2.frozen z1 f1 id
              replace z0 := hC2.cell z0 id
              replace z1 := hC2.cell z1 id
              replace y0 := hC2.cell y0 id
              replace y1 := hC2.cell y1 id
              replace y2 := hC2.cell y2 id
              have hck1 := HCK.out _ hC02
              rw [HCE.out] at hck1
              go_wp2_with fail
              refine hck1.mono ?_
              clear hck1
              rintro e9 w3 ⟨rfl, hC3⟩
              have hC03 := hC02.tr hC3
              have HC13 := Lib.hid (((Chg.refl (fun _ => False) w1).alloc (.cells #[.slice a1 s.length c1] 69)).tr hC3)
              replace f0 := hC3.frozen z0 f0 id
              replace f1 := hC3.frozen z1 f1 id
              replace z0 := hC3.cell z0 id
              replace z1 := hC3.cell z1 id
              replace y0 := hC3.cell y0 id
              replace y1 := hC3.cell y1 id
              replace y2 := hC3.cell y2 id
              replace yv := hC3.cell yv id
              clear zz0 zz1 ff0 ff1
              obtain ⟨jj, hjj⟩ : ∃ jj, s.length - 1 = jj := ⟨_, rfl⟩
              have hsw2 : (s.length : Int) - 1 = (jj : Int) := by omega
              obtain ⟨ax, cx, hxl, hxr⟩ := (HS.out.fr hC03).slice jj (by omega)
              have heq := fun w' (h : Chg (fun _ => False) w3 w') => equalI_any _ _ t (s.take jj) w' ((HT.out.fr hC03).fr h) (hxl.fr h) (by omega)
              rw [hjj] at b4
              rw [b4] at heq
              rw [hsw2] at b3
              replace hsw := hsw.trans hsw2
              have HEQ := Lib.hid heq
              have HC := Lib.hid hC03
              have KP := Lib.hid (show ∀ w', Chg (fun _ => False) w3 w' → (Chg (fun _ => False) w3 w' ∧ w'.cell? ⟨w.heap.size, 1, none⟩ = some (.slice ta t.length ct)) from fun w' h => ⟨h, h.cell y1 id⟩)
              have heq1 := heq _ ((Chg.refl _ _).drew)
              clear hC1 hC2 hC0 hC02 ho1 hC3 hC03 heq hxl hjj hsw2 b4
              go_wp2_with fail
              go_region_held3 (fun w' => Chg (fun _ => False) w3 w' ∧ w'.cell? ⟨w.heap.size, 1, none⟩ = some (.slice ta t.length ct)) (first | exact KP.out _ ((Chg.refl _ _).drew) | exact KP.out _ (((Chg.refl _ _).drew).tr hC4)) ((go_at_call 49; (with_reducible refine heq1.mono ?_); rintro e9 w4 ⟨rfl, hC4⟩; have f0 := hC4.frozen z0 f0 id; have f1 := hC4.frozen z1 f1 id; have y0 := hC4.cell y0 id; have y1 := hC4.cell y1 id; have y2 := hC4.cell y2 id; have yv := hC4.cell yv id; have z0 := hC4.cell z0 id; have z1 := hC4.cell z1 id))
              replace hC4 := ((Chg.refl (fun _ => False) w3).drew).tr hC4
              have hcl := fun w' (h : Chg (fun _ => False) w4 w') => cloneL_any _ e w' ((HE.out.fr (HC.out.tr hC4)).fr h) hle
              have HCL := Lib.hid hcl
              clear hcl
              go_wp2_with fail
              go_cut [8, 9] (fun s8 s9 wx => ∃ x8 x9 v8, s8 = .pointer (some ⟨x8, 0, none⟩) ∧ s9 = .pointer (some ⟨x9, 0, none⟩) ∧ wx.cell? ⟨x8, 0, none⟩ = some v8 ∧ wx.cell? ⟨x9, 0, none⟩ = some (.bool false) ∧ Own wx w4.heap.size 2 v8 e ∧ Chg (fun _ => False) w4 wx ∧ w4.heap.size ≤ x8 ∧ w4.heap.size ≤ x9)
              case first =>
                have KP := Lib.hid (show ∀ w', Chg (fun _ => False) w4 w' → (Chg (fun _ => False) w4 w' ∧ w'.cell? ⟨w.heap.size, 1, none⟩ = some (.slice ta t.length ct) ∧ w'.cell? ⟨w.heap.size, 2, none⟩ = some (.slice ae e.length ce)) from fun w' h => ⟨h, h.cell y1 id, h.cell y2 id⟩)
                go_region_held3 (fun w' => Chg (fun _ => False) w4 w' ∧ w'.cell? ⟨w.heap.size, 1, none⟩ = some (.slice ta t.length ct) ∧ w'.cell? ⟨w.heap.size, 2, none⟩ = some (.slice ae e.length ce)) ((refine KP.out _ ?_; repeat (first | (with_reducible exact Chg.refl _ _) | assumption | (with_reducible refine chg_drew' ?_) | (with_reducible refine chg_alloc' ?_) | (with_reducible refine Chg.tr ?_ hC5) | (refine Chg.setCell ?_ (.inr (by simp only []; omega)) _)))) (first
                  | (go_at_call 50; (with_reducible refine (HCL.out _ ((Chg.refl _ _).drew)).mono ?_); rintro e9 w5 ⟨v5, rfl, ho5, hC5⟩; obtain ⟨a5, c5, rfl⟩ := own_name ho5; have hsz5 : w4.heap.size ≤ w5.heap.size := hC5.size)
                  | (go_at_call 50; (with_reducible refine (HCL.out _ (((Chg.refl _ _).alloc (.cells #[.slice none 0 0] 23)).drew)).mono ?_); rintro e9 w5 ⟨v5, rfl, ho5, hC5⟩; obtain ⟨a5, c5, rfl⟩ := own_name ho5; have p0 := hC5.cell (new_cell w4 #[.slice none 0 0] 23 (i := 0) rfl) id; have p1 := hC5.frozen (new_cell w4 #[.slice none 0 0] 23 (i := 0) rfl) (new_frozen w4 _ _ 0) id; have hsz5 : w4.heap.size < w5.heap.size := (by have := hC5.size; simp at this; omega))
                  | (go_at_call 50; (with_reducible refine (HCL.out _ (((Chg.refl _ _).alloc (.cells #[.bool false] 4)).drew)).mono ?_); rintro e9 w5 ⟨v5, rfl, ho5, hC5⟩; obtain ⟨a5, c5, rfl⟩ := own_name ho5; have p0 := hC5.cell (new_cell w4 #[.bool false] 4 (i := 0) rfl) id; have p1 := hC5.frozen (new_cell w4 #[.bool false] 4 (i := 0) rfl) (new_frozen w4 _ _ 0) id; have hsz5 : w4.heap.size < w5.heap.size := (by have := hC5.size; simp at this; omega))
                  | (go_at_call 50; (with_reducible refine (HCL.out _ ((((Chg.refl _ _).alloc (.cells #[.slice none 0 0] 23)).alloc (.cells #[.bool false] 4)).drew)).mono ?_); rintro e9 w5 ⟨v5, rfl, ho5, hC5⟩; obtain ⟨a5, c5, rfl⟩ := own_name ho5; have p0 := hC5.cell (alloc_cell (new_cell w4 #[.slice none 0 0] 23 (i := 0) rfl) (.cells #[.bool false] 4)) id; have p1 := hC5.frozen (alloc_cell (new_cell w4 #[.slice none 0 0] 23 (i := 0) rfl) (.cells #[.bool false] 4)) (alloc_frozen (new_cell w4 #[.slice none 0 0] 23 (i := 0) rfl) (new_frozen w4 _ _ 0) (.cells #[.bool false] 4)) id; have q0 := new_cell (w4.alloc (.cells #[.slice none 0 0] 23)) #[.bool false] 4 (i := 0) rfl; have q1 := new_frozen (w4.alloc (.cells #[.slice none 0 0] 23)) #[.bool false] 4 0; rw [World.size_alloc] at q0 q1; have q2 := hC5.cell q0 id; have q3 := hC5.frozen q0 q1 id; clear q0 q1; have hsz6 : w4.heap.size + 1 < w5.heap.size := (by have := hC5.size; simp at this; omega); have hsz5 : w4.heap.size < w5.heap.size := (by omega))
                  | (go_at_call 50; (with_reducible refine (HCL.out _ ((((Chg.refl _ _).alloc (.cells #[.bool false] 4)).alloc (.cells #[.slice none 0 0] 23)).drew)).mono ?_); rintro e9 w5 ⟨v5, rfl, ho5, hC5⟩; obtain ⟨a5, c5, rfl⟩ := own_name ho5; have p0 := hC5.cell (alloc_cell (new_cell w4 #[.bool false] 4 (i := 0) rfl) (.cells #[.slice none 0 0] 23)) id; have p1 := hC5.frozen (alloc_cell (new_cell w4 #[.bool false] 4 (i := 0) rfl) (.cells #[.slice none 0 0] 23)) (alloc_frozen (new_cell w4 #[.bool false] 4 (i := 0) rfl) (new_frozen w4 _ _ 0) (.cells #[.slice none 0 0] 23)) id; have q0 := new_cell (w4.alloc (.cells #[.bool false] 4)) #[.slice none 0 0] 23 (i := 0) rfl; have q1 := new_frozen (w4.alloc (.cells #[.bool false] 4)) #[.slice none 0 0] 23 0; rw [World.size_alloc] at q0 q1; have q2 := hC5.cell q0 id; have q3 := hC5.frozen q0 q1 id; clear q0 q1; have hsz6 : w4.heap.size + 1 < w5.heap.size := (by have := hC5.size; simp at this; omega); have hsz5 : w4.heap.size < w5.heap.size := (by omega)))
                all_goals
                  rename_i hHd
                  go_wp2_with fail
                  go_meet
                  refine ⟨_, _, .slice a5 e.length c5, rfl, rfl, ?_, ?_, ?_, hHd.1, ?_, ?_⟩
                  · first | exact nn0 _ _ _ _ _ | exact nn1 _ _ _ _ _ | exact sn1 _ _ _ _ _ | exact sn0 p0 _ _ | exact ss0 p0 (by simp) _ _ | exact ss1 p0 (by simp) _ _ | exact ss0 q2 (by simp) _ _ | exact ss1 q2 (by simp) _ _
                  · first | exact nn0 _ _ _ _ _ | exact nn1 _ _ _ _ _ | exact sn1 _ _ _ _ _ | exact sn0 p0 _ _ | exact ss0 p0 (by simp) _ _ | exact ss1 p0 (by simp) _ _ | exact ss0 q2 (by simp) _ _ | exact ss1 q2 (by simp) _ _
                  · first | exact (ho5.fr (((Chg.refl _ w5).alloc _).alloc _)).mono (by simp) | exact ((own_set ho5 (by simp) _).fr ((Chg.refl _ _).alloc _)).mono (by simp) | exact (own_set (own_set ho5 (by simp <;> omega) _) (by simp <;> omega) _).mono (by simp <;> omega)
                  · first | exact Nat.le_refl _ | exact hsz5 | exact Nat.le_succ _ | exact Nat.le_of_lt hsz5 | exact Nat.le_succ_of_le hsz5
                  · first | exact Nat.le_refl _ | exact hsz5 | exact Nat.le_succ _ | exact Nat.le_of_lt hsz5 | exact Nat.le_succ_of_le hsz5
              case rest =>
                obtain ⟨x8, x9, v8, rfl, rfl, c8, c9, ho8, hCc, hx8, hx9⟩ := hcut
                have hsz4 : w.heap.size + 1 < w4.heap.size := cell_lt z0
                have hszc : w4.heap.size ≤ wc.heap.size := hCc.size
                have hvc := HO1.out _ ((HC13.out.tr hC4).tr hCc)
                replace f0 := hCc.frozen z0 f0 id
                replace f1 := hCc.frozen z1 f1 id
                replace yv := hCc.cell yv id
                replace z0 := hCc.cell z0 id
                replace z1 := hCc.cell z1 id
                have hrow := row_any _ s _ hvc (by have := (shB_iff.1 HSH.out).1; omega)
                obtain ⟨m, hm⟩ : ∃ m, rowN s = m := ⟨_, rfl⟩
                rw [hm] at hrow
                have HM := Lib.hid hm
                have HV := Lib.hid hvc
                have HO8 := Lib.hid ho8
                clear hm hvc ho8 y0 y1 y2
                go_wp2_with fail
                refine hrow.mono ?_
                clear hrow
                rintro e9 w6 ⟨rfl, hC6⟩
                have hsz6 : wc.heap.size ≤ w6.heap.size := hC6.size
                have hC7 := hC6.alloc (.cells #[.int .i64 m] 3)
                have l0 := new_cell w6 #[.int .i64 m] 3 (i := 0) rfl
                replace c8 := hC7.cell c8 id
                replace c9 := hC7.cell c9 id
                replace f0 := hC7.frozen z0 f0 id
                replace f1 := hC7.frozen z1 f1 id
                replace yv := hC6.cell yv id
                have hszv : w1.heap.size < w6.heap.size := cell_lt yv
                replace z0 := hC7.cell z0 id
                replace z1 := hC7.cell z1 id
                have ho9 := HO8.out.fr hC7
                have hto : ToAt (w6.alloc (.cells #[.int .i64 m] 3)) (fun k => Blk (.slice a1 s.length c1) k ∨ w4.heap.size ≤ k) 53 #[.pointer (some ⟨x9, 0, none⟩), .pointer (some ⟨x8, 0, none⟩), .pointer (some ⟨w6.heap.size, 0, none⟩)] (rowN s) (cnt s) (rotF ⟨k, t, e⟩ s) :=
                  ⟨enters_of Try.func53 (by kernel_rfl) rfl, fun i hi w' hw' => by
                    obtain ⟨p1, p2, p3⟩ := ediv_lt_cnt HSH.out hi
                    obtain ⟨q, hq, hqe⟩ := HH.out i hi
                    unfold rotF
                    rw [HT1.out] at hq
                    rw [HM.out] at p1 p2 hq hqe ⊢
                    exact rot1_any x9 x8 w6.heap.size q false v8 e _ _ m _ w' (hw'.cell c9 (.inr hx9)) (hw'.cell c8 (.inr hx8)) (hw'.cell l0 (.inr (by simp only []; omega))) (ho9.ls.chg hw' (fun b hb h => h (.inr (ho9.lt b hb).1))) hq hqe p1 p2 (Int.emod_nonneg _ (by omega)) (Int.emod_lt_of_pos _ p1)⟩
                have hal := along_any (fun k => Blk (.slice a1 s.length c1) k ∨ w4.heap.size ≤ k) 53 #[.pointer (some ⟨x9, 0, none⟩), .pointer (some ⟨x8, 0, none⟩), .pointer (some ⟨w6.heap.size, 0, none⟩)] _ s (rotF ⟨k, t, e⟩ s) _ (HV.out.fr hC7) (fun q hq => .inl hq) HSH.out hto (fun i hi => by
                    obtain ⟨p1, p2, p3⟩ := ediv_lt_cnt HSH.out hi
                    unfold rotF rotK
                    have := Int.emod_nonneg ((i : Int) % rowN s + rotRow ⟨k, t, e⟩ (rowN s) i) (show rowN s ≠ 0 by omega)
                    have := Int.emod_lt_of_pos ((i : Int) % rowN s + rotRow ⟨k, t, e⟩ (rowN s) i) p1
                    omega)
                have HC47 := Lib.hid ((hC4.tr hCc).tr hC7)
                clear hto l0 hC6 hC7 hCc hC4 ho9 HV HO8 c8 c9
                go_wp2_with fail
                refine hal.mono ?_
                clear hal
                rintro e9 w8 ⟨v3, D3, rfl, hW3, hD3, hC3⟩
                replace f0 := hC3.frozen z0 f0 id
                replace f1 := hC3.frozen z1 f1 id
                replace z0 := hC3.cell z0 id
                replace z1 := hC3.cell z1 id
                obtain ⟨_, vs3, gf3, lb3, rfl, hs3, hd3, hf3⟩ := id (hW3.resolve_right (fun h => h.1 rfl))
                simp only at hs3
                obtain ⟨a3, c3, rfl, _⟩ := hs3.form
                obtain ⟨g0, g1⟩ := set2_cells (.slice a3 s.length c3) (.func (.func gf3) #[] lb3) z0 z1
                have HW := Lib.hid hW3
                have HD := Lib.hid hD3
                have HC3 := Lib.hid hC3
                clear hs3 hd3 hf3 hW3 hD3 hC3 yv
                go_wp2
                simp [bodyPost, results, Try.results16, go_sem, g0, g1]
                rw [HR.out]
                refine way_store (x := w.heap.size) HW.out (fun k hk => ?_) (Nat.le_refl _) (Nat.le_succ _) (fun hk => ?_) ((HC.out.tr HC47.out).tr HC3.out) rfl
                · rcases HD.out k hk with (h | h) | h
                  · exact .inr (by have := HN1.out _ h; omega)
                  · exact .inr (by omega)
                  · exact .inr (by simp at h; omega)
                · rcases HD.out _ hk with (h | h) | h
                  · have := HN1.out _ h; omega
                  · omega
                  · simp at h; omega
end Go.Proofs.Ytmmbdhfljabefaa
