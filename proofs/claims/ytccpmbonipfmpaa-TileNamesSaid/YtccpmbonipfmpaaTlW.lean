/- The document's Sound. -/
import Derived.Test.YtccpmbonipfmpaaTlU
namespace Go.Proofs.Ytccpmbonipfmpaa
open Go.RowKit

theorem r5sound_no (ao : Option Addr) (n c : Nat) (w : World) (h : n = 0 ∨ (¬ n = 0 ∧ ¬ n % 128 = 0) ∨ (¬ n = 0 ∧ n % 128 = 0 ∧ 64 < n / 128)) (hl : n ≤ 140737488355328) : Calls Try.prog 19 #[.slice ao n c] w (GaveBo w false) := by
  rcases h with rfl | ⟨h0, h1⟩ | ⟨h0, h1, h2⟩
  · go_enter Try.func19, Try.ntmps19
    go_wp2
    go_ret
    exact ⟨rfl, Chg.refl _ _⟩
  · have e0 : ((n : Int) == 0) = false := beq_eq_false_iff_ne.2 (by omega)
    have e1 : ((n : Int) % 128 != 0) = true := bne_iff_ne.2 (by omega)
    clear h0 h1
    go_enter Try.func19, Try.ntmps19
    go_wp2
    go_ret
    exact ⟨rfl, Chg.refl _ _⟩
  · have e0 : ((n : Int) == 0) = false := beq_eq_false_iff_ne.2 (by omega)
    have e1 : ((n : Int) % 128 != 0) = false := bne_eq_false_iff_eq.2 (by omega)
    have e2 : (64 : Int) < (n : Int) / 128 := by omega
    clear h0 h1 h2
    go_enter Try.func19, Try.ntmps19
    go_wp2
    go_ret
    exact ⟨rfl, Chg.refl _ _⟩
set_option maxRecDepth 100000 in
set_option maxHeartbeats 1000000 in
theorem r5sound_main (ao : Option Addr) (c n k : Nat) (xs : List UInt8) (w : World) (m1 : xs.length = n) (hk : n = k + 4) (hS : Sl w (.slice ao n c) (xs.map B)) (hl : n + 100 ≤ 140737488355328) (h1 : n % 128 = 0) (h2 : n / 128 ≤ 64) :
    Calls Try.prog 19 #[.slice ao n c] w (GaveBo w (decide (sealL (xs.take k) = xs))) := by
  have e0' : ((n : Int) == 0) = false := beq_eq_false_iff_ne.2 (by omega)
  have e1' : ((n : Int) % 128 != 0) = false := bne_eq_false_iff_eq.2 (by omega)
  have e2' : (n : Int) / 128 ≤ 64 := by omega
  have hSd := hS.fr ((Chg.refl _ w).drew)
  obtain ⟨a1, d1, hS1, _, _, _, hcut⟩ := hSd.slice 25 5 Try.underlying25 sizeOf_u8 0 k (Nat.zero_le _) (by rw [List.length_map]; omega)
  replace hcut := hcut rfl
  rw [Nat.sub_zero] at hS1 hcut
  rw [List.drop_zero, ← List.map_take] at hS1
  obtain ⟨a2, d2, hS2, _, _, hcut2, _⟩ := hSd.slice 25 5 Try.underlying25 sizeOf_u8 k n (by omega) (by rw [List.length_map]; omega)
  replace hcut2 := hcut2 (by rw [List.length_map]; omega)
  rw [List.take_of_length_le (by rw [List.length_map]; omega), ← List.map_drop, show n - k = 4 by omega] at hS2
  rw [show n - k = 4 by omega] at hcut2
  have e4 : IntKind.i64.wrap ((n : Int) - 4) = (k : Int) := by rw [show (n : Int) - 4 = (k : Int) by omega]; exact IntWalk.i64_in _ (by omega)
  have hq : (k : Int) ≤ (n : Int) := by omega
  have hm2 : moreN 0 (xs.take k) < 4294967296 := moreN_lt _ (by decide)
  have hof := fun w' (h : Chg (fun _ => False) w.drew w') => r2of_any _ (xs.take k) w' (hS1.fr h) (by rw [List.length_take]; omega)
  have hse := seal_eq xs k
  generalize moreN 0 (xs.take k) = m at *
  have hfo := fun w' => four_any m w' hm2
  obtain ⟨S2, hs2, hs3, _⟩ := str_name (xs.drop k)
  have hx2 : ∀ w', Chg (fun _ => False) w.drew w' → (convert 25 9 (.slice a2 4 d2)).run Try.prog w' = .ok (.string S2) w' := fun w' h => by
    have := run_convert_sl (P := Try.prog) 25 9 5 Try.underlying25 Try.underlying5 Try.underlying9 (hS2.fr h)
    rw [hs2] at this
    exact this
  have hx0 := hx2 _ (Chg.refl _ _)
  have HX2 := Lib.hid hx2
  have H3 := Lib.hid hs3
  clear hS hS1 hS2 hSd hk m1 hx2 hs3 h1 h2 hl hm2
  by_cases hb : be 4 m = xs.drop k
  · rw [decide_eq_true (hse.2 hb)]
    rw [← hb] at hs2
    have HX1 := Lib.hid hs2
    clear hs2 hse hb
    go_enter Try.func19, Try.ntmps19
    go_wp2
    refine wp_region_held_drew (S := fun w' => Chg (fun _ => False) w.drew w' ∧ (convert 25 9 (.slice a2 4 d2)).run Try.prog w' = .ok (.string S2) w') (by kernel_rfl) ⟨Chg.refl _ _, hx0⟩ (fun hHeld => ?_)
    refine' wpAnyH_take (i := 0) (oi := _) (v := .slice ao n c) ?hia0 (by kernel_rfl) (by kernel_rfl) (by kernel_rfl) ?hqa0 (Or.inl ⟨?hwa0, fun w hSw => ?hya0⟩) hHeld ?hka0
    case hia0 => (simp only [List.getElem?_toArray, List.getElem?_cons_zero]; rfl)
    case hqa0 => exact fun _ _ _ h => h
    case hwa0 => rfl
    case hya0 => first | (go_simp; done) | (go_simp; with_reducible rfl)
    simp only [Act.put, List.setIfInBounds_toArray, List.set_cons_zero, List.set_cons_succ]
    refine' wpAnyH_take (i := 1) (oi := _) (v := .int .i64 n) ?hia1 (by kernel_rfl) (by kernel_rfl) (by kernel_rfl) ?hqa1 (Or.inl ⟨?hwa1, fun w hSw => ?hya1⟩) hHeld ?hka1
    case hia1 => (simp only [List.getElem?_toArray, List.getElem?_cons_succ, List.getElem?_cons_zero]; rfl)
    case hqa1 => exact fun _ _ _ h => h
    case hwa1 => rfl
    case hya1 => first | (go_simp; done) | (go_simp; with_reducible rfl)
    simp only [Act.put, List.setIfInBounds_toArray, List.set_cons_zero, List.set_cons_succ]
    refine' wpAnyH_take (i := 2) (oi := _) (v := .int .i64 k) ?hia2 (by kernel_rfl) (by kernel_rfl) (by kernel_rfl) ?hqa2 (Or.inl ⟨?hwa2, fun w hSw => ?hya2⟩) hHeld ?hka2
    case hia2 => (simp only [List.getElem?_toArray, List.getElem?_cons_succ, List.getElem?_cons_zero]; rfl)
    case hqa2 => exact fun _ _ _ h => h
    case hwa2 => rfl
    case hya2 => first | (go_simp; done) | (go_simp; with_reducible rfl)
    simp only [Act.put, List.setIfInBounds_toArray, List.set_cons_zero, List.set_cons_succ]
    refine' wpAnyH_take (i := 3) (oi := _) (v := .slice a1 k d1) ?hia3 (by kernel_rfl) (by kernel_rfl) (by kernel_rfl) ?hqa3 (Or.inl ⟨?hwa3, fun w hSw => ?hya3⟩) hHeld ?hka3
    case hia3 => (simp only [List.getElem?_toArray, List.getElem?_cons_succ, List.getElem?_cons_zero]; rfl)
    case hqa3 => exact fun _ _ _ h => h
    case hwa3 => rfl
    case hya3 => first | (go_simp; done) | (go_simp; with_reducible rfl)
    simp only [Act.put, List.setIfInBounds_toArray, List.set_cons_zero, List.set_cons_succ]
    refine' wpAnyH_take (i := 7) (oi := _) (v := .slice ao n c) ?hia7 (by kernel_rfl) (by kernel_rfl) (by kernel_rfl) ?hqa7 (Or.inl ⟨?hwa7, fun w hSw => ?hya7⟩) hHeld ?hka7
    case hia7 => (simp only [List.getElem?_toArray, List.getElem?_cons_succ, List.getElem?_cons_zero]; rfl)
    case hqa7 => exact fun _ _ _ h => h
    case hwa7 => rfl
    case hya7 => first | (go_simp; done) | (go_simp; with_reducible rfl)
    simp only [Act.put, List.setIfInBounds_toArray, List.set_cons_zero, List.set_cons_succ]
    refine' wpAnyH_take (i := 8) (oi := _) (v := .int .i64 n) ?hia8 (by kernel_rfl) (by kernel_rfl) (by kernel_rfl) ?hqa8 (Or.inl ⟨?hwa8, fun w hSw => ?hya8⟩) hHeld ?hka8
    case hia8 => (simp only [List.getElem?_toArray, List.getElem?_cons_succ, List.getElem?_cons_zero]; rfl)
    case hqa8 => exact fun _ _ _ h => h
    case hwa8 => rfl
    case hya8 => first | (go_simp; done) | (go_simp; with_reducible rfl)
    simp only [Act.put, List.setIfInBounds_toArray, List.set_cons_zero, List.set_cons_succ]
    refine' wpAnyH_take (i := 9) (oi := _) (v := .int .i64 k) ?hia9 (by kernel_rfl) (by kernel_rfl) (by kernel_rfl) ?hqa9 (Or.inl ⟨?hwa9, fun w hSw => ?hya9⟩) hHeld ?hka9
    case hia9 => (simp only [List.getElem?_toArray, List.getElem?_cons_succ, List.getElem?_cons_zero]; rfl)
    case hqa9 => exact fun _ _ _ h => h
    case hwa9 => rfl
    case hya9 => first | (go_simp; done) | (go_simp; with_reducible rfl)
    simp only [Act.put, List.setIfInBounds_toArray, List.set_cons_zero, List.set_cons_succ]
    refine' wpAnyH_take (i := 10) (oi := _) (v := .slice a2 4 d2) ?hia10 (by kernel_rfl) (by kernel_rfl) (by kernel_rfl) ?hqa10 (Or.inl ⟨?hwa10, fun w hSw => ?hya10⟩) hHeld ?hka10
    case hia10 => (simp only [List.getElem?_toArray, List.getElem?_cons_succ, List.getElem?_cons_zero]; rfl)
    case hqa10 => exact fun _ _ _ h => h
    case hwa10 => rfl
    case hya10 => first | (go_simp; done) | (go_simp; with_reducible rfl)
    simp only [Act.put, List.setIfInBounds_toArray, List.set_cons_zero, List.set_cons_succ]
    refine' wpAnyH_take (i := 11) (oi := _) (v := .string S2) ?hia11 (by kernel_rfl) (by kernel_rfl) (by kernel_rfl) ?hqa11 (Or.inl ⟨?hwa11, fun w hSw => ?hya11⟩) hHeld ?hka11
    case hia11 => (simp only [List.getElem?_toArray, List.getElem?_cons_succ, List.getElem?_cons_zero]; rfl)
    case hqa11 => exact fun _ _ _ h => h
    case hwa11 => rfl
    case hya11 => first | (go_simp; done) | (go_simp; with_reducible rfl)
    simp only [Act.put, List.setIfInBounds_toArray, List.set_cons_zero, List.set_cons_succ]
    refine wpAnyH_ready (rs := [4]) (by kernel_rfl) (by simp) ?_
    refine AllReadyH.cons rfl (fun K hK => ?_) AllReadyH.nil
    go_simp
    go_at_call 30
    refine (hof _ (Chg.refl _ _)).mono ?_
    rintro e w' ⟨rfl, rfl⟩
    refine hK.out _ _ hHeld (fun hHeld => ?_)
    clear hK K
    refine wpAnyH_ready (rs := [5]) (by kernel_rfl) (by simp) ?_
    refine AllReadyH.cons rfl (fun K hK => ?_) AllReadyH.nil
    go_simp
    go_at_call 29
    refine (hfo _).mono ?_
    rintro e w3 ⟨v3, rfl, ho3, hC3⟩
    have hx1 := run_convert_sl (P := Try.prog) 25 9 5 Try.underlying25 Try.underlying5 Try.underlying9 (Sl.of_owns ho3)
    rw [HX1.out] at hx1
    have hx3 := HX2.out _ hC3
    refine hK.out _ _ ⟨hC3, hx3⟩ (fun hHeld => ?_)
    clear hK K
    refine wpAnyH_change (S' := fun w' => w' = w3) (fun w' h => h ▸ ⟨hC3, hx3⟩) _ _ _ _ ?_
    refine' wpAnyH_take (i := 6) (oi := _) (v := .string S2) ?hia6 (by kernel_rfl) (by kernel_rfl) (by kernel_rfl) ?hqa6 (Or.inl ⟨?hwa6, fun w hSw => ?hya6⟩) rfl ?hka6
    case hia6 => (simp only [List.getElem?_toArray, List.getElem?_cons_succ, List.getElem?_cons_zero]; rfl)
    case hqa6 => exact fun _ _ _ h => h
    case hwa6 => rfl
    case hya6 => (subst hSw; first | (go_simp; done) | (go_simp; with_reducible rfl))
    simp only [Act.put, List.setIfInBounds_toArray, List.set_cons_zero, List.set_cons_succ]
    refine' wpAnyH_take (i := 12) (oi := _) (v := .bool true) ?hia12 (by kernel_rfl) (by kernel_rfl) (by kernel_rfl) ?hqa12 (Or.inl ⟨?hwa12, fun w hSw => ?hya12⟩) rfl ?hka12
    case hia12 => (simp only [List.getElem?_toArray, List.getElem?_cons_succ, List.getElem?_cons_zero]; rfl)
    case hqa12 => exact fun _ _ _ h => h
    case hwa12 => rfl
    case hya12 => (subst hSw; first | (go_simp; done) | (go_simp; with_reducible rfl))
    simp only [Act.put, List.setIfInBounds_toArray, List.set_cons_zero, List.set_cons_succ]
    refine' wpAnyH_take (i := 13) (oi := _) (v := .bool true) ?hia13 (by kernel_rfl) (by kernel_rfl) (by kernel_rfl) ?hqa13 (Or.inl ⟨?hwa13, fun w hSw => ?hya13⟩) rfl ?hka13
    case hia13 => (simp only [List.getElem?_toArray, List.getElem?_cons_succ, List.getElem?_cons_zero]; rfl)
    case hqa13 => exact fun _ _ _ h => h
    case hwa13 => rfl
    case hya13 => (subst hSw; first | (go_simp; done) | (go_simp; with_reducible rfl))
    simp only [Act.put, List.setIfInBounds_toArray, List.set_cons_zero, List.set_cons_succ]
    refine wpAnyH_done (by kernel_rfl) ?_ _
    go_wp2
    go_ret
    exact ⟨rfl, ((Chg.refl _ w).drew).tr hC3⟩
  · rw [decide_eq_false (fun h => hb (hse.1 h))]
    obtain ⟨S1, hs1, hs4, _⟩ := str_name (be 4 m)
    have hne : ¬ S1.toList = S2.toList := fun h => hb (by rw [← hs4, ← H3.out, h])
    have HX1 := Lib.hid hs1
    clear hs2 hse hb hs1 hs4
    go_enter Try.func19, Try.ntmps19
    go_wp2
    refine wp_region_held_drew (S := fun w' => Chg (fun _ => False) w.drew w' ∧ (convert 25 9 (.slice a2 4 d2)).run Try.prog w' = .ok (.string S2) w') (by kernel_rfl) ⟨Chg.refl _ _, hx0⟩ (fun hHeld => ?_)
    refine' wpAnyH_take (i := 0) (oi := _) (v := .slice ao n c) ?hib0 (by kernel_rfl) (by kernel_rfl) (by kernel_rfl) ?hqb0 (Or.inl ⟨?hwb0, fun w hSw => ?hyb0⟩) hHeld ?hkb0
    case hib0 => (simp only [List.getElem?_toArray, List.getElem?_cons_zero]; rfl)
    case hqb0 => exact fun _ _ _ h => h
    case hwb0 => rfl
    case hyb0 => first | (go_simp; done) | (go_simp; with_reducible rfl)
    simp only [Act.put, List.setIfInBounds_toArray, List.set_cons_zero, List.set_cons_succ]
    refine' wpAnyH_take (i := 1) (oi := _) (v := .int .i64 n) ?hib1 (by kernel_rfl) (by kernel_rfl) (by kernel_rfl) ?hqb1 (Or.inl ⟨?hwb1, fun w hSw => ?hyb1⟩) hHeld ?hkb1
    case hib1 => (simp only [List.getElem?_toArray, List.getElem?_cons_succ, List.getElem?_cons_zero]; rfl)
    case hqb1 => exact fun _ _ _ h => h
    case hwb1 => rfl
    case hyb1 => first | (go_simp; done) | (go_simp; with_reducible rfl)
    simp only [Act.put, List.setIfInBounds_toArray, List.set_cons_zero, List.set_cons_succ]
    refine' wpAnyH_take (i := 2) (oi := _) (v := .int .i64 k) ?hib2 (by kernel_rfl) (by kernel_rfl) (by kernel_rfl) ?hqb2 (Or.inl ⟨?hwb2, fun w hSw => ?hyb2⟩) hHeld ?hkb2
    case hib2 => (simp only [List.getElem?_toArray, List.getElem?_cons_succ, List.getElem?_cons_zero]; rfl)
    case hqb2 => exact fun _ _ _ h => h
    case hwb2 => rfl
    case hyb2 => first | (go_simp; done) | (go_simp; with_reducible rfl)
    simp only [Act.put, List.setIfInBounds_toArray, List.set_cons_zero, List.set_cons_succ]
    refine' wpAnyH_take (i := 3) (oi := _) (v := .slice a1 k d1) ?hib3 (by kernel_rfl) (by kernel_rfl) (by kernel_rfl) ?hqb3 (Or.inl ⟨?hwb3, fun w hSw => ?hyb3⟩) hHeld ?hkb3
    case hib3 => (simp only [List.getElem?_toArray, List.getElem?_cons_succ, List.getElem?_cons_zero]; rfl)
    case hqb3 => exact fun _ _ _ h => h
    case hwb3 => rfl
    case hyb3 => first | (go_simp; done) | (go_simp; with_reducible rfl)
    simp only [Act.put, List.setIfInBounds_toArray, List.set_cons_zero, List.set_cons_succ]
    refine' wpAnyH_take (i := 7) (oi := _) (v := .slice ao n c) ?hib7 (by kernel_rfl) (by kernel_rfl) (by kernel_rfl) ?hqb7 (Or.inl ⟨?hwb7, fun w hSw => ?hyb7⟩) hHeld ?hkb7
    case hib7 => (simp only [List.getElem?_toArray, List.getElem?_cons_succ, List.getElem?_cons_zero]; rfl)
    case hqb7 => exact fun _ _ _ h => h
    case hwb7 => rfl
    case hyb7 => first | (go_simp; done) | (go_simp; with_reducible rfl)
    simp only [Act.put, List.setIfInBounds_toArray, List.set_cons_zero, List.set_cons_succ]
    refine' wpAnyH_take (i := 8) (oi := _) (v := .int .i64 n) ?hib8 (by kernel_rfl) (by kernel_rfl) (by kernel_rfl) ?hqb8 (Or.inl ⟨?hwb8, fun w hSw => ?hyb8⟩) hHeld ?hkb8
    case hib8 => (simp only [List.getElem?_toArray, List.getElem?_cons_succ, List.getElem?_cons_zero]; rfl)
    case hqb8 => exact fun _ _ _ h => h
    case hwb8 => rfl
    case hyb8 => first | (go_simp; done) | (go_simp; with_reducible rfl)
    simp only [Act.put, List.setIfInBounds_toArray, List.set_cons_zero, List.set_cons_succ]
    refine' wpAnyH_take (i := 9) (oi := _) (v := .int .i64 k) ?hib9 (by kernel_rfl) (by kernel_rfl) (by kernel_rfl) ?hqb9 (Or.inl ⟨?hwb9, fun w hSw => ?hyb9⟩) hHeld ?hkb9
    case hib9 => (simp only [List.getElem?_toArray, List.getElem?_cons_succ, List.getElem?_cons_zero]; rfl)
    case hqb9 => exact fun _ _ _ h => h
    case hwb9 => rfl
    case hyb9 => first | (go_simp; done) | (go_simp; with_reducible rfl)
    simp only [Act.put, List.setIfInBounds_toArray, List.set_cons_zero, List.set_cons_succ]
    refine' wpAnyH_take (i := 10) (oi := _) (v := .slice a2 4 d2) ?hib10 (by kernel_rfl) (by kernel_rfl) (by kernel_rfl) ?hqb10 (Or.inl ⟨?hwb10, fun w hSw => ?hyb10⟩) hHeld ?hkb10
    case hib10 => (simp only [List.getElem?_toArray, List.getElem?_cons_succ, List.getElem?_cons_zero]; rfl)
    case hqb10 => exact fun _ _ _ h => h
    case hwb10 => rfl
    case hyb10 => first | (go_simp; done) | (go_simp; with_reducible rfl)
    simp only [Act.put, List.setIfInBounds_toArray, List.set_cons_zero, List.set_cons_succ]
    refine' wpAnyH_take (i := 11) (oi := _) (v := .string S2) ?hib11 (by kernel_rfl) (by kernel_rfl) (by kernel_rfl) ?hqb11 (Or.inl ⟨?hwb11, fun w hSw => ?hyb11⟩) hHeld ?hkb11
    case hib11 => (simp only [List.getElem?_toArray, List.getElem?_cons_succ, List.getElem?_cons_zero]; rfl)
    case hqb11 => exact fun _ _ _ h => h
    case hwb11 => rfl
    case hyb11 => first | (go_simp; done) | (go_simp; with_reducible rfl)
    simp only [Act.put, List.setIfInBounds_toArray, List.set_cons_zero, List.set_cons_succ]
    refine wpAnyH_ready (rs := [4]) (by kernel_rfl) (by simp) ?_
    refine AllReadyH.cons rfl (fun K hK => ?_) AllReadyH.nil
    go_simp
    go_at_call 30
    refine (hof _ (Chg.refl _ _)).mono ?_
    rintro e w' ⟨rfl, rfl⟩
    refine hK.out _ _ hHeld (fun hHeld => ?_)
    clear hK K
    refine wpAnyH_ready (rs := [5]) (by kernel_rfl) (by simp) ?_
    refine AllReadyH.cons rfl (fun K hK => ?_) AllReadyH.nil
    go_simp
    go_at_call 29
    refine (hfo _).mono ?_
    rintro e w3 ⟨v3, rfl, ho3, hC3⟩
    have hx1 := run_convert_sl (P := Try.prog) 25 9 5 Try.underlying25 Try.underlying5 Try.underlying9 (Sl.of_owns ho3)
    rw [HX1.out] at hx1
    have hx3 := HX2.out _ hC3
    refine hK.out _ _ ⟨hC3, hx3⟩ (fun hHeld => ?_)
    clear hK K
    refine wpAnyH_change (S' := fun w' => w' = w3) (fun w' h => h ▸ ⟨hC3, hx3⟩) _ _ _ _ ?_
    refine' wpAnyH_take (i := 6) (oi := _) (v := .string S1) ?hib6 (by kernel_rfl) (by kernel_rfl) (by kernel_rfl) ?hqb6 (Or.inl ⟨?hwb6, fun w hSw => ?hyb6⟩) rfl ?hkb6
    case hib6 => (simp only [List.getElem?_toArray, List.getElem?_cons_succ, List.getElem?_cons_zero]; rfl)
    case hqb6 => exact fun _ _ _ h => h
    case hwb6 => rfl
    case hyb6 => (subst hSw; first | (go_simp; done) | (go_simp; with_reducible rfl))
    simp only [Act.put, List.setIfInBounds_toArray, List.set_cons_zero, List.set_cons_succ]
    refine' wpAnyH_take (i := 12) (oi := _) (v := .bool false) ?hib12 (by kernel_rfl) (by kernel_rfl) (by kernel_rfl) ?hqb12 (Or.inl ⟨?hwb12, fun w hSw => ?hyb12⟩) rfl ?hkb12
    case hib12 => (simp only [List.getElem?_toArray, List.getElem?_cons_succ, List.getElem?_cons_zero]; rfl)
    case hqb12 => exact fun _ _ _ h => h
    case hwb12 => rfl
    case hyb12 => (subst hSw; first | (go_simp; done) | (go_simp; with_reducible rfl))
    simp only [Act.put, List.setIfInBounds_toArray, List.set_cons_zero, List.set_cons_succ]
    refine' wpAnyH_take (i := 13) (oi := _) (v := .bool false) ?hib13 (by kernel_rfl) (by kernel_rfl) (by kernel_rfl) ?hqb13 (Or.inl ⟨?hwb13, fun w hSw => ?hyb13⟩) rfl ?hkb13
    case hib13 => (simp only [List.getElem?_toArray, List.getElem?_cons_succ, List.getElem?_cons_zero]; rfl)
    case hqb13 => exact fun _ _ _ h => h
    case hwb13 => rfl
    case hyb13 => (subst hSw; first | (go_simp; done) | (go_simp; with_reducible rfl))
    simp only [Act.put, List.setIfInBounds_toArray, List.set_cons_zero, List.set_cons_succ]
    refine wpAnyH_done (by kernel_rfl) ?_ _
    go_wp2
    go_ret
    exact ⟨rfl, ((Chg.refl _ w).drew).tr hC3⟩
theorem r5sound_any (v : Value) (xs : List UInt8) (w : World) (hS : Sl w v (xs.map B)) (hl : xs.length + 100 ≤ 140737488355328) : Calls Try.prog 19 #[v] w (GaveBo w (soundB xs)) := by
  obtain ⟨ao, c, rfl, _⟩ := hS.form
  rw [List.length_map] at hS ⊢
  by_cases h0 : xs.length = 0
  · have h : soundB xs = false := by unfold soundB openOk; rw [decide_eq_false (by omega)]; rfl
    rw [h]
    exact r5sound_no ao _ c w (.inl h0) (by omega)
  by_cases h1 : xs.length % 128 = 0
  · by_cases h2 : xs.length / 128 ≤ 64
    · have h := r5sound_main ao c xs.length (xs.length - 4) xs w rfl (by omega) hS hl h1 h2
      have e : soundB xs = decide (sealL (xs.take (xs.length - 4)) = xs) := by
        unfold soundB openOk sizB
        rw [decide_eq_true (show 4 ≤ xs.length by omega), decide_eq_true h1, decide_eq_true (show (1 : Int) ≤ ((xs.length / 128 : Nat) : Int) by omega), decide_eq_true (show ((xs.length / 128 : Nat) : Int) ≤ 64 by omega), Bool.true_and, Bool.true_and, Bool.and_true, Bool.and_true]
      rw [e]
      exact h
    · have h : soundB xs = false := by unfold soundB sizB; rw [decide_eq_false (show ¬ ((xs.length / 128 : Nat) : Int) ≤ 64 by omega), Bool.and_false, Bool.and_false, Bool.and_false]
      rw [h]
      exact r5sound_no ao _ c w (.inr (.inr ⟨h0, h1, by omega⟩)) (by omega)
  · have h : soundB xs = false := by unfold soundB; rw [decide_eq_false h1, Bool.false_and, Bool.and_false]
    rw [h]
    exact r5sound_no ao _ c w (.inr (.inl ⟨h0, h1⟩)) (by omega)
end Go.Proofs.Ytccpmbonipfmpaa
