/- CrcBursts' walk. -/
import Derived.Test.YtkckniipingkiaaBurstW
namespace Go.Proofs.Ytkckniipingkiaa
open Go.RowKit

theorem crcBursts_big (n c : Nat) (ao : Option Addr) (a t : Int) (W : World) (h1 : (2000 : Int) < n) : Calls Try.prog 6 #[.slice ao n c, .int .u16 a, .int .u32 t] W (True_ W) := by
  go_enter Try.func6, Try.ntmps6
  go_wp2_with fail
  refine (alive_any W).mono ?_
  rintro e w1 ⟨rfl, hC1⟩
  go_wp2
  go_ret
  exact ⟨rfl, hC1⟩

set_option maxRecDepth 100000 in
set_option maxHeartbeats 8000000 in
theorem crcBursts_main (ao : Option Addr) (c n : Nat) (xs : List UInt8) (a t : Nat) (W : World) (m1 : xs.length = n) (hS : Sl W (.slice ao n c) (xs.map B)) (h1 : ¬ (2000 : Int) < n) (ha : a < 65536) (ht : t < 4294967296) : Calls Try.prog 6 #[.slice ao n c, .int .u16 a, .int .u32 t] W (True_ W) := by
  obtain ⟨i0, hi, hz0, hz1, hz2⟩ := info_parts Try.info5
  have HS := Lib.hid hS
  have HM := Lib.hid m1
  clear hS m1
  go_enter Try.func6, Try.ntmps6
  go_wp2_with fail
  refine (alive_any W).mono ?_
  rintro e w1 ⟨rfl, hC1⟩
  have hsl := seal_any _ xs w1 (HS.out.fr hC1) (by rw [HM.out]; omega)
  go_wp2_with fail
  refine hsl.mono ?_
  clear hsl
  rintro e w2 ⟨v2, rfl, ho2, hC2⟩
  have hsn : (sealL xs).length = n + 4 := by rw [sealL_length, HM.out]
  obtain ⟨g, cap, rfl, hg, hcap, hcap2⟩ := own_some ho2 (by omega)
  have hR2 := rowB_of ho2
  obtain ⟨L, hL⟩ : ∃ L, (sealL xs).length = L := ⟨_, rfl⟩
  have hLn : L = n + 4 := by omega
  rw [hL] at hcap
  rw [hL]
  have hop := open_any _ (sealL xs) w2 (sl_of_row hR2 hL hcap hcap2) (by omega)
  rw [(open_seal xs).1, (open_seal xs).2] at hop
  have HLn := Lib.hid hLn
  clear hsn hL hLn ho2
  go_wp2_with fail
  refine hop.mono ?_
  clear hop
  rintro e w5 ⟨v5, rfl, ho5, hC5⟩
  obtain ⟨SX, hX, _, _⟩ := str_name xs
  have hk1 := run_convert_sl (P := Try.prog) 22 9 5 Try.underlying22 Try.underlying5 Try.underlying9 (Sl.of_owns ho5)
  have hk2 := run_convert_sl (P := Try.prog) 22 9 5 Try.underlying22 Try.underlying5 Try.underlying9 (HS.out.fr ((hC1.tr hC2).tr hC5))
  rw [hX] at hk1 hk2
  have hR5 := hR2.fr hC5 id
  have hC15 : Chg (fun _ => False) W w5 := (hC1.tr hC2).tr hC5
  have e1 : IntKind.i64.wrap ((n : Int) + 4) = (L : Int) := by have := HLn.out; rw [show (n : Int) + 4 = (L : Int) by omega]; exact IntWalk.i64_in _ (by omega)
  have e2 : IntKind.i64.wrap ((L : Int) - 4) = (n : Int) := by have := HLn.out; rw [show (L : Int) - 4 = (n : Int) by omega]; exact IntWalk.i64_in _ (by omega)
  have e3 : IntKind.i64.wrap ((n : Int) + 3) = (n : Int) + 3 := IntWalk.i64_in _ (by omega)
  have e4 : IntKind.i64.wrap ((n : Int) + 2) = (n : Int) + 2 := IntWalk.i64_in _ (by omega)
  have e5 : IntKind.i64.wrap ((n : Int) + 1) = (n : Int) + 1 := IntWalk.i64_in _ (by omega)
  have t3 : (0 : Int) ≤ (n : Int) + 3 := by omega
  have t2 : (0 : Int) ≤ (n : Int) + 2 := by omega
  have t1 : (0 : Int) ≤ (n : Int) + 1 := by omega
  have u3 : ((n : Int) + 3).toNat = n + 3 := by omega
  have u2 : ((n : Int) + 2).toNat = n + 2 := by omega
  have u1 : ((n : Int) + 1).toNat = n + 1 := by omega
  have b0 : (n : Int) ≤ (L : Int) := by have := HLn.out; omega
  have b1 : (n : Int) < (L : Int) := by have := HLn.out; omega
  have b2 : (n : Int) + 1 < (L : Int) := by have := HLn.out; omega
  have b3 : (n : Int) + 2 < (L : Int) := by have := HLn.out; omega
  have b4 : (n : Int) + 3 < (L : Int) := by have := HLn.out; omega
  have hm := moreN_lt xs (s := 0) (by decide)
  obtain ⟨m, hm0⟩ : ∃ m, moreN 0 xs = m := ⟨_, rfl⟩
  obtain ⟨p0, p1, p2, p3, hp⟩ : ∃ p0 p1 p2 p3, leB m 4 = [p0, p1, p2, p3] := ⟨_, _, _, _, rfl⟩
  have hse : sealL xs = xs ++ [p3, p2, p1, p0] := by unfold sealL; rw [be_rev, hm0, hp]; rfl
  rw [hse] at hR5
  have q0 := (hR5 (n + 3) p0 (by rw [List.getElem?_append_right (by rw [HM.out]; omega), HM.out, show n + 3 - n = 3 by omega]; rfl)).1
  have q1 := (hR5 (n + 2) p1 (by rw [List.getElem?_append_right (by rw [HM.out]; omega), HM.out, show n + 2 - n = 2 by omega]; rfl)).1
  have q2 := (hR5 (n + 1) p2 (by rw [List.getElem?_append_right (by rw [HM.out]; omega), HM.out, show n + 1 - n = 1 by omega]; rfl)).1
  have q3 := (hR5 n p3 (by rw [List.getElem?_append_right (by rw [HM.out]; omega), HM.out, Nat.sub_self]; rfl)).1
  obtain ⟨a1, d1, hS1, _, _, _, hcut⟩ := (sl_of_row hR5 (by rw [List.length_append, HM.out]; exact HLn.out.symm) hcap hcap2).slice 22 5 Try.underlying22 sizeOf_u8 0 n (Nat.zero_le _) (by rw [List.length_map, List.length_append, HM.out]; omega)
  replace hcut := hcut rfl
  rw [Nat.sub_zero] at hS1 hcut
  rw [List.drop_zero, ← List.map_take, List.take_left' HM.out] at hS1
  replace hS1 := hS1.fr ((Chg.refl _ w5).drew)
  have HP := Lib.hid hp
  have HM0 := Lib.hid hm0
  clear hR2 hR5 hse hp hm0 hm ho5 hX hC1 hC2 hC5
  have HYL := HM
  go_wp2_with fail
  have hP : ∀ w', Chg (fun _ => False) w5.drew w' → (Chg (fun _ => False) w5.drew w' ∧ w'.cell? ⟨g, n + 3, none⟩ = some (.int .u8 (p0.toNat : Int)) ∧ w'.cell? ⟨g, n + 2, none⟩ = some (.int .u8 (p1.toNat : Int)) ∧ w'.cell? ⟨g, n + 1, none⟩ = some (.int .u8 (p2.toNat : Int)) ∧ w'.cell? ⟨g, n, none⟩ = some (.int .u8 (p3.toNat : Int))) := fun w' h => ⟨h, h.cell (q0 : (w5.drew).cell? _ = _) id, h.cell (q1 : (w5.drew).cell? _ = _) id, h.cell (q2 : (w5.drew).cell? _ = _) id, h.cell (q3 : (w5.drew).cell? _ = _) id⟩
  have HPP := Lib.hid hP
  refine wp_region_held_drew (S := fun w' => Chg (fun _ => False) w5.drew w' ∧ w'.cell? ⟨g, n + 3, none⟩ = some (.int .u8 (p0.toNat : Int)) ∧ w'.cell? ⟨g, n + 2, none⟩ = some (.int .u8 (p1.toNat : Int)) ∧ w'.cell? ⟨g, n + 1, none⟩ = some (.int .u8 (p2.toNat : Int)) ∧ w'.cell? ⟨g, n, none⟩ = some (.int .u8 (p3.toNat : Int))) (by kernel_rfl) (hP _ (Chg.refl _ _)) (fun hHeld => ?_)
  clear hP
  refine' wpAnyH_take (i := 1) (oi := _) (v := .slice (some ⟨g, 0, none⟩) L cap) ?hia1 (by kernel_rfl) (by kernel_rfl) (by kernel_rfl) ?hqa1 (Or.inl ⟨?hwa1, fun w hSw => ?hya1⟩) hHeld ?hka1
  case hia1 => (simp only [List.getElem?_toArray, List.getElem?_cons_succ, List.getElem?_cons_zero]; rfl)
  case hqa1 => exact fun _ _ _ h => h
  case hwa1 => rfl
  case hya1 => first | (go_simp; done) | (go_simp; with_reducible rfl)
  simp only [Act.put, List.setIfInBounds_toArray, List.set_cons_zero, List.set_cons_succ]
  refine' wpAnyH_take (i := 2) (oi := _) (v := .int .i64 n) ?hia2 (by kernel_rfl) (by kernel_rfl) (by kernel_rfl) ?hqa2 (Or.inl ⟨?hwa2, fun w hSw => ?hya2⟩) hHeld ?hka2
  case hia2 => (simp only [List.getElem?_toArray, List.getElem?_cons_succ, List.getElem?_cons_zero]; rfl)
  case hqa2 => exact fun _ _ _ h => h
  case hwa2 => rfl
  case hya2 => first | (go_simp; done) | (go_simp; with_reducible rfl)
  simp only [Act.put, List.setIfInBounds_toArray, List.set_cons_zero, List.set_cons_succ]
  refine' wpAnyH_take (i := 3) (oi := _) (v := .slice a1 n d1) ?hia3 (by kernel_rfl) (by kernel_rfl) (by kernel_rfl) ?hqa3 (Or.inl ⟨?hwa3, fun w hSw => ?hya3⟩) hHeld ?hka3
  case hia3 => (simp only [List.getElem?_toArray, List.getElem?_cons_succ, List.getElem?_cons_zero]; rfl)
  case hqa3 => exact fun _ _ _ h => h
  case hwa3 => rfl
  case hya3 => first | (go_simp; done) | (go_simp; with_reducible rfl)
  simp only [Act.put, List.setIfInBounds_toArray, List.set_cons_zero, List.set_cons_succ]
  refine' wpAnyH_take (i := 5) (oi := _) (v := .slice (some ⟨g, 0, none⟩) L cap) ?hia5 (by kernel_rfl) (by kernel_rfl) (by kernel_rfl) ?hqa5 (Or.inl ⟨?hwa5, fun w hSw => ?hya5⟩) hHeld ?hka5
  case hia5 => (simp only [List.getElem?_toArray, List.getElem?_cons_succ, List.getElem?_cons_zero]; rfl)
  case hqa5 => exact fun _ _ _ h => h
  case hwa5 => rfl
  case hya5 => first | (go_simp; done) | (go_simp; with_reducible rfl)
  simp only [Act.put, List.setIfInBounds_toArray, List.set_cons_zero, List.set_cons_succ]
  refine' wpAnyH_take (i := 6) (oi := _) (v := .int .i64 n) ?hia6 (by kernel_rfl) (by kernel_rfl) (by kernel_rfl) ?hqa6 (Or.inl ⟨?hwa6, fun w hSw => ?hya6⟩) hHeld ?hka6
  case hia6 => (simp only [List.getElem?_toArray, List.getElem?_cons_succ, List.getElem?_cons_zero]; rfl)
  case hqa6 => exact fun _ _ _ h => h
  case hwa6 => rfl
  case hya6 => first | (go_simp; done) | (go_simp; with_reducible rfl)
  simp only [Act.put, List.setIfInBounds_toArray, List.set_cons_zero, List.set_cons_succ]
  refine' wpAnyH_take (i := 7) (oi := _) (v := .int .i64 ((n : Int) + 3)) ?hia7 (by kernel_rfl) (by kernel_rfl) (by kernel_rfl) ?hqa7 (Or.inl ⟨?hwa7, fun w hSw => ?hya7⟩) hHeld ?hka7
  case hia7 => (simp only [List.getElem?_toArray, List.getElem?_cons_succ, List.getElem?_cons_zero]; rfl)
  case hqa7 => exact fun _ _ _ h => h
  case hwa7 => rfl
  case hya7 => first | (go_simp; done) | (go_simp; with_reducible rfl)
  simp only [Act.put, List.setIfInBounds_toArray, List.set_cons_zero, List.set_cons_succ]
  refine' wpAnyH_take (i := 8) (oi := _) (v := .pointer (some ⟨g, n + 3, none⟩)) ?hia8 (by kernel_rfl) (by kernel_rfl) (by kernel_rfl) ?hqa8 (Or.inl ⟨?hwa8, fun w hSw => ?hya8⟩) hHeld ?hka8
  case hia8 => (simp only [List.getElem?_toArray, List.getElem?_cons_succ, List.getElem?_cons_zero]; rfl)
  case hqa8 => exact fun _ _ _ h => h
  case hwa8 => rfl
  case hya8 => first | (go_simp; done) | (go_simp; with_reducible rfl)
  simp only [Act.put, List.setIfInBounds_toArray, List.set_cons_zero, List.set_cons_succ]
  refine' wpAnyH_take (i := 9) (oi := _) (v := .int .u8 (p0.toNat : Int)) ?hia9 (by kernel_rfl) (by kernel_rfl) (by kernel_rfl) ?hqa9 (Or.inl ⟨?hwa9, fun w hSw => ?hya9⟩) hHeld ?hka9
  case hia9 => (simp only [List.getElem?_toArray, List.getElem?_cons_succ, List.getElem?_cons_zero]; rfl)
  case hqa9 => exact fun _ _ _ h => h
  case hwa9 => rfl
  case hya9 => first | (go_simp; done) | (go_simp; with_reducible rfl)
  simp only [Act.put, List.setIfInBounds_toArray, List.set_cons_zero, List.set_cons_succ]
  refine' wpAnyH_take (i := 10) (oi := _) (v := .slice (some ⟨g, 0, none⟩) L cap) ?hia10 (by kernel_rfl) (by kernel_rfl) (by kernel_rfl) ?hqa10 (Or.inl ⟨?hwa10, fun w hSw => ?hya10⟩) hHeld ?hka10
  case hia10 => (simp only [List.getElem?_toArray, List.getElem?_cons_succ, List.getElem?_cons_zero]; rfl)
  case hqa10 => exact fun _ _ _ h => h
  case hwa10 => rfl
  case hya10 => first | (go_simp; done) | (go_simp; with_reducible rfl)
  simp only [Act.put, List.setIfInBounds_toArray, List.set_cons_zero, List.set_cons_succ]
  refine' wpAnyH_take (i := 11) (oi := _) (v := .int .i64 n) ?hia11 (by kernel_rfl) (by kernel_rfl) (by kernel_rfl) ?hqa11 (Or.inl ⟨?hwa11, fun w hSw => ?hya11⟩) hHeld ?hka11
  case hia11 => (simp only [List.getElem?_toArray, List.getElem?_cons_succ, List.getElem?_cons_zero]; rfl)
  case hqa11 => exact fun _ _ _ h => h
  case hwa11 => rfl
  case hya11 => first | (go_simp; done) | (go_simp; with_reducible rfl)
  simp only [Act.put, List.setIfInBounds_toArray, List.set_cons_zero, List.set_cons_succ]
  refine' wpAnyH_take (i := 12) (oi := _) (v := .int .i64 ((n : Int) + 2)) ?hia12 (by kernel_rfl) (by kernel_rfl) (by kernel_rfl) ?hqa12 (Or.inl ⟨?hwa12, fun w hSw => ?hya12⟩) hHeld ?hka12
  case hia12 => (simp only [List.getElem?_toArray, List.getElem?_cons_succ, List.getElem?_cons_zero]; rfl)
  case hqa12 => exact fun _ _ _ h => h
  case hwa12 => rfl
  case hya12 => first | (go_simp; done) | (go_simp; with_reducible rfl)
  simp only [Act.put, List.setIfInBounds_toArray, List.set_cons_zero, List.set_cons_succ]
  refine' wpAnyH_take (i := 13) (oi := _) (v := .pointer (some ⟨g, n + 2, none⟩)) ?hia13 (by kernel_rfl) (by kernel_rfl) (by kernel_rfl) ?hqa13 (Or.inl ⟨?hwa13, fun w hSw => ?hya13⟩) hHeld ?hka13
  case hia13 => (simp only [List.getElem?_toArray, List.getElem?_cons_succ, List.getElem?_cons_zero]; rfl)
  case hqa13 => exact fun _ _ _ h => h
  case hwa13 => rfl
  case hya13 => first | (go_simp; done) | (go_simp; with_reducible rfl)
  simp only [Act.put, List.setIfInBounds_toArray, List.set_cons_zero, List.set_cons_succ]
  refine' wpAnyH_take (i := 14) (oi := _) (v := .int .u8 (p1.toNat : Int)) ?hia14 (by kernel_rfl) (by kernel_rfl) (by kernel_rfl) ?hqa14 (Or.inl ⟨?hwa14, fun w hSw => ?hya14⟩) hHeld ?hka14
  case hia14 => (simp only [List.getElem?_toArray, List.getElem?_cons_succ, List.getElem?_cons_zero]; rfl)
  case hqa14 => exact fun _ _ _ h => h
  case hwa14 => rfl
  case hya14 => first | (go_simp; done) | (go_simp; with_reducible rfl)
  simp only [Act.put, List.setIfInBounds_toArray, List.set_cons_zero, List.set_cons_succ]
  refine' wpAnyH_take (i := 15) (oi := _) (v := .slice (some ⟨g, 0, none⟩) L cap) ?hia15 (by kernel_rfl) (by kernel_rfl) (by kernel_rfl) ?hqa15 (Or.inl ⟨?hwa15, fun w hSw => ?hya15⟩) hHeld ?hka15
  case hia15 => (simp only [List.getElem?_toArray, List.getElem?_cons_succ, List.getElem?_cons_zero]; rfl)
  case hqa15 => exact fun _ _ _ h => h
  case hwa15 => rfl
  case hya15 => first | (go_simp; done) | (go_simp; with_reducible rfl)
  simp only [Act.put, List.setIfInBounds_toArray, List.set_cons_zero, List.set_cons_succ]
  refine' wpAnyH_take (i := 16) (oi := _) (v := .int .i64 n) ?hia16 (by kernel_rfl) (by kernel_rfl) (by kernel_rfl) ?hqa16 (Or.inl ⟨?hwa16, fun w hSw => ?hya16⟩) hHeld ?hka16
  case hia16 => (simp only [List.getElem?_toArray, List.getElem?_cons_succ, List.getElem?_cons_zero]; rfl)
  case hqa16 => exact fun _ _ _ h => h
  case hwa16 => rfl
  case hya16 => first | (go_simp; done) | (go_simp; with_reducible rfl)
  simp only [Act.put, List.setIfInBounds_toArray, List.set_cons_zero, List.set_cons_succ]
  refine' wpAnyH_take (i := 17) (oi := _) (v := .int .i64 ((n : Int) + 1)) ?hia17 (by kernel_rfl) (by kernel_rfl) (by kernel_rfl) ?hqa17 (Or.inl ⟨?hwa17, fun w hSw => ?hya17⟩) hHeld ?hka17
  case hia17 => (simp only [List.getElem?_toArray, List.getElem?_cons_succ, List.getElem?_cons_zero]; rfl)
  case hqa17 => exact fun _ _ _ h => h
  case hwa17 => rfl
  case hya17 => first | (go_simp; done) | (go_simp; with_reducible rfl)
  simp only [Act.put, List.setIfInBounds_toArray, List.set_cons_zero, List.set_cons_succ]
  refine' wpAnyH_take (i := 18) (oi := _) (v := .pointer (some ⟨g, n + 1, none⟩)) ?hia18 (by kernel_rfl) (by kernel_rfl) (by kernel_rfl) ?hqa18 (Or.inl ⟨?hwa18, fun w hSw => ?hya18⟩) hHeld ?hka18
  case hia18 => (simp only [List.getElem?_toArray, List.getElem?_cons_succ, List.getElem?_cons_zero]; rfl)
  case hqa18 => exact fun _ _ _ h => h
  case hwa18 => rfl
  case hya18 => first | (go_simp; done) | (go_simp; with_reducible rfl)
  simp only [Act.put, List.setIfInBounds_toArray, List.set_cons_zero, List.set_cons_succ]
  refine' wpAnyH_take (i := 19) (oi := _) (v := .int .u8 (p2.toNat : Int)) ?hia19 (by kernel_rfl) (by kernel_rfl) (by kernel_rfl) ?hqa19 (Or.inl ⟨?hwa19, fun w hSw => ?hya19⟩) hHeld ?hka19
  case hia19 => (simp only [List.getElem?_toArray, List.getElem?_cons_succ, List.getElem?_cons_zero]; rfl)
  case hqa19 => exact fun _ _ _ h => h
  case hwa19 => rfl
  case hya19 => first | (go_simp; done) | (go_simp; with_reducible rfl)
  simp only [Act.put, List.setIfInBounds_toArray, List.set_cons_zero, List.set_cons_succ]
  refine' wpAnyH_take (i := 20) (oi := _) (v := .slice (some ⟨g, 0, none⟩) L cap) ?hia20 (by kernel_rfl) (by kernel_rfl) (by kernel_rfl) ?hqa20 (Or.inl ⟨?hwa20, fun w hSw => ?hya20⟩) hHeld ?hka20
  case hia20 => (simp only [List.getElem?_toArray, List.getElem?_cons_succ, List.getElem?_cons_zero]; rfl)
  case hqa20 => exact fun _ _ _ h => h
  case hwa20 => rfl
  case hya20 => first | (go_simp; done) | (go_simp; with_reducible rfl)
  simp only [Act.put, List.setIfInBounds_toArray, List.set_cons_zero, List.set_cons_succ]
  refine' wpAnyH_take (i := 21) (oi := _) (v := .int .i64 n) ?hia21 (by kernel_rfl) (by kernel_rfl) (by kernel_rfl) ?hqa21 (Or.inl ⟨?hwa21, fun w hSw => ?hya21⟩) hHeld ?hka21
  case hia21 => (simp only [List.getElem?_toArray, List.getElem?_cons_succ, List.getElem?_cons_zero]; rfl)
  case hqa21 => exact fun _ _ _ h => h
  case hwa21 => rfl
  case hya21 => first | (go_simp; done) | (go_simp; with_reducible rfl)
  simp only [Act.put, List.setIfInBounds_toArray, List.set_cons_zero, List.set_cons_succ]
  refine' wpAnyH_take (i := 22) (oi := _) (v := .pointer (some ⟨g, n, none⟩)) ?hia22 (by kernel_rfl) (by kernel_rfl) (by kernel_rfl) ?hqa22 (Or.inl ⟨?hwa22, fun w hSw => ?hya22⟩) hHeld ?hka22
  case hia22 => (simp only [List.getElem?_toArray, List.getElem?_cons_succ, List.getElem?_cons_zero]; rfl)
  case hqa22 => exact fun _ _ _ h => h
  case hwa22 => rfl
  case hya22 => first | (go_simp; done) | (go_simp; with_reducible rfl)
  simp only [Act.put, List.setIfInBounds_toArray, List.set_cons_zero, List.set_cons_succ]
  refine' wpAnyH_take (i := 23) (oi := _) (v := .int .u8 (p3.toNat : Int)) ?hia23 (by kernel_rfl) (by kernel_rfl) (by kernel_rfl) ?hqa23 (Or.inl ⟨?hwa23, fun w hSw => ?hya23⟩) hHeld ?hka23
  case hia23 => (simp only [List.getElem?_toArray, List.getElem?_cons_succ, List.getElem?_cons_zero]; rfl)
  case hqa23 => exact fun _ _ _ h => h
  case hwa23 => rfl
  case hya23 => first | (go_simp; done) | (go_simp; with_reducible rfl)
  simp only [Act.put, List.setIfInBounds_toArray, List.set_cons_zero, List.set_cons_succ]
  refine wpAnyH_ready (rs := [0, 24]) (by kernel_rfl) (by simp) ?_
  refine' AllReadyH.cons (o := _) ?hoa1 (fun K hK => ?c0a) (AllReadyH.cons (o := _) ?hpa1 (fun K hK => ?c24a) AllReadyH.nil)
  case hoa1 => (simp only [List.getElem?_toArray, List.getElem?_cons_zero]; rfl)
  case hpa1 => (simp only [List.getElem?_toArray, List.getElem?_cons_succ, List.getElem?_cons_zero]; rfl)
  case c0a =>
    go_simp
    refine hK.out _ _ (HPP.out _ ((Chg.refl (fun _ => False) w5.drew).alloc (.cells #[] 5))) (fun hHeld => ?_)
    clear hK K
    refine wpAnyH_ready (rs := [4, 24]) (by kernel_rfl) (by simp) ?_
    refine' AllReadyH.cons (o := _) ?hoa2 (fun K hK => ?c4a) (AllReadyH.cons (o := _) ?hpa2 (fun K hK => ?c24ba) AllReadyH.nil)
    case hoa2 => (simp only [List.getElem?_toArray, List.getElem?_cons_succ, List.getElem?_cons_zero]; rfl)
    case hpa2 => (simp only [List.getElem?_toArray, List.getElem?_cons_succ, List.getElem?_cons_zero]; rfl)
    case c4a =>
      refine step_append_own rfl (.tmp 54) (.tmp 57) 22 rfl w5.heap.size 5 i0 (.int .u8 0) 1 1 Try.underlying22 hi hz0 hz1 hz2 rfl (by decide) (.slice (some ⟨w5.heap.size, 0, none⟩) 0 0) 0 [] (by simp [Act.eval]) (World.ownsRow_lit w5.drew #[] 0 (Nat.le_refl _) (Nat.zero_le _) rfl) a1 n d1 (xs.map B) (by simp [Act.eval]) (by rw [List.length_map, HYL.out]; omega) (hS1.fr (((Chg.refl (fun _ => False) w5.drew).alloc (.cells #[] 5)))).src (oneCellB _) (by unfold maxLen; omega) (by omega) (by first | (simp; done) | (simp; omega)) ?_
      intro va2 xa2 howna2 hga2 _ hOa2
      have hDa2 : Chg (fun _ => False) w5.drew xa2 := (((Chg.refl (fun _ => False) w5.drew).alloc (.cells #[] 5))).grown hga2 (fun k e => .inr (by simp [Value.ownBlock] at e; simp; omega))
      refine hK.out _ _ (HPP.out _ hDa2) (fun hHeld => ?_)
      clear hK K
      simp only [Act.put, List.setIfInBounds_toArray, List.set_cons_zero, List.set_cons_succ]
      refine wpAnyH_ready (rs := [24]) (by kernel_rfl) (by simp) ?_
      refine' AllReadyH.cons (o := _) ?hoa3 (fun K hK => ?hsa3) AllReadyH.nil
      case hoa3 => (simp only [List.getElem?_toArray, List.getElem?_cons_succ, List.getElem?_cons_zero]; rfl)
      go_simp
      refine hK.out _ _ (HPP.out _ (hDa2.alloc (.cells #[.int .u8 (p0.toNat : Int), .int .u8 (p1.toNat : Int), .int .u8 (p2.toNat : Int), .int .u8 (p3.toNat : Int)] 5))) (fun hHeld => ?_)
      clear hK K
      refine wpAnyH_ready (rs := [25]) (by kernel_rfl) (by simp) ?_
      refine' AllReadyH.cons (o := _) ?hoa4 (fun K hK => ?hsa4) AllReadyH.nil
      case hoa4 => (simp only [List.getElem?_toArray, List.getElem?_cons_succ, List.getElem?_cons_zero]; rfl)
      refine step_append_own rfl (.tmp 58) (.tmp 78) 22 rfl w5.heap.size 5 i0 (.int .u8 0) 1 1 Try.underlying22 hi hz0 hz1 hz2 rfl (by decide) va2 _ _ (by simp [Act.eval]) (howna2.alloc _) _ 4 4 ([p0, p1, p2, p3].map B) (by simp [Act.eval]) rfl (Sl.lit xa2 ([p0, p1, p2, p3].map B) 5 (by show 4 ≤ maxLen; decide)).src (oneCellB _) (by unfold maxLen; omega) (by omega) (by have := hDa2.size; simp at *; omega) ?_
      intro va4 xa4 howna4 hga4 _ hOa4
      have hDa4 : Chg (fun _ => False) w5.drew xa4 := (hDa2.alloc (.cells #[.int .u8 (p0.toNat : Int), .int .u8 (p1.toNat : Int), .int .u8 (p2.toNat : Int), .int .u8 (p3.toNat : Int)] 5)).grown hga4 (fun k e => .inr (howna2.lt k e).1)
      refine hK.out _ _ (HPP.out _ hDa4) (fun hHeld => ?_)
      clear hK K
      simp only [Act.put, List.setIfInBounds_toArray, List.set_cons_zero, List.set_cons_succ]
      refine' wpAnyH_take (i := 26) (oi := _) (v := va4) ?hiaz526 (by kernel_rfl) (by kernel_rfl) (by kernel_rfl) ?hqaz526 (Or.inl ⟨?hwaz526, fun w hSw => ?hyaz526⟩) hHeld ?hkaz526
      case hiaz526 => (simp only [List.getElem?_toArray, List.getElem?_cons_succ, List.getElem?_cons_zero]; rfl)
      case hqaz526 => exact fun _ _ _ h => h
      case hwaz526 => rfl
      case hyaz526 => first | (go_simp; done) | (go_simp; with_reducible rfl)
      simp only [Act.put, List.setIfInBounds_toArray, List.set_cons_zero, List.set_cons_succ]
      refine wpAnyH_done (by kernel_rfl) ?_ _
      have hbits : [] ++ xs.map B ++ [p0, p1, p2, p3].map B = (xs ++ [p0, p1, p2, p3]).map B := by rw [List.nil_append, ← List.map_append]
      rw [hbits, show 0 + n + 4 = L by have := HLn.out; omega] at howna4
      clear hbits howna2 hga2 hOa2 hga4 hOa4 hDa2 hHeld q0 q1 q2 q3 hcut hS1
      obtain ⟨g2, cp2, rfl, hg2, hcp2, hcp3⟩ := own_some howna4 (by have := HLn.out; omega)
      have hR6 := rowB_of howna4
      have hC6 : Chg (fun _ => False) W xa4 := (hC15.tr ((Chg.refl _ w5).drew)).tr hDa4
      have hg2lt : W.heap.size ≤ g2 := by have := hC15.size; have h2 : w5.heap.size ≤ g2 := hg2; omega
      clear howna4 hDa4
      obtain ⟨w6, rfl⟩ : ∃ w6, w6 = xa4 := ⟨_, rfl⟩
      obtain ⟨d, hd⟩ : ∃ d, 8 * L - 31 = d := ⟨_, rfl⟩
      obtain ⟨f, hf⟩ : ∃ f, a % d = f := ⟨_, rfl⟩
      have hd1 : 8 * n + 1 = d := by have := HLn.out; omega
      have hf1 : f ≤ 8 * n := by have := Nat.mod_lt a (show 0 < d by omega); omega
      have e6 : IntKind.i64.wrap (8 * (L : Int)) = 8 * (L : Int) := IntWalk.i64_in _ (by have := HLn.out; omega)
      have e7 : IntKind.i64.wrap (8 * (L : Int) - 31) = (d : Int) := by rw [show 8 * (L : Int) - 31 = (d : Int) by have := HLn.out; omega]; exact IntWalk.i64_in _ (by omega)
      have e8 : Int.tmod (a : Int) (d : Int) = (f : Int) := by rw [← hf]; rfl
      have e9 : ¬ d = 0 := by omega
      have e0 : wrap64 (a : Int) = (a : Int) := wrap_nat a (by omega)
      have HF1 := Lib.hid hf1
      have hl32 : L < 4294967296 := by have := HLn.out; omega
      have HL32 := Lib.hid hl32
      have HLX := Lib.hid (show (xs ++ [p0, p1, p2, p3]).length = L by rw [List.length_append, HM.out]; exact HLn.out.symm)
      have HT := Lib.hid ht
      clear hd hf hd1 hf1 hl32 hC15 hg hg2 ht ha
      go_wp2
      go_loopw [14] (fun i wr => ∃ k : Nat, k ≤ 32 ∧ i = .int .i64 k ∧ Chg (fun q => q = g2) w6 wr ∧ RowB wr g2 (xorB (xs ++ [p0, p1, p2, p3]) (leB (turnX t f k) (xs ++ [p0, p1, p2, p3]).length)))
        (fun i _ => 32 - (intOf i).toNat)
      case atStart =>
        refine ⟨0, Nat.zero_le _, rfl, Chg.refl _ _, ?_⟩
        rw [show turnX t f 0 = 0 from rfl, xorB_zero]
        exact hR6
      case round =>
        obtain ⟨k, hk, rfl, hCz, hRz⟩ := hrel
        by_cases hlt : k < 32
        · have hk2 : (k : Int) < 32 := by omega
          have hsh : ((t / 2 ^ k : Nat) : Int) = (t : Int) / 2 ^ k := by rw [Int.natCast_ediv]; norm_cast
          have hand := and_u32_one (t / 2 ^ k) (Nat.lt_of_le_of_lt (Nat.div_le_self _ _) HT.out)
          rw [hsh] at hand
          by_cases hp : t / 2 ^ k % 2 = 1
          · rw [hp] at hand
            obtain ⟨s, q, r, P, y, v1, v2, v3, v4, v5, v6, v7, v8, v9, v10, v11, v12, v13, v14, v15, hcl, hfz, hset⟩ := round_one (xs ++ [p0, p1, p2, p3]) t f k L wr g2 HLX.out HL32.out (by have := HF1.out; have := HLn.out; omega) hp hRz
            have HSET := Lib.hid hset
            clear hset hRz hp hsh
            go_wp2
            refine ⟨⟨k + 1, by omega, by go_num, hCz.setCell (p := ⟨g2, q, none⟩) (.inl rfl) _, ?_⟩, ?_⟩
            · rw [← (show (y ^^^ UInt8.ofNat P).toNat = y.toNat ^^^ P % 256 by rw [UInt8.toNat_xor, UInt8.toNat_ofNat'])]; exact HSET.out
            · first | (simp [intOf]; done) | (simp [intOf]; omega)
          · rw [show t / 2 ^ k % 2 = 0 by omega] at hand
            have HNX := Lib.hid (show turnX t f (k + 1) = turnX t f k from if_neg hp)
            clear hp hsh
            go_wp2
            go_roundw
            case rel => exact ⟨k + 1, by omega, by go_num, hCz, by rw [HNX.out]; exact hRz⟩
            case measure => first | (simp [intOf]; done) | (simp [intOf]; omega)
        · obtain rfl : k = 32 := by omega
          obtain ⟨zs, z0, z1, z2, z3, hzl, hRw, hok⟩ := turned xs t f n m p0 p1 p2 p3 HM.out HT.out HF1.out HM0.out HP.out wr g2 hRz
          have HYL := Lib.hid hzl
          have HOK := Lib.hid hok
          have hC7 : Chg (fun _ => False) W wr := hC6.trans hCz (fun _ _ h => h) (fun k hk h => by omega)
          obtain ⟨q0, q1, q2, q3⟩ := row_four hRw hzl
          obtain ⟨a1, d1, hS1, _, _, _, hcut⟩ := (sl_of_row hRw (by rw [List.length_append, hzl]; exact HLn.out.symm) hcp2 hcp3).slice 22 5 Try.underlying22 sizeOf_u8 0 n (Nat.zero_le _) (by rw [List.length_map, List.length_append, hzl]; omega)
          replace hcut := hcut rfl
          rw [Nat.sub_zero] at hS1 hcut
          rw [List.drop_zero, ← List.map_take, List.take_left' hzl] at hS1
          replace hS1 := hS1.fr ((Chg.refl _ wr).drew)
          clear hRz hRw hCz hlt hk hzl hok hC6 hR6 hg2lt
          go_wp2_with fail
          have hP : ∀ w', Chg (fun _ => False) wr.drew w' → (Chg (fun _ => False) wr.drew w' ∧ w'.cell? ⟨g2, n + 3, none⟩ = some (.int .u8 (z3.toNat : Int)) ∧ w'.cell? ⟨g2, n + 2, none⟩ = some (.int .u8 (z2.toNat : Int)) ∧ w'.cell? ⟨g2, n + 1, none⟩ = some (.int .u8 (z1.toNat : Int)) ∧ w'.cell? ⟨g2, n, none⟩ = some (.int .u8 (z0.toNat : Int))) := fun w' h => ⟨h, h.cell (q0 : (wr.drew).cell? _ = _) id, h.cell (q1 : (wr.drew).cell? _ = _) id, h.cell (q2 : (wr.drew).cell? _ = _) id, h.cell (q3 : (wr.drew).cell? _ = _) id⟩
          have HPP := Lib.hid hP
          refine wp_region_held_drew (S := fun w' => Chg (fun _ => False) wr.drew w' ∧ w'.cell? ⟨g2, n + 3, none⟩ = some (.int .u8 (z3.toNat : Int)) ∧ w'.cell? ⟨g2, n + 2, none⟩ = some (.int .u8 (z2.toNat : Int)) ∧ w'.cell? ⟨g2, n + 1, none⟩ = some (.int .u8 (z1.toNat : Int)) ∧ w'.cell? ⟨g2, n, none⟩ = some (.int .u8 (z0.toNat : Int))) (by kernel_rfl) (hP _ (Chg.refl _ _)) (fun hHeld => ?_)
          clear hP
          refine' wpAnyH_take (i := 1) (oi := _) (v := .slice (some ⟨g2, 0, none⟩) L cp2) ?hib1 (by kernel_rfl) (by kernel_rfl) (by kernel_rfl) ?hqb1 (Or.inl ⟨?hwb1, fun w hSw => ?hyb1⟩) hHeld ?hkb1
          case hib1 => (simp only [List.getElem?_toArray, List.getElem?_cons_succ, List.getElem?_cons_zero]; rfl)
          case hqb1 => exact fun _ _ _ h => h
          case hwb1 => rfl
          case hyb1 => first | (go_simp; done) | (go_simp; with_reducible rfl)
          simp only [Act.put, List.setIfInBounds_toArray, List.set_cons_zero, List.set_cons_succ]
          refine' wpAnyH_take (i := 2) (oi := _) (v := .int .i64 n) ?hib2 (by kernel_rfl) (by kernel_rfl) (by kernel_rfl) ?hqb2 (Or.inl ⟨?hwb2, fun w hSw => ?hyb2⟩) hHeld ?hkb2
          case hib2 => (simp only [List.getElem?_toArray, List.getElem?_cons_succ, List.getElem?_cons_zero]; rfl)
          case hqb2 => exact fun _ _ _ h => h
          case hwb2 => rfl
          case hyb2 => first | (go_simp; done) | (go_simp; with_reducible rfl)
          simp only [Act.put, List.setIfInBounds_toArray, List.set_cons_zero, List.set_cons_succ]
          refine' wpAnyH_take (i := 3) (oi := _) (v := .slice a1 n d1) ?hib3 (by kernel_rfl) (by kernel_rfl) (by kernel_rfl) ?hqb3 (Or.inl ⟨?hwb3, fun w hSw => ?hyb3⟩) hHeld ?hkb3
          case hib3 => (simp only [List.getElem?_toArray, List.getElem?_cons_succ, List.getElem?_cons_zero]; rfl)
          case hqb3 => exact fun _ _ _ h => h
          case hwb3 => rfl
          case hyb3 => first | (go_simp; done) | (go_simp; with_reducible rfl)
          simp only [Act.put, List.setIfInBounds_toArray, List.set_cons_zero, List.set_cons_succ]
          refine' wpAnyH_take (i := 5) (oi := _) (v := .slice (some ⟨g2, 0, none⟩) L cp2) ?hib5 (by kernel_rfl) (by kernel_rfl) (by kernel_rfl) ?hqb5 (Or.inl ⟨?hwb5, fun w hSw => ?hyb5⟩) hHeld ?hkb5
          case hib5 => (simp only [List.getElem?_toArray, List.getElem?_cons_succ, List.getElem?_cons_zero]; rfl)
          case hqb5 => exact fun _ _ _ h => h
          case hwb5 => rfl
          case hyb5 => first | (go_simp; done) | (go_simp; with_reducible rfl)
          simp only [Act.put, List.setIfInBounds_toArray, List.set_cons_zero, List.set_cons_succ]
          refine' wpAnyH_take (i := 6) (oi := _) (v := .int .i64 n) ?hib6 (by kernel_rfl) (by kernel_rfl) (by kernel_rfl) ?hqb6 (Or.inl ⟨?hwb6, fun w hSw => ?hyb6⟩) hHeld ?hkb6
          case hib6 => (simp only [List.getElem?_toArray, List.getElem?_cons_succ, List.getElem?_cons_zero]; rfl)
          case hqb6 => exact fun _ _ _ h => h
          case hwb6 => rfl
          case hyb6 => first | (go_simp; done) | (go_simp; with_reducible rfl)
          simp only [Act.put, List.setIfInBounds_toArray, List.set_cons_zero, List.set_cons_succ]
          refine' wpAnyH_take (i := 7) (oi := _) (v := .int .i64 ((n : Int) + 3)) ?hib7 (by kernel_rfl) (by kernel_rfl) (by kernel_rfl) ?hqb7 (Or.inl ⟨?hwb7, fun w hSw => ?hyb7⟩) hHeld ?hkb7
          case hib7 => (simp only [List.getElem?_toArray, List.getElem?_cons_succ, List.getElem?_cons_zero]; rfl)
          case hqb7 => exact fun _ _ _ h => h
          case hwb7 => rfl
          case hyb7 => first | (go_simp; done) | (go_simp; with_reducible rfl)
          simp only [Act.put, List.setIfInBounds_toArray, List.set_cons_zero, List.set_cons_succ]
          refine' wpAnyH_take (i := 8) (oi := _) (v := .pointer (some ⟨g2, n + 3, none⟩)) ?hib8 (by kernel_rfl) (by kernel_rfl) (by kernel_rfl) ?hqb8 (Or.inl ⟨?hwb8, fun w hSw => ?hyb8⟩) hHeld ?hkb8
          case hib8 => (simp only [List.getElem?_toArray, List.getElem?_cons_succ, List.getElem?_cons_zero]; rfl)
          case hqb8 => exact fun _ _ _ h => h
          case hwb8 => rfl
          case hyb8 => first | (go_simp; done) | (go_simp; with_reducible rfl)
          simp only [Act.put, List.setIfInBounds_toArray, List.set_cons_zero, List.set_cons_succ]
          refine' wpAnyH_take (i := 9) (oi := _) (v := .int .u8 (z3.toNat : Int)) ?hib9 (by kernel_rfl) (by kernel_rfl) (by kernel_rfl) ?hqb9 (Or.inl ⟨?hwb9, fun w hSw => ?hyb9⟩) hHeld ?hkb9
          case hib9 => (simp only [List.getElem?_toArray, List.getElem?_cons_succ, List.getElem?_cons_zero]; rfl)
          case hqb9 => exact fun _ _ _ h => h
          case hwb9 => rfl
          case hyb9 => first | (go_simp; done) | (go_simp; with_reducible rfl)
          simp only [Act.put, List.setIfInBounds_toArray, List.set_cons_zero, List.set_cons_succ]
          refine' wpAnyH_take (i := 10) (oi := _) (v := .slice (some ⟨g2, 0, none⟩) L cp2) ?hib10 (by kernel_rfl) (by kernel_rfl) (by kernel_rfl) ?hqb10 (Or.inl ⟨?hwb10, fun w hSw => ?hyb10⟩) hHeld ?hkb10
          case hib10 => (simp only [List.getElem?_toArray, List.getElem?_cons_succ, List.getElem?_cons_zero]; rfl)
          case hqb10 => exact fun _ _ _ h => h
          case hwb10 => rfl
          case hyb10 => first | (go_simp; done) | (go_simp; with_reducible rfl)
          simp only [Act.put, List.setIfInBounds_toArray, List.set_cons_zero, List.set_cons_succ]
          refine' wpAnyH_take (i := 11) (oi := _) (v := .int .i64 n) ?hib11 (by kernel_rfl) (by kernel_rfl) (by kernel_rfl) ?hqb11 (Or.inl ⟨?hwb11, fun w hSw => ?hyb11⟩) hHeld ?hkb11
          case hib11 => (simp only [List.getElem?_toArray, List.getElem?_cons_succ, List.getElem?_cons_zero]; rfl)
          case hqb11 => exact fun _ _ _ h => h
          case hwb11 => rfl
          case hyb11 => first | (go_simp; done) | (go_simp; with_reducible rfl)
          simp only [Act.put, List.setIfInBounds_toArray, List.set_cons_zero, List.set_cons_succ]
          refine' wpAnyH_take (i := 12) (oi := _) (v := .int .i64 ((n : Int) + 2)) ?hib12 (by kernel_rfl) (by kernel_rfl) (by kernel_rfl) ?hqb12 (Or.inl ⟨?hwb12, fun w hSw => ?hyb12⟩) hHeld ?hkb12
          case hib12 => (simp only [List.getElem?_toArray, List.getElem?_cons_succ, List.getElem?_cons_zero]; rfl)
          case hqb12 => exact fun _ _ _ h => h
          case hwb12 => rfl
          case hyb12 => first | (go_simp; done) | (go_simp; with_reducible rfl)
          simp only [Act.put, List.setIfInBounds_toArray, List.set_cons_zero, List.set_cons_succ]
          refine' wpAnyH_take (i := 13) (oi := _) (v := .pointer (some ⟨g2, n + 2, none⟩)) ?hib13 (by kernel_rfl) (by kernel_rfl) (by kernel_rfl) ?hqb13 (Or.inl ⟨?hwb13, fun w hSw => ?hyb13⟩) hHeld ?hkb13
          case hib13 => (simp only [List.getElem?_toArray, List.getElem?_cons_succ, List.getElem?_cons_zero]; rfl)
          case hqb13 => exact fun _ _ _ h => h
          case hwb13 => rfl
          case hyb13 => first | (go_simp; done) | (go_simp; with_reducible rfl)
          simp only [Act.put, List.setIfInBounds_toArray, List.set_cons_zero, List.set_cons_succ]
          refine' wpAnyH_take (i := 14) (oi := _) (v := .int .u8 (z2.toNat : Int)) ?hib14 (by kernel_rfl) (by kernel_rfl) (by kernel_rfl) ?hqb14 (Or.inl ⟨?hwb14, fun w hSw => ?hyb14⟩) hHeld ?hkb14
          case hib14 => (simp only [List.getElem?_toArray, List.getElem?_cons_succ, List.getElem?_cons_zero]; rfl)
          case hqb14 => exact fun _ _ _ h => h
          case hwb14 => rfl
          case hyb14 => first | (go_simp; done) | (go_simp; with_reducible rfl)
          simp only [Act.put, List.setIfInBounds_toArray, List.set_cons_zero, List.set_cons_succ]
          refine' wpAnyH_take (i := 15) (oi := _) (v := .slice (some ⟨g2, 0, none⟩) L cp2) ?hib15 (by kernel_rfl) (by kernel_rfl) (by kernel_rfl) ?hqb15 (Or.inl ⟨?hwb15, fun w hSw => ?hyb15⟩) hHeld ?hkb15
          case hib15 => (simp only [List.getElem?_toArray, List.getElem?_cons_succ, List.getElem?_cons_zero]; rfl)
          case hqb15 => exact fun _ _ _ h => h
          case hwb15 => rfl
          case hyb15 => first | (go_simp; done) | (go_simp; with_reducible rfl)
          simp only [Act.put, List.setIfInBounds_toArray, List.set_cons_zero, List.set_cons_succ]
          refine' wpAnyH_take (i := 16) (oi := _) (v := .int .i64 n) ?hib16 (by kernel_rfl) (by kernel_rfl) (by kernel_rfl) ?hqb16 (Or.inl ⟨?hwb16, fun w hSw => ?hyb16⟩) hHeld ?hkb16
          case hib16 => (simp only [List.getElem?_toArray, List.getElem?_cons_succ, List.getElem?_cons_zero]; rfl)
          case hqb16 => exact fun _ _ _ h => h
          case hwb16 => rfl
          case hyb16 => first | (go_simp; done) | (go_simp; with_reducible rfl)
          simp only [Act.put, List.setIfInBounds_toArray, List.set_cons_zero, List.set_cons_succ]
          refine' wpAnyH_take (i := 17) (oi := _) (v := .int .i64 ((n : Int) + 1)) ?hib17 (by kernel_rfl) (by kernel_rfl) (by kernel_rfl) ?hqb17 (Or.inl ⟨?hwb17, fun w hSw => ?hyb17⟩) hHeld ?hkb17
          case hib17 => (simp only [List.getElem?_toArray, List.getElem?_cons_succ, List.getElem?_cons_zero]; rfl)
          case hqb17 => exact fun _ _ _ h => h
          case hwb17 => rfl
          case hyb17 => first | (go_simp; done) | (go_simp; with_reducible rfl)
          simp only [Act.put, List.setIfInBounds_toArray, List.set_cons_zero, List.set_cons_succ]
          refine' wpAnyH_take (i := 18) (oi := _) (v := .pointer (some ⟨g2, n + 1, none⟩)) ?hib18 (by kernel_rfl) (by kernel_rfl) (by kernel_rfl) ?hqb18 (Or.inl ⟨?hwb18, fun w hSw => ?hyb18⟩) hHeld ?hkb18
          case hib18 => (simp only [List.getElem?_toArray, List.getElem?_cons_succ, List.getElem?_cons_zero]; rfl)
          case hqb18 => exact fun _ _ _ h => h
          case hwb18 => rfl
          case hyb18 => first | (go_simp; done) | (go_simp; with_reducible rfl)
          simp only [Act.put, List.setIfInBounds_toArray, List.set_cons_zero, List.set_cons_succ]
          refine' wpAnyH_take (i := 19) (oi := _) (v := .int .u8 (z1.toNat : Int)) ?hib19 (by kernel_rfl) (by kernel_rfl) (by kernel_rfl) ?hqb19 (Or.inl ⟨?hwb19, fun w hSw => ?hyb19⟩) hHeld ?hkb19
          case hib19 => (simp only [List.getElem?_toArray, List.getElem?_cons_succ, List.getElem?_cons_zero]; rfl)
          case hqb19 => exact fun _ _ _ h => h
          case hwb19 => rfl
          case hyb19 => first | (go_simp; done) | (go_simp; with_reducible rfl)
          simp only [Act.put, List.setIfInBounds_toArray, List.set_cons_zero, List.set_cons_succ]
          refine' wpAnyH_take (i := 20) (oi := _) (v := .slice (some ⟨g2, 0, none⟩) L cp2) ?hib20 (by kernel_rfl) (by kernel_rfl) (by kernel_rfl) ?hqb20 (Or.inl ⟨?hwb20, fun w hSw => ?hyb20⟩) hHeld ?hkb20
          case hib20 => (simp only [List.getElem?_toArray, List.getElem?_cons_succ, List.getElem?_cons_zero]; rfl)
          case hqb20 => exact fun _ _ _ h => h
          case hwb20 => rfl
          case hyb20 => first | (go_simp; done) | (go_simp; with_reducible rfl)
          simp only [Act.put, List.setIfInBounds_toArray, List.set_cons_zero, List.set_cons_succ]
          refine' wpAnyH_take (i := 21) (oi := _) (v := .int .i64 n) ?hib21 (by kernel_rfl) (by kernel_rfl) (by kernel_rfl) ?hqb21 (Or.inl ⟨?hwb21, fun w hSw => ?hyb21⟩) hHeld ?hkb21
          case hib21 => (simp only [List.getElem?_toArray, List.getElem?_cons_succ, List.getElem?_cons_zero]; rfl)
          case hqb21 => exact fun _ _ _ h => h
          case hwb21 => rfl
          case hyb21 => first | (go_simp; done) | (go_simp; with_reducible rfl)
          simp only [Act.put, List.setIfInBounds_toArray, List.set_cons_zero, List.set_cons_succ]
          refine' wpAnyH_take (i := 22) (oi := _) (v := .pointer (some ⟨g2, n, none⟩)) ?hib22 (by kernel_rfl) (by kernel_rfl) (by kernel_rfl) ?hqb22 (Or.inl ⟨?hwb22, fun w hSw => ?hyb22⟩) hHeld ?hkb22
          case hib22 => (simp only [List.getElem?_toArray, List.getElem?_cons_succ, List.getElem?_cons_zero]; rfl)
          case hqb22 => exact fun _ _ _ h => h
          case hwb22 => rfl
          case hyb22 => first | (go_simp; done) | (go_simp; with_reducible rfl)
          simp only [Act.put, List.setIfInBounds_toArray, List.set_cons_zero, List.set_cons_succ]
          refine' wpAnyH_take (i := 23) (oi := _) (v := .int .u8 (z0.toNat : Int)) ?hib23 (by kernel_rfl) (by kernel_rfl) (by kernel_rfl) ?hqb23 (Or.inl ⟨?hwb23, fun w hSw => ?hyb23⟩) hHeld ?hkb23
          case hib23 => (simp only [List.getElem?_toArray, List.getElem?_cons_succ, List.getElem?_cons_zero]; rfl)
          case hqb23 => exact fun _ _ _ h => h
          case hwb23 => rfl
          case hyb23 => first | (go_simp; done) | (go_simp; with_reducible rfl)
          simp only [Act.put, List.setIfInBounds_toArray, List.set_cons_zero, List.set_cons_succ]
          refine wpAnyH_ready (rs := [0, 24]) (by kernel_rfl) (by simp) ?_
          refine' AllReadyH.cons (o := _) ?hob1 (fun K hK => ?c0b) (AllReadyH.cons (o := _) ?hpb1 (fun K hK => ?c24b) AllReadyH.nil)
          case hob1 => (simp only [List.getElem?_toArray, List.getElem?_cons_zero]; rfl)
          case hpb1 => (simp only [List.getElem?_toArray, List.getElem?_cons_succ, List.getElem?_cons_zero]; rfl)
          case c0b =>
            go_simp
            refine hK.out _ _ (HPP.out _ ((Chg.refl (fun _ => False) wr.drew).alloc (.cells #[] 5))) (fun hHeld => ?_)
            clear hK K
            refine wpAnyH_ready (rs := [4, 24]) (by kernel_rfl) (by simp) ?_
            refine' AllReadyH.cons (o := _) ?hob2 (fun K hK => ?c4b) (AllReadyH.cons (o := _) ?hpb2 (fun K hK => ?c24bb) AllReadyH.nil)
            case hob2 => (simp only [List.getElem?_toArray, List.getElem?_cons_succ, List.getElem?_cons_zero]; rfl)
            case hpb2 => (simp only [List.getElem?_toArray, List.getElem?_cons_succ, List.getElem?_cons_zero]; rfl)
            case c4b =>
              refine step_append_own rfl (.tmp 117) (.tmp 120) 22 rfl wr.heap.size 5 i0 (.int .u8 0) 1 1 Try.underlying22 hi hz0 hz1 hz2 rfl (by decide) (.slice (some ⟨wr.heap.size, 0, none⟩) 0 0) 0 [] (by simp [Act.eval]) (World.ownsRow_lit wr.drew #[] 0 (Nat.le_refl _) (Nat.zero_le _) rfl) a1 n d1 (zs.map B) (by simp [Act.eval]) (by rw [List.length_map, HYL.out]; omega) (hS1.fr (((Chg.refl (fun _ => False) wr.drew).alloc (.cells #[] 5)))).src (oneCellB _) (by unfold maxLen; omega) (by omega) (by first | (simp; done) | (simp; omega)) ?_
              intro vb2 xb2 hownb2 hgb2 _ hOb2
              have hDb2 : Chg (fun _ => False) wr.drew xb2 := (((Chg.refl (fun _ => False) wr.drew).alloc (.cells #[] 5))).grown hgb2 (fun k e => .inr (by simp [Value.ownBlock] at e; simp; omega))
              refine hK.out _ _ (HPP.out _ hDb2) (fun hHeld => ?_)
              clear hK K
              simp only [Act.put, List.setIfInBounds_toArray, List.set_cons_zero, List.set_cons_succ]
              refine wpAnyH_ready (rs := [24]) (by kernel_rfl) (by simp) ?_
              refine' AllReadyH.cons (o := _) ?hob3 (fun K hK => ?hsb3) AllReadyH.nil
              case hob3 => (simp only [List.getElem?_toArray, List.getElem?_cons_succ, List.getElem?_cons_zero]; rfl)
              go_simp
              refine hK.out _ _ (HPP.out _ (hDb2.alloc (.cells #[.int .u8 (z3.toNat : Int), .int .u8 (z2.toNat : Int), .int .u8 (z1.toNat : Int), .int .u8 (z0.toNat : Int)] 5))) (fun hHeld => ?_)
              clear hK K
              refine wpAnyH_ready (rs := [25]) (by kernel_rfl) (by simp) ?_
              refine' AllReadyH.cons (o := _) ?hob4 (fun K hK => ?hsb4) AllReadyH.nil
              case hob4 => (simp only [List.getElem?_toArray, List.getElem?_cons_succ, List.getElem?_cons_zero]; rfl)
              refine step_append_own rfl (.tmp 121) (.tmp 141) 22 rfl wr.heap.size 5 i0 (.int .u8 0) 1 1 Try.underlying22 hi hz0 hz1 hz2 rfl (by decide) vb2 _ _ (by simp [Act.eval]) (hownb2.alloc _) _ 4 4 ([z3, z2, z1, z0].map B) (by simp [Act.eval]) rfl (Sl.lit xb2 ([z3, z2, z1, z0].map B) 5 (by show 4 ≤ maxLen; decide)).src (oneCellB _) (by unfold maxLen; omega) (by omega) (by have := hDb2.size; simp at *; omega) ?_
              intro vb4 xb4 hownb4 hgb4 _ hOb4
              have hDb4 : Chg (fun _ => False) wr.drew xb4 := (hDb2.alloc (.cells #[.int .u8 (z3.toNat : Int), .int .u8 (z2.toNat : Int), .int .u8 (z1.toNat : Int), .int .u8 (z0.toNat : Int)] 5)).grown hgb4 (fun k e => .inr (hownb2.lt k e).1)
              refine hK.out _ _ (HPP.out _ hDb4) (fun hHeld => ?_)
              clear hK K
              simp only [Act.put, List.setIfInBounds_toArray, List.set_cons_zero, List.set_cons_succ]
              refine' wpAnyH_take (i := 26) (oi := _) (v := vb4) ?hibz526 (by kernel_rfl) (by kernel_rfl) (by kernel_rfl) ?hqbz526 (Or.inl ⟨?hwbz526, fun w hSw => ?hybz526⟩) hHeld ?hkbz526
              case hibz526 => (simp only [List.getElem?_toArray, List.getElem?_cons_succ, List.getElem?_cons_zero]; rfl)
              case hqbz526 => exact fun _ _ _ h => h
              case hwbz526 => rfl
              case hybz526 => first | (go_simp; done) | (go_simp; with_reducible rfl)
              simp only [Act.put, List.setIfInBounds_toArray, List.set_cons_zero, List.set_cons_succ]
              refine wpAnyH_done (by kernel_rfl) ?_ _
              have hbits : [] ++ zs.map B ++ [z3, z2, z1, z0].map B = (zs ++ [z3, z2, z1, z0]).map B := by rw [List.nil_append, ← List.map_append]
              rw [hbits, show 0 + n + 4 = L by have := HLn.out; omega] at hownb4
              clear hbits hownb2 hgb2 hOb2 hgb4 hOb4 hDb2 hHeld q0 q1 q2 q3 hcut hS1
              have hC8 : Chg (fun _ => False) W xb4 := (hC7.tr ((Chg.refl _ wr).drew)).tr hDb4
              have hS8 := Sl.of_owns hownb4
              clear hC7 hDb4 hownb4
              obtain ⟨w8, rfl⟩ : ∃ w8, w8 = xb4 := ⟨_, rfl⟩
              have hop := open_any vb4 (zs ++ [z3, z2, z1, z0]) w8 hS8 (by rw [List.length_append, HYL.out]; show n + 4 + 100 ≤ _; omega)
              have hx : ∃ ys er, Calls Try.prog 13 #[vb4] w8 (GaveO w8 ys er) ∧ (er = 0 ↔ t = 0) := by
                refine ⟨_, _, hop, ?_⟩
                unfold openE
                rw [HOK.out]
                by_cases h0 : t = 0
                · simp [h0]
                · simp [h0]
              clear hop HOK hS8
              obtain ⟨ys, er, hop, her⟩ := hx
              by_cases h0 : t = 0
              · have h01 : (t : Int) = 0 := by omega
                have h02 : er = 0 := her.2 h0
                subst h02
                clear her h0
                go_wp2_with fail
                refine hop.mono ?_
                clear hop
                rintro e w9 ⟨v9, rfl, ho9, hC9⟩
                go_wp2
                go_ret
                exact ⟨rfl, hC8.tr hC9⟩
              · have h01 : ¬ (t : Int) = 0 := by omega
                have h02 : ¬ er = 0 := fun e => h0 (her.1 e)
                clear her
                go_wp2_with fail
                refine hop.mono ?_
                clear hop
                rintro e w9 ⟨v9, rfl, ho9, hC9⟩
                go_wp2
                go_ret
                have b1 : (er == 0) = false := beq_eq_false_iff_ne.2 h02
                have b2 : ((t : Int) == 0) = false := beq_eq_false_iff_ne.2 h01
                refine ⟨?_, hC8.tr hC9⟩
                simp [b1, b2]
            case c24bb =>
              go_simp
              refine hK.out _ _ (HPP.out _ (((Chg.refl (fun _ => False) wr.drew).alloc (.cells #[] 5)).alloc (.cells #[.int .u8 (z3.toNat : Int), .int .u8 (z2.toNat : Int), .int .u8 (z1.toNat : Int), .int .u8 (z0.toNat : Int)] 5))) (fun hHeld => ?_)
              clear hK K
              refine wpAnyH_ready (rs := [4]) (by kernel_rfl) (by simp) ?_
              refine' AllReadyH.cons (o := _) ?hob6 (fun K hK => ?hsb6) AllReadyH.nil
              case hob6 => (simp only [List.getElem?_toArray, List.getElem?_cons_succ, List.getElem?_cons_zero]; rfl)
              refine step_append_own rfl (.tmp 117) (.tmp 120) 22 rfl wr.heap.size 5 i0 (.int .u8 0) 1 1 Try.underlying22 hi hz0 hz1 hz2 rfl (by decide) (.slice (some ⟨wr.heap.size, 0, none⟩) 0 0) 0 [] (by simp [Act.eval]) ((World.ownsRow_lit wr.drew #[] 0 (Nat.le_refl _) (Nat.zero_le _) rfl).alloc _) a1 n d1 (zs.map B) (by simp [Act.eval]) (by rw [List.length_map, HYL.out]; omega) (hS1.fr ((((Chg.refl (fun _ => False) wr.drew).alloc (.cells #[] 5)).alloc (.cells #[.int .u8 (z3.toNat : Int), .int .u8 (z2.toNat : Int), .int .u8 (z1.toNat : Int), .int .u8 (z0.toNat : Int)] 5)))).src (oneCellB _) (by unfold maxLen; omega) (by omega) (by first | (simp; done) | (simp; omega)) ?_
              intro vb2 xb2 hownb2 hgb2 _ hOb2
              have hDb2 : Chg (fun _ => False) wr.drew xb2 := ((((Chg.refl (fun _ => False) wr.drew).alloc (.cells #[] 5)).alloc (.cells #[.int .u8 (z3.toNat : Int), .int .u8 (z2.toNat : Int), .int .u8 (z1.toNat : Int), .int .u8 (z0.toNat : Int)] 5))).grown hgb2 (fun k e => .inr (by simp [Value.ownBlock] at e; simp; omega))
              refine hK.out _ _ (HPP.out _ hDb2) (fun hHeld => ?_)
              clear hK K
              simp only [Act.put, List.setIfInBounds_toArray, List.set_cons_zero, List.set_cons_succ]
              refine wpAnyH_ready (rs := [25]) (by kernel_rfl) (by simp) ?_
              refine' AllReadyH.cons (o := _) ?hob7 (fun K hK => ?hsb7) AllReadyH.nil
              case hob7 => (simp only [List.getElem?_toArray, List.getElem?_cons_succ, List.getElem?_cons_zero]; rfl)
              refine step_append_own rfl (.tmp 121) (.tmp 141) 22 rfl wr.heap.size 5 i0 (.int .u8 0) 1 1 Try.underlying22 hi hz0 hz1 hz2 rfl (by decide) vb2 _ _ (by simp [Act.eval]) hownb2 _ 4 4 ([z3, z2, z1, z0].map B) (by simp [Act.eval]) rfl ((Sl.lit (wr.drew.alloc (.cells #[] 5)) ([z3, z2, z1, z0].map B) 5 (by show 4 ≤ maxLen; decide)).chg ((Chg.refl (fun j => j = wr.heap.size) ((wr.drew.alloc (.cells #[] 5)).alloc (.cells #[.int .u8 (z3.toNat : Int), .int .u8 (z2.toNat : Int), .int .u8 (z1.toNat : Int), .int .u8 (z0.toNat : Int)] 5))).grown hgb2 (fun k e => .inl (by simp [Value.ownBlock] at e; omega))) (fun k e => by simp [Value.ownBlock] at e; omega)).src (oneCellB _) (by unfold maxLen; omega) (by omega) (by have := hDb2.size; simp at *; omega) ?_
              intro vb4 xb4 hownb4 hgb4 _ hOb4
              have hDb4 : Chg (fun _ => False) wr.drew xb4 := (hDb2).grown hgb4 (fun k e => .inr (hownb2.lt k e).1)
              refine hK.out _ _ (HPP.out _ hDb4) (fun hHeld => ?_)
              clear hK K
              simp only [Act.put, List.setIfInBounds_toArray, List.set_cons_zero, List.set_cons_succ]
              refine' wpAnyH_take (i := 26) (oi := _) (v := vb4) ?hibz826 (by kernel_rfl) (by kernel_rfl) (by kernel_rfl) ?hqbz826 (Or.inl ⟨?hwbz826, fun w hSw => ?hybz826⟩) hHeld ?hkbz826
              case hibz826 => (simp only [List.getElem?_toArray, List.getElem?_cons_succ, List.getElem?_cons_zero]; rfl)
              case hqbz826 => exact fun _ _ _ h => h
              case hwbz826 => rfl
              case hybz826 => first | (go_simp; done) | (go_simp; with_reducible rfl)
              simp only [Act.put, List.setIfInBounds_toArray, List.set_cons_zero, List.set_cons_succ]
              refine wpAnyH_done (by kernel_rfl) ?_ _
              have hbits : [] ++ zs.map B ++ [z3, z2, z1, z0].map B = (zs ++ [z3, z2, z1, z0]).map B := by rw [List.nil_append, ← List.map_append]
              rw [hbits, show 0 + n + 4 = L by have := HLn.out; omega] at hownb4
              clear hbits hownb2 hgb2 hOb2 hgb4 hOb4 hDb2 hHeld q0 q1 q2 q3 hcut hS1
              have hC8 : Chg (fun _ => False) W xb4 := (hC7.tr ((Chg.refl _ wr).drew)).tr hDb4
              have hS8 := Sl.of_owns hownb4
              clear hC7 hDb4 hownb4
              obtain ⟨w8, rfl⟩ : ∃ w8, w8 = xb4 := ⟨_, rfl⟩
              have hop := open_any vb4 (zs ++ [z3, z2, z1, z0]) w8 hS8 (by rw [List.length_append, HYL.out]; show n + 4 + 100 ≤ _; omega)
              have hx : ∃ ys er, Calls Try.prog 13 #[vb4] w8 (GaveO w8 ys er) ∧ (er = 0 ↔ t = 0) := by
                refine ⟨_, _, hop, ?_⟩
                unfold openE
                rw [HOK.out]
                by_cases h0 : t = 0
                · simp [h0]
                · simp [h0]
              clear hop HOK hS8
              obtain ⟨ys, er, hop, her⟩ := hx
              by_cases h0 : t = 0
              · have h01 : (t : Int) = 0 := by omega
                have h02 : er = 0 := her.2 h0
                subst h02
                clear her h0
                go_wp2_with fail
                refine hop.mono ?_
                clear hop
                rintro e w9 ⟨v9, rfl, ho9, hC9⟩
                go_wp2
                go_ret
                exact ⟨rfl, hC8.tr hC9⟩
              · have h01 : ¬ (t : Int) = 0 := by omega
                have h02 : ¬ er = 0 := fun e => h0 (her.1 e)
                clear her
                go_wp2_with fail
                refine hop.mono ?_
                clear hop
                rintro e w9 ⟨v9, rfl, ho9, hC9⟩
                go_wp2
                go_ret
                have b1 : (er == 0) = false := beq_eq_false_iff_ne.2 h02
                have b2 : ((t : Int) == 0) = false := beq_eq_false_iff_ne.2 h01
                refine ⟨?_, hC8.tr hC9⟩
                simp [b1, b2]
          case c24b =>
            go_simp
            refine hK.out _ _ (HPP.out _ ((Chg.refl (fun _ => False) wr.drew).alloc (.cells #[.int .u8 (z3.toNat : Int), .int .u8 (z2.toNat : Int), .int .u8 (z1.toNat : Int), .int .u8 (z0.toNat : Int)] 5))) (fun hHeld => ?_)
            clear hK K
            refine wpAnyH_ready (rs := [0]) (by kernel_rfl) (by simp) ?_
            refine' AllReadyH.cons (o := _) ?hob9 (fun K hK => ?hsb9) AllReadyH.nil
            case hob9 => (simp only [List.getElem?_toArray, List.getElem?_cons_zero]; rfl)
            go_simp
            refine hK.out _ _ (HPP.out _ (((Chg.refl (fun _ => False) wr.drew).alloc (.cells #[.int .u8 (z3.toNat : Int), .int .u8 (z2.toNat : Int), .int .u8 (z1.toNat : Int), .int .u8 (z0.toNat : Int)] 5)).alloc (.cells #[] 5))) (fun hHeld => ?_)
            clear hK K
            refine wpAnyH_ready (rs := [4]) (by kernel_rfl) (by simp) ?_
            refine' AllReadyH.cons (o := _) ?hob10 (fun K hK => ?hsb10) AllReadyH.nil
            case hob10 => (simp only [List.getElem?_toArray, List.getElem?_cons_succ, List.getElem?_cons_zero]; rfl)
            have hownb0 := (World.ownsRow_lit (size := 1) (e := 5) (wr.drew.alloc (.cells #[.int .u8 (z3.toNat : Int), .int .u8 (z2.toNat : Int), .int .u8 (z1.toNat : Int), .int .u8 (z0.toNat : Int)] 5)) #[] 0 (show wr.heap.size ≤ (wr.drew.alloc (.cells #[.int .u8 (z3.toNat : Int), .int .u8 (z2.toNat : Int), .int .u8 (z1.toNat : Int), .int .u8 (z0.toNat : Int)] 5)).heap.size by simp) (Nat.zero_le _) rfl)
            rw [World.size_alloc] at hownb0
            refine step_append_own rfl (.tmp 117) (.tmp 120) 22 rfl wr.heap.size 5 i0 (.int .u8 0) 1 1 Try.underlying22 hi hz0 hz1 hz2 rfl (by decide) (.slice (some ⟨wr.heap.size + 1, 0, none⟩) 0 0) 0 [] (by simp [Act.eval]) hownb0 a1 n d1 (zs.map B) (by simp [Act.eval]) (by rw [List.length_map, HYL.out]; omega) (hS1.fr ((((Chg.refl (fun _ => False) wr.drew).alloc (.cells #[.int .u8 (z3.toNat : Int), .int .u8 (z2.toNat : Int), .int .u8 (z1.toNat : Int), .int .u8 (z0.toNat : Int)] 5)).alloc (.cells #[] 5)))).src (oneCellB _) (by unfold maxLen; omega) (by omega) (by first | (simp; done) | (simp; omega)) ?_
            intro vb2 xb2 hownb2 hgb2 _ hOb2
            have hDb2 : Chg (fun _ => False) wr.drew xb2 := ((((Chg.refl (fun _ => False) wr.drew).alloc (.cells #[.int .u8 (z3.toNat : Int), .int .u8 (z2.toNat : Int), .int .u8 (z1.toNat : Int), .int .u8 (z0.toNat : Int)] 5)).alloc (.cells #[] 5))).grown hgb2 (fun k e => .inr (by simp [Value.ownBlock] at e; simp; omega))
            refine hK.out _ _ (HPP.out _ hDb2) (fun hHeld => ?_)
            clear hK K
            simp only [Act.put, List.setIfInBounds_toArray, List.set_cons_zero, List.set_cons_succ]
            refine wpAnyH_ready (rs := [25]) (by kernel_rfl) (by simp) ?_
            refine' AllReadyH.cons (o := _) ?hob11 (fun K hK => ?hsb11) AllReadyH.nil
            case hob11 => (simp only [List.getElem?_toArray, List.getElem?_cons_succ, List.getElem?_cons_zero]; rfl)
            refine step_append_own rfl (.tmp 121) (.tmp 141) 22 rfl wr.heap.size 5 i0 (.int .u8 0) 1 1 Try.underlying22 hi hz0 hz1 hz2 rfl (by decide) vb2 _ _ (by simp [Act.eval]) hownb2 _ 4 4 ([z3, z2, z1, z0].map B) (by simp [Act.eval]) rfl ((Sl.lit (wr.drew) ([z3, z2, z1, z0].map B) 5 (by show 4 ≤ maxLen; decide)).chg ((((Chg.refl (fun j => j = wr.heap.size + 1) (wr.drew.alloc (.cells #[.int .u8 (z3.toNat : Int), .int .u8 (z2.toNat : Int), .int .u8 (z1.toNat : Int), .int .u8 (z0.toNat : Int)] 5)))).alloc (.cells #[] 5)).grown hgb2 (fun k e => .inl (by simp [Value.ownBlock] at e; omega))) (fun k e => by simp [Value.ownBlock] at e; omega)).src (oneCellB _) (by unfold maxLen; omega) (by omega) (by have := hDb2.size; simp at *; omega) ?_
            intro vb4 xb4 hownb4 hgb4 _ hOb4
            have hDb4 : Chg (fun _ => False) wr.drew xb4 := (hDb2).grown hgb4 (fun k e => .inr (hownb2.lt k e).1)
            refine hK.out _ _ (HPP.out _ hDb4) (fun hHeld => ?_)
            clear hK K
            simp only [Act.put, List.setIfInBounds_toArray, List.set_cons_zero, List.set_cons_succ]
            refine' wpAnyH_take (i := 26) (oi := _) (v := vb4) ?hibz1226 (by kernel_rfl) (by kernel_rfl) (by kernel_rfl) ?hqbz1226 (Or.inl ⟨?hwbz1226, fun w hSw => ?hybz1226⟩) hHeld ?hkbz1226
            case hibz1226 => (simp only [List.getElem?_toArray, List.getElem?_cons_succ, List.getElem?_cons_zero]; rfl)
            case hqbz1226 => exact fun _ _ _ h => h
            case hwbz1226 => rfl
            case hybz1226 => first | (go_simp; done) | (go_simp; with_reducible rfl)
            simp only [Act.put, List.setIfInBounds_toArray, List.set_cons_zero, List.set_cons_succ]
            refine wpAnyH_done (by kernel_rfl) ?_ _
            have hbits : [] ++ zs.map B ++ [z3, z2, z1, z0].map B = (zs ++ [z3, z2, z1, z0]).map B := by rw [List.nil_append, ← List.map_append]
            rw [hbits, show 0 + n + 4 = L by have := HLn.out; omega] at hownb4
            clear hbits hownb2 hgb2 hOb2 hgb4 hOb4 hDb2 hHeld q0 q1 q2 q3 hcut hS1
            have hC8 : Chg (fun _ => False) W xb4 := (hC7.tr ((Chg.refl _ wr).drew)).tr hDb4
            have hS8 := Sl.of_owns hownb4
            clear hC7 hDb4 hownb4
            obtain ⟨w8, rfl⟩ : ∃ w8, w8 = xb4 := ⟨_, rfl⟩
            have hop := open_any vb4 (zs ++ [z3, z2, z1, z0]) w8 hS8 (by rw [List.length_append, HYL.out]; show n + 4 + 100 ≤ _; omega)
            have hx : ∃ ys er, Calls Try.prog 13 #[vb4] w8 (GaveO w8 ys er) ∧ (er = 0 ↔ t = 0) := by
              refine ⟨_, _, hop, ?_⟩
              unfold openE
              rw [HOK.out]
              by_cases h0 : t = 0
              · simp [h0]
              · simp [h0]
            clear hop HOK hS8
            obtain ⟨ys, er, hop, her⟩ := hx
            by_cases h0 : t = 0
            · have h01 : (t : Int) = 0 := by omega
              have h02 : er = 0 := her.2 h0
              subst h02
              clear her h0
              go_wp2_with fail
              refine hop.mono ?_
              clear hop
              rintro e w9 ⟨v9, rfl, ho9, hC9⟩
              go_wp2
              go_ret
              exact ⟨rfl, hC8.tr hC9⟩
            · have h01 : ¬ (t : Int) = 0 := by omega
              have h02 : ¬ er = 0 := fun e => h0 (her.1 e)
              clear her
              go_wp2_with fail
              refine hop.mono ?_
              clear hop
              rintro e w9 ⟨v9, rfl, ho9, hC9⟩
              go_wp2
              go_ret
              have b1 : (er == 0) = false := beq_eq_false_iff_ne.2 h02
              have b2 : ((t : Int) == 0) = false := beq_eq_false_iff_ne.2 h01
              refine ⟨?_, hC8.tr hC9⟩
              simp [b1, b2]
    case c24ba =>
      go_simp
      refine hK.out _ _ (HPP.out _ (((Chg.refl (fun _ => False) w5.drew).alloc (.cells #[] 5)).alloc (.cells #[.int .u8 (p0.toNat : Int), .int .u8 (p1.toNat : Int), .int .u8 (p2.toNat : Int), .int .u8 (p3.toNat : Int)] 5))) (fun hHeld => ?_)
      clear hK K
      refine wpAnyH_ready (rs := [4]) (by kernel_rfl) (by simp) ?_
      refine' AllReadyH.cons (o := _) ?hoa6 (fun K hK => ?hsa6) AllReadyH.nil
      case hoa6 => (simp only [List.getElem?_toArray, List.getElem?_cons_succ, List.getElem?_cons_zero]; rfl)
      refine step_append_own rfl (.tmp 54) (.tmp 57) 22 rfl w5.heap.size 5 i0 (.int .u8 0) 1 1 Try.underlying22 hi hz0 hz1 hz2 rfl (by decide) (.slice (some ⟨w5.heap.size, 0, none⟩) 0 0) 0 [] (by simp [Act.eval]) ((World.ownsRow_lit w5.drew #[] 0 (Nat.le_refl _) (Nat.zero_le _) rfl).alloc _) a1 n d1 (xs.map B) (by simp [Act.eval]) (by rw [List.length_map, HYL.out]; omega) (hS1.fr ((((Chg.refl (fun _ => False) w5.drew).alloc (.cells #[] 5)).alloc (.cells #[.int .u8 (p0.toNat : Int), .int .u8 (p1.toNat : Int), .int .u8 (p2.toNat : Int), .int .u8 (p3.toNat : Int)] 5)))).src (oneCellB _) (by unfold maxLen; omega) (by omega) (by first | (simp; done) | (simp; omega)) ?_
      intro va2 xa2 howna2 hga2 _ hOa2
      have hDa2 : Chg (fun _ => False) w5.drew xa2 := ((((Chg.refl (fun _ => False) w5.drew).alloc (.cells #[] 5)).alloc (.cells #[.int .u8 (p0.toNat : Int), .int .u8 (p1.toNat : Int), .int .u8 (p2.toNat : Int), .int .u8 (p3.toNat : Int)] 5))).grown hga2 (fun k e => .inr (by simp [Value.ownBlock] at e; simp; omega))
      refine hK.out _ _ (HPP.out _ hDa2) (fun hHeld => ?_)
      clear hK K
      simp only [Act.put, List.setIfInBounds_toArray, List.set_cons_zero, List.set_cons_succ]
      refine wpAnyH_ready (rs := [25]) (by kernel_rfl) (by simp) ?_
      refine' AllReadyH.cons (o := _) ?hoa7 (fun K hK => ?hsa7) AllReadyH.nil
      case hoa7 => (simp only [List.getElem?_toArray, List.getElem?_cons_succ, List.getElem?_cons_zero]; rfl)
      refine step_append_own rfl (.tmp 58) (.tmp 78) 22 rfl w5.heap.size 5 i0 (.int .u8 0) 1 1 Try.underlying22 hi hz0 hz1 hz2 rfl (by decide) va2 _ _ (by simp [Act.eval]) howna2 _ 4 4 ([p0, p1, p2, p3].map B) (by simp [Act.eval]) rfl ((Sl.lit (w5.drew.alloc (.cells #[] 5)) ([p0, p1, p2, p3].map B) 5 (by show 4 ≤ maxLen; decide)).chg ((Chg.refl (fun j => j = w5.heap.size) ((w5.drew.alloc (.cells #[] 5)).alloc (.cells #[.int .u8 (p0.toNat : Int), .int .u8 (p1.toNat : Int), .int .u8 (p2.toNat : Int), .int .u8 (p3.toNat : Int)] 5))).grown hga2 (fun k e => .inl (by simp [Value.ownBlock] at e; omega))) (fun k e => by simp [Value.ownBlock] at e; omega)).src (oneCellB _) (by unfold maxLen; omega) (by omega) (by have := hDa2.size; simp at *; omega) ?_
      intro va4 xa4 howna4 hga4 _ hOa4
      have hDa4 : Chg (fun _ => False) w5.drew xa4 := (hDa2).grown hga4 (fun k e => .inr (howna2.lt k e).1)
      refine hK.out _ _ (HPP.out _ hDa4) (fun hHeld => ?_)
      clear hK K
      simp only [Act.put, List.setIfInBounds_toArray, List.set_cons_zero, List.set_cons_succ]
      refine' wpAnyH_take (i := 26) (oi := _) (v := va4) ?hiaz826 (by kernel_rfl) (by kernel_rfl) (by kernel_rfl) ?hqaz826 (Or.inl ⟨?hwaz826, fun w hSw => ?hyaz826⟩) hHeld ?hkaz826
      case hiaz826 => (simp only [List.getElem?_toArray, List.getElem?_cons_succ, List.getElem?_cons_zero]; rfl)
      case hqaz826 => exact fun _ _ _ h => h
      case hwaz826 => rfl
      case hyaz826 => first | (go_simp; done) | (go_simp; with_reducible rfl)
      simp only [Act.put, List.setIfInBounds_toArray, List.set_cons_zero, List.set_cons_succ]
      refine wpAnyH_done (by kernel_rfl) ?_ _
      have hbits : [] ++ xs.map B ++ [p0, p1, p2, p3].map B = (xs ++ [p0, p1, p2, p3]).map B := by rw [List.nil_append, ← List.map_append]
      rw [hbits, show 0 + n + 4 = L by have := HLn.out; omega] at howna4
      clear hbits howna2 hga2 hOa2 hga4 hOa4 hDa2 hHeld q0 q1 q2 q3 hcut hS1
      obtain ⟨g2, cp2, rfl, hg2, hcp2, hcp3⟩ := own_some howna4 (by have := HLn.out; omega)
      have hR6 := rowB_of howna4
      have hC6 : Chg (fun _ => False) W xa4 := (hC15.tr ((Chg.refl _ w5).drew)).tr hDa4
      have hg2lt : W.heap.size ≤ g2 := by have := hC15.size; have h2 : w5.heap.size ≤ g2 := hg2; omega
      clear howna4 hDa4
      obtain ⟨w6, rfl⟩ : ∃ w6, w6 = xa4 := ⟨_, rfl⟩
      obtain ⟨d, hd⟩ : ∃ d, 8 * L - 31 = d := ⟨_, rfl⟩
      obtain ⟨f, hf⟩ : ∃ f, a % d = f := ⟨_, rfl⟩
      have hd1 : 8 * n + 1 = d := by have := HLn.out; omega
      have hf1 : f ≤ 8 * n := by have := Nat.mod_lt a (show 0 < d by omega); omega
      have e6 : IntKind.i64.wrap (8 * (L : Int)) = 8 * (L : Int) := IntWalk.i64_in _ (by have := HLn.out; omega)
      have e7 : IntKind.i64.wrap (8 * (L : Int) - 31) = (d : Int) := by rw [show 8 * (L : Int) - 31 = (d : Int) by have := HLn.out; omega]; exact IntWalk.i64_in _ (by omega)
      have e8 : Int.tmod (a : Int) (d : Int) = (f : Int) := by rw [← hf]; rfl
      have e9 : ¬ d = 0 := by omega
      have e0 : wrap64 (a : Int) = (a : Int) := wrap_nat a (by omega)
      have HF1 := Lib.hid hf1
      have hl32 : L < 4294967296 := by have := HLn.out; omega
      have HL32 := Lib.hid hl32
      have HLX := Lib.hid (show (xs ++ [p0, p1, p2, p3]).length = L by rw [List.length_append, HM.out]; exact HLn.out.symm)
      have HT := Lib.hid ht
      clear hd hf hd1 hf1 hl32 hC15 hg hg2 ht ha
      go_wp2
      go_loopw [14] (fun i wr => ∃ k : Nat, k ≤ 32 ∧ i = .int .i64 k ∧ Chg (fun q => q = g2) w6 wr ∧ RowB wr g2 (xorB (xs ++ [p0, p1, p2, p3]) (leB (turnX t f k) (xs ++ [p0, p1, p2, p3]).length)))
        (fun i _ => 32 - (intOf i).toNat)
      case atStart =>
        refine ⟨0, Nat.zero_le _, rfl, Chg.refl _ _, ?_⟩
        rw [show turnX t f 0 = 0 from rfl, xorB_zero]
        exact hR6
      case round =>
        obtain ⟨k, hk, rfl, hCz, hRz⟩ := hrel
        by_cases hlt : k < 32
        · have hk2 : (k : Int) < 32 := by omega
          have hsh : ((t / 2 ^ k : Nat) : Int) = (t : Int) / 2 ^ k := by rw [Int.natCast_ediv]; norm_cast
          have hand := and_u32_one (t / 2 ^ k) (Nat.lt_of_le_of_lt (Nat.div_le_self _ _) HT.out)
          rw [hsh] at hand
          by_cases hp : t / 2 ^ k % 2 = 1
          · rw [hp] at hand
            obtain ⟨s, q, r, P, y, v1, v2, v3, v4, v5, v6, v7, v8, v9, v10, v11, v12, v13, v14, v15, hcl, hfz, hset⟩ := round_one (xs ++ [p0, p1, p2, p3]) t f k L wr g2 HLX.out HL32.out (by have := HF1.out; have := HLn.out; omega) hp hRz
            have HSET := Lib.hid hset
            clear hset hRz hp hsh
            go_wp2
            refine ⟨⟨k + 1, by omega, by go_num, hCz.setCell (p := ⟨g2, q, none⟩) (.inl rfl) _, ?_⟩, ?_⟩
            · rw [← (show (y ^^^ UInt8.ofNat P).toNat = y.toNat ^^^ P % 256 by rw [UInt8.toNat_xor, UInt8.toNat_ofNat'])]; exact HSET.out
            · first | (simp [intOf]; done) | (simp [intOf]; omega)
          · rw [show t / 2 ^ k % 2 = 0 by omega] at hand
            have HNX := Lib.hid (show turnX t f (k + 1) = turnX t f k from if_neg hp)
            clear hp hsh
            go_wp2
            go_roundw
            case rel => exact ⟨k + 1, by omega, by go_num, hCz, by rw [HNX.out]; exact hRz⟩
            case measure => first | (simp [intOf]; done) | (simp [intOf]; omega)
        · obtain rfl : k = 32 := by omega
          obtain ⟨zs, z0, z1, z2, z3, hzl, hRw, hok⟩ := turned xs t f n m p0 p1 p2 p3 HM.out HT.out HF1.out HM0.out HP.out wr g2 hRz
          have HYL := Lib.hid hzl
          have HOK := Lib.hid hok
          have hC7 : Chg (fun _ => False) W wr := hC6.trans hCz (fun _ _ h => h) (fun k hk h => by omega)
          obtain ⟨q0, q1, q2, q3⟩ := row_four hRw hzl
          obtain ⟨a1, d1, hS1, _, _, _, hcut⟩ := (sl_of_row hRw (by rw [List.length_append, hzl]; exact HLn.out.symm) hcp2 hcp3).slice 22 5 Try.underlying22 sizeOf_u8 0 n (Nat.zero_le _) (by rw [List.length_map, List.length_append, hzl]; omega)
          replace hcut := hcut rfl
          rw [Nat.sub_zero] at hS1 hcut
          rw [List.drop_zero, ← List.map_take, List.take_left' hzl] at hS1
          replace hS1 := hS1.fr ((Chg.refl _ wr).drew)
          clear hRz hRw hCz hlt hk hzl hok hC6 hR6 hg2lt
          go_wp2_with fail
          have hP : ∀ w', Chg (fun _ => False) wr.drew w' → (Chg (fun _ => False) wr.drew w' ∧ w'.cell? ⟨g2, n + 3, none⟩ = some (.int .u8 (z3.toNat : Int)) ∧ w'.cell? ⟨g2, n + 2, none⟩ = some (.int .u8 (z2.toNat : Int)) ∧ w'.cell? ⟨g2, n + 1, none⟩ = some (.int .u8 (z1.toNat : Int)) ∧ w'.cell? ⟨g2, n, none⟩ = some (.int .u8 (z0.toNat : Int))) := fun w' h => ⟨h, h.cell (q0 : (wr.drew).cell? _ = _) id, h.cell (q1 : (wr.drew).cell? _ = _) id, h.cell (q2 : (wr.drew).cell? _ = _) id, h.cell (q3 : (wr.drew).cell? _ = _) id⟩
          have HPP := Lib.hid hP
          refine wp_region_held_drew (S := fun w' => Chg (fun _ => False) wr.drew w' ∧ w'.cell? ⟨g2, n + 3, none⟩ = some (.int .u8 (z3.toNat : Int)) ∧ w'.cell? ⟨g2, n + 2, none⟩ = some (.int .u8 (z2.toNat : Int)) ∧ w'.cell? ⟨g2, n + 1, none⟩ = some (.int .u8 (z1.toNat : Int)) ∧ w'.cell? ⟨g2, n, none⟩ = some (.int .u8 (z0.toNat : Int))) (by kernel_rfl) (hP _ (Chg.refl _ _)) (fun hHeld => ?_)
          clear hP
          refine' wpAnyH_take (i := 1) (oi := _) (v := .slice (some ⟨g2, 0, none⟩) L cp2) ?hid1 (by kernel_rfl) (by kernel_rfl) (by kernel_rfl) ?hqd1 (Or.inl ⟨?hwd1, fun w hSw => ?hyd1⟩) hHeld ?hkd1
          case hid1 => (simp only [List.getElem?_toArray, List.getElem?_cons_succ, List.getElem?_cons_zero]; rfl)
          case hqd1 => exact fun _ _ _ h => h
          case hwd1 => rfl
          case hyd1 => first | (go_simp; done) | (go_simp; with_reducible rfl)
          simp only [Act.put, List.setIfInBounds_toArray, List.set_cons_zero, List.set_cons_succ]
          refine' wpAnyH_take (i := 2) (oi := _) (v := .int .i64 n) ?hid2 (by kernel_rfl) (by kernel_rfl) (by kernel_rfl) ?hqd2 (Or.inl ⟨?hwd2, fun w hSw => ?hyd2⟩) hHeld ?hkd2
          case hid2 => (simp only [List.getElem?_toArray, List.getElem?_cons_succ, List.getElem?_cons_zero]; rfl)
          case hqd2 => exact fun _ _ _ h => h
          case hwd2 => rfl
          case hyd2 => first | (go_simp; done) | (go_simp; with_reducible rfl)
          simp only [Act.put, List.setIfInBounds_toArray, List.set_cons_zero, List.set_cons_succ]
          refine' wpAnyH_take (i := 3) (oi := _) (v := .slice a1 n d1) ?hid3 (by kernel_rfl) (by kernel_rfl) (by kernel_rfl) ?hqd3 (Or.inl ⟨?hwd3, fun w hSw => ?hyd3⟩) hHeld ?hkd3
          case hid3 => (simp only [List.getElem?_toArray, List.getElem?_cons_succ, List.getElem?_cons_zero]; rfl)
          case hqd3 => exact fun _ _ _ h => h
          case hwd3 => rfl
          case hyd3 => first | (go_simp; done) | (go_simp; with_reducible rfl)
          simp only [Act.put, List.setIfInBounds_toArray, List.set_cons_zero, List.set_cons_succ]
          refine' wpAnyH_take (i := 5) (oi := _) (v := .slice (some ⟨g2, 0, none⟩) L cp2) ?hid5 (by kernel_rfl) (by kernel_rfl) (by kernel_rfl) ?hqd5 (Or.inl ⟨?hwd5, fun w hSw => ?hyd5⟩) hHeld ?hkd5
          case hid5 => (simp only [List.getElem?_toArray, List.getElem?_cons_succ, List.getElem?_cons_zero]; rfl)
          case hqd5 => exact fun _ _ _ h => h
          case hwd5 => rfl
          case hyd5 => first | (go_simp; done) | (go_simp; with_reducible rfl)
          simp only [Act.put, List.setIfInBounds_toArray, List.set_cons_zero, List.set_cons_succ]
          refine' wpAnyH_take (i := 6) (oi := _) (v := .int .i64 n) ?hid6 (by kernel_rfl) (by kernel_rfl) (by kernel_rfl) ?hqd6 (Or.inl ⟨?hwd6, fun w hSw => ?hyd6⟩) hHeld ?hkd6
          case hid6 => (simp only [List.getElem?_toArray, List.getElem?_cons_succ, List.getElem?_cons_zero]; rfl)
          case hqd6 => exact fun _ _ _ h => h
          case hwd6 => rfl
          case hyd6 => first | (go_simp; done) | (go_simp; with_reducible rfl)
          simp only [Act.put, List.setIfInBounds_toArray, List.set_cons_zero, List.set_cons_succ]
          refine' wpAnyH_take (i := 7) (oi := _) (v := .int .i64 ((n : Int) + 3)) ?hid7 (by kernel_rfl) (by kernel_rfl) (by kernel_rfl) ?hqd7 (Or.inl ⟨?hwd7, fun w hSw => ?hyd7⟩) hHeld ?hkd7
          case hid7 => (simp only [List.getElem?_toArray, List.getElem?_cons_succ, List.getElem?_cons_zero]; rfl)
          case hqd7 => exact fun _ _ _ h => h
          case hwd7 => rfl
          case hyd7 => first | (go_simp; done) | (go_simp; with_reducible rfl)
          simp only [Act.put, List.setIfInBounds_toArray, List.set_cons_zero, List.set_cons_succ]
          refine' wpAnyH_take (i := 8) (oi := _) (v := .pointer (some ⟨g2, n + 3, none⟩)) ?hid8 (by kernel_rfl) (by kernel_rfl) (by kernel_rfl) ?hqd8 (Or.inl ⟨?hwd8, fun w hSw => ?hyd8⟩) hHeld ?hkd8
          case hid8 => (simp only [List.getElem?_toArray, List.getElem?_cons_succ, List.getElem?_cons_zero]; rfl)
          case hqd8 => exact fun _ _ _ h => h
          case hwd8 => rfl
          case hyd8 => first | (go_simp; done) | (go_simp; with_reducible rfl)
          simp only [Act.put, List.setIfInBounds_toArray, List.set_cons_zero, List.set_cons_succ]
          refine' wpAnyH_take (i := 9) (oi := _) (v := .int .u8 (z3.toNat : Int)) ?hid9 (by kernel_rfl) (by kernel_rfl) (by kernel_rfl) ?hqd9 (Or.inl ⟨?hwd9, fun w hSw => ?hyd9⟩) hHeld ?hkd9
          case hid9 => (simp only [List.getElem?_toArray, List.getElem?_cons_succ, List.getElem?_cons_zero]; rfl)
          case hqd9 => exact fun _ _ _ h => h
          case hwd9 => rfl
          case hyd9 => first | (go_simp; done) | (go_simp; with_reducible rfl)
          simp only [Act.put, List.setIfInBounds_toArray, List.set_cons_zero, List.set_cons_succ]
          refine' wpAnyH_take (i := 10) (oi := _) (v := .slice (some ⟨g2, 0, none⟩) L cp2) ?hid10 (by kernel_rfl) (by kernel_rfl) (by kernel_rfl) ?hqd10 (Or.inl ⟨?hwd10, fun w hSw => ?hyd10⟩) hHeld ?hkd10
          case hid10 => (simp only [List.getElem?_toArray, List.getElem?_cons_succ, List.getElem?_cons_zero]; rfl)
          case hqd10 => exact fun _ _ _ h => h
          case hwd10 => rfl
          case hyd10 => first | (go_simp; done) | (go_simp; with_reducible rfl)
          simp only [Act.put, List.setIfInBounds_toArray, List.set_cons_zero, List.set_cons_succ]
          refine' wpAnyH_take (i := 11) (oi := _) (v := .int .i64 n) ?hid11 (by kernel_rfl) (by kernel_rfl) (by kernel_rfl) ?hqd11 (Or.inl ⟨?hwd11, fun w hSw => ?hyd11⟩) hHeld ?hkd11
          case hid11 => (simp only [List.getElem?_toArray, List.getElem?_cons_succ, List.getElem?_cons_zero]; rfl)
          case hqd11 => exact fun _ _ _ h => h
          case hwd11 => rfl
          case hyd11 => first | (go_simp; done) | (go_simp; with_reducible rfl)
          simp only [Act.put, List.setIfInBounds_toArray, List.set_cons_zero, List.set_cons_succ]
          refine' wpAnyH_take (i := 12) (oi := _) (v := .int .i64 ((n : Int) + 2)) ?hid12 (by kernel_rfl) (by kernel_rfl) (by kernel_rfl) ?hqd12 (Or.inl ⟨?hwd12, fun w hSw => ?hyd12⟩) hHeld ?hkd12
          case hid12 => (simp only [List.getElem?_toArray, List.getElem?_cons_succ, List.getElem?_cons_zero]; rfl)
          case hqd12 => exact fun _ _ _ h => h
          case hwd12 => rfl
          case hyd12 => first | (go_simp; done) | (go_simp; with_reducible rfl)
          simp only [Act.put, List.setIfInBounds_toArray, List.set_cons_zero, List.set_cons_succ]
          refine' wpAnyH_take (i := 13) (oi := _) (v := .pointer (some ⟨g2, n + 2, none⟩)) ?hid13 (by kernel_rfl) (by kernel_rfl) (by kernel_rfl) ?hqd13 (Or.inl ⟨?hwd13, fun w hSw => ?hyd13⟩) hHeld ?hkd13
          case hid13 => (simp only [List.getElem?_toArray, List.getElem?_cons_succ, List.getElem?_cons_zero]; rfl)
          case hqd13 => exact fun _ _ _ h => h
          case hwd13 => rfl
          case hyd13 => first | (go_simp; done) | (go_simp; with_reducible rfl)
          simp only [Act.put, List.setIfInBounds_toArray, List.set_cons_zero, List.set_cons_succ]
          refine' wpAnyH_take (i := 14) (oi := _) (v := .int .u8 (z2.toNat : Int)) ?hid14 (by kernel_rfl) (by kernel_rfl) (by kernel_rfl) ?hqd14 (Or.inl ⟨?hwd14, fun w hSw => ?hyd14⟩) hHeld ?hkd14
          case hid14 => (simp only [List.getElem?_toArray, List.getElem?_cons_succ, List.getElem?_cons_zero]; rfl)
          case hqd14 => exact fun _ _ _ h => h
          case hwd14 => rfl
          case hyd14 => first | (go_simp; done) | (go_simp; with_reducible rfl)
          simp only [Act.put, List.setIfInBounds_toArray, List.set_cons_zero, List.set_cons_succ]
          refine' wpAnyH_take (i := 15) (oi := _) (v := .slice (some ⟨g2, 0, none⟩) L cp2) ?hid15 (by kernel_rfl) (by kernel_rfl) (by kernel_rfl) ?hqd15 (Or.inl ⟨?hwd15, fun w hSw => ?hyd15⟩) hHeld ?hkd15
          case hid15 => (simp only [List.getElem?_toArray, List.getElem?_cons_succ, List.getElem?_cons_zero]; rfl)
          case hqd15 => exact fun _ _ _ h => h
          case hwd15 => rfl
          case hyd15 => first | (go_simp; done) | (go_simp; with_reducible rfl)
          simp only [Act.put, List.setIfInBounds_toArray, List.set_cons_zero, List.set_cons_succ]
          refine' wpAnyH_take (i := 16) (oi := _) (v := .int .i64 n) ?hid16 (by kernel_rfl) (by kernel_rfl) (by kernel_rfl) ?hqd16 (Or.inl ⟨?hwd16, fun w hSw => ?hyd16⟩) hHeld ?hkd16
          case hid16 => (simp only [List.getElem?_toArray, List.getElem?_cons_succ, List.getElem?_cons_zero]; rfl)
          case hqd16 => exact fun _ _ _ h => h
          case hwd16 => rfl
          case hyd16 => first | (go_simp; done) | (go_simp; with_reducible rfl)
          simp only [Act.put, List.setIfInBounds_toArray, List.set_cons_zero, List.set_cons_succ]
          refine' wpAnyH_take (i := 17) (oi := _) (v := .int .i64 ((n : Int) + 1)) ?hid17 (by kernel_rfl) (by kernel_rfl) (by kernel_rfl) ?hqd17 (Or.inl ⟨?hwd17, fun w hSw => ?hyd17⟩) hHeld ?hkd17
          case hid17 => (simp only [List.getElem?_toArray, List.getElem?_cons_succ, List.getElem?_cons_zero]; rfl)
          case hqd17 => exact fun _ _ _ h => h
          case hwd17 => rfl
          case hyd17 => first | (go_simp; done) | (go_simp; with_reducible rfl)
          simp only [Act.put, List.setIfInBounds_toArray, List.set_cons_zero, List.set_cons_succ]
          refine' wpAnyH_take (i := 18) (oi := _) (v := .pointer (some ⟨g2, n + 1, none⟩)) ?hid18 (by kernel_rfl) (by kernel_rfl) (by kernel_rfl) ?hqd18 (Or.inl ⟨?hwd18, fun w hSw => ?hyd18⟩) hHeld ?hkd18
          case hid18 => (simp only [List.getElem?_toArray, List.getElem?_cons_succ, List.getElem?_cons_zero]; rfl)
          case hqd18 => exact fun _ _ _ h => h
          case hwd18 => rfl
          case hyd18 => first | (go_simp; done) | (go_simp; with_reducible rfl)
          simp only [Act.put, List.setIfInBounds_toArray, List.set_cons_zero, List.set_cons_succ]
          refine' wpAnyH_take (i := 19) (oi := _) (v := .int .u8 (z1.toNat : Int)) ?hid19 (by kernel_rfl) (by kernel_rfl) (by kernel_rfl) ?hqd19 (Or.inl ⟨?hwd19, fun w hSw => ?hyd19⟩) hHeld ?hkd19
          case hid19 => (simp only [List.getElem?_toArray, List.getElem?_cons_succ, List.getElem?_cons_zero]; rfl)
          case hqd19 => exact fun _ _ _ h => h
          case hwd19 => rfl
          case hyd19 => first | (go_simp; done) | (go_simp; with_reducible rfl)
          simp only [Act.put, List.setIfInBounds_toArray, List.set_cons_zero, List.set_cons_succ]
          refine' wpAnyH_take (i := 20) (oi := _) (v := .slice (some ⟨g2, 0, none⟩) L cp2) ?hid20 (by kernel_rfl) (by kernel_rfl) (by kernel_rfl) ?hqd20 (Or.inl ⟨?hwd20, fun w hSw => ?hyd20⟩) hHeld ?hkd20
          case hid20 => (simp only [List.getElem?_toArray, List.getElem?_cons_succ, List.getElem?_cons_zero]; rfl)
          case hqd20 => exact fun _ _ _ h => h
          case hwd20 => rfl
          case hyd20 => first | (go_simp; done) | (go_simp; with_reducible rfl)
          simp only [Act.put, List.setIfInBounds_toArray, List.set_cons_zero, List.set_cons_succ]
          refine' wpAnyH_take (i := 21) (oi := _) (v := .int .i64 n) ?hid21 (by kernel_rfl) (by kernel_rfl) (by kernel_rfl) ?hqd21 (Or.inl ⟨?hwd21, fun w hSw => ?hyd21⟩) hHeld ?hkd21
          case hid21 => (simp only [List.getElem?_toArray, List.getElem?_cons_succ, List.getElem?_cons_zero]; rfl)
          case hqd21 => exact fun _ _ _ h => h
          case hwd21 => rfl
          case hyd21 => first | (go_simp; done) | (go_simp; with_reducible rfl)
          simp only [Act.put, List.setIfInBounds_toArray, List.set_cons_zero, List.set_cons_succ]
          refine' wpAnyH_take (i := 22) (oi := _) (v := .pointer (some ⟨g2, n, none⟩)) ?hid22 (by kernel_rfl) (by kernel_rfl) (by kernel_rfl) ?hqd22 (Or.inl ⟨?hwd22, fun w hSw => ?hyd22⟩) hHeld ?hkd22
          case hid22 => (simp only [List.getElem?_toArray, List.getElem?_cons_succ, List.getElem?_cons_zero]; rfl)
          case hqd22 => exact fun _ _ _ h => h
          case hwd22 => rfl
          case hyd22 => first | (go_simp; done) | (go_simp; with_reducible rfl)
          simp only [Act.put, List.setIfInBounds_toArray, List.set_cons_zero, List.set_cons_succ]
          refine' wpAnyH_take (i := 23) (oi := _) (v := .int .u8 (z0.toNat : Int)) ?hid23 (by kernel_rfl) (by kernel_rfl) (by kernel_rfl) ?hqd23 (Or.inl ⟨?hwd23, fun w hSw => ?hyd23⟩) hHeld ?hkd23
          case hid23 => (simp only [List.getElem?_toArray, List.getElem?_cons_succ, List.getElem?_cons_zero]; rfl)
          case hqd23 => exact fun _ _ _ h => h
          case hwd23 => rfl
          case hyd23 => first | (go_simp; done) | (go_simp; with_reducible rfl)
          simp only [Act.put, List.setIfInBounds_toArray, List.set_cons_zero, List.set_cons_succ]
          refine wpAnyH_ready (rs := [0, 24]) (by kernel_rfl) (by simp) ?_
          refine' AllReadyH.cons (o := _) ?hod1 (fun K hK => ?c0d) (AllReadyH.cons (o := _) ?hpd1 (fun K hK => ?c24d) AllReadyH.nil)
          case hod1 => (simp only [List.getElem?_toArray, List.getElem?_cons_zero]; rfl)
          case hpd1 => (simp only [List.getElem?_toArray, List.getElem?_cons_succ, List.getElem?_cons_zero]; rfl)
          case c0d =>
            go_simp
            refine hK.out _ _ (HPP.out _ ((Chg.refl (fun _ => False) wr.drew).alloc (.cells #[] 5))) (fun hHeld => ?_)
            clear hK K
            refine wpAnyH_ready (rs := [4, 24]) (by kernel_rfl) (by simp) ?_
            refine' AllReadyH.cons (o := _) ?hod2 (fun K hK => ?c4d) (AllReadyH.cons (o := _) ?hpd2 (fun K hK => ?c24bd) AllReadyH.nil)
            case hod2 => (simp only [List.getElem?_toArray, List.getElem?_cons_succ, List.getElem?_cons_zero]; rfl)
            case hpd2 => (simp only [List.getElem?_toArray, List.getElem?_cons_succ, List.getElem?_cons_zero]; rfl)
            case c4d =>
              refine step_append_own rfl (.tmp 117) (.tmp 120) 22 rfl wr.heap.size 5 i0 (.int .u8 0) 1 1 Try.underlying22 hi hz0 hz1 hz2 rfl (by decide) (.slice (some ⟨wr.heap.size, 0, none⟩) 0 0) 0 [] (by simp [Act.eval]) (World.ownsRow_lit wr.drew #[] 0 (Nat.le_refl _) (Nat.zero_le _) rfl) a1 n d1 (zs.map B) (by simp [Act.eval]) (by rw [List.length_map, HYL.out]; omega) (hS1.fr (((Chg.refl (fun _ => False) wr.drew).alloc (.cells #[] 5)))).src (oneCellB _) (by unfold maxLen; omega) (by omega) (by first | (simp; done) | (simp; omega)) ?_
              intro vd2 xd2 hownd2 hgd2 _ hOd2
              have hDd2 : Chg (fun _ => False) wr.drew xd2 := (((Chg.refl (fun _ => False) wr.drew).alloc (.cells #[] 5))).grown hgd2 (fun k e => .inr (by simp [Value.ownBlock] at e; simp; omega))
              refine hK.out _ _ (HPP.out _ hDd2) (fun hHeld => ?_)
              clear hK K
              simp only [Act.put, List.setIfInBounds_toArray, List.set_cons_zero, List.set_cons_succ]
              refine wpAnyH_ready (rs := [24]) (by kernel_rfl) (by simp) ?_
              refine' AllReadyH.cons (o := _) ?hod3 (fun K hK => ?hsd3) AllReadyH.nil
              case hod3 => (simp only [List.getElem?_toArray, List.getElem?_cons_succ, List.getElem?_cons_zero]; rfl)
              go_simp
              refine hK.out _ _ (HPP.out _ (hDd2.alloc (.cells #[.int .u8 (z3.toNat : Int), .int .u8 (z2.toNat : Int), .int .u8 (z1.toNat : Int), .int .u8 (z0.toNat : Int)] 5))) (fun hHeld => ?_)
              clear hK K
              refine wpAnyH_ready (rs := [25]) (by kernel_rfl) (by simp) ?_
              refine' AllReadyH.cons (o := _) ?hod4 (fun K hK => ?hsd4) AllReadyH.nil
              case hod4 => (simp only [List.getElem?_toArray, List.getElem?_cons_succ, List.getElem?_cons_zero]; rfl)
              refine step_append_own rfl (.tmp 121) (.tmp 141) 22 rfl wr.heap.size 5 i0 (.int .u8 0) 1 1 Try.underlying22 hi hz0 hz1 hz2 rfl (by decide) vd2 _ _ (by simp [Act.eval]) (hownd2.alloc _) _ 4 4 ([z3, z2, z1, z0].map B) (by simp [Act.eval]) rfl (Sl.lit xd2 ([z3, z2, z1, z0].map B) 5 (by show 4 ≤ maxLen; decide)).src (oneCellB _) (by unfold maxLen; omega) (by omega) (by have := hDd2.size; simp at *; omega) ?_
              intro vd4 xd4 hownd4 hgd4 _ hOd4
              have hDd4 : Chg (fun _ => False) wr.drew xd4 := (hDd2.alloc (.cells #[.int .u8 (z3.toNat : Int), .int .u8 (z2.toNat : Int), .int .u8 (z1.toNat : Int), .int .u8 (z0.toNat : Int)] 5)).grown hgd4 (fun k e => .inr (hownd2.lt k e).1)
              refine hK.out _ _ (HPP.out _ hDd4) (fun hHeld => ?_)
              clear hK K
              simp only [Act.put, List.setIfInBounds_toArray, List.set_cons_zero, List.set_cons_succ]
              refine' wpAnyH_take (i := 26) (oi := _) (v := vd4) ?hidz526 (by kernel_rfl) (by kernel_rfl) (by kernel_rfl) ?hqdz526 (Or.inl ⟨?hwdz526, fun w hSw => ?hydz526⟩) hHeld ?hkdz526
              case hidz526 => (simp only [List.getElem?_toArray, List.getElem?_cons_succ, List.getElem?_cons_zero]; rfl)
              case hqdz526 => exact fun _ _ _ h => h
              case hwdz526 => rfl
              case hydz526 => first | (go_simp; done) | (go_simp; with_reducible rfl)
              simp only [Act.put, List.setIfInBounds_toArray, List.set_cons_zero, List.set_cons_succ]
              refine wpAnyH_done (by kernel_rfl) ?_ _
              have hbits : [] ++ zs.map B ++ [z3, z2, z1, z0].map B = (zs ++ [z3, z2, z1, z0]).map B := by rw [List.nil_append, ← List.map_append]
              rw [hbits, show 0 + n + 4 = L by have := HLn.out; omega] at hownd4
              clear hbits hownd2 hgd2 hOd2 hgd4 hOd4 hDd2 hHeld q0 q1 q2 q3 hcut hS1
              have hC8 : Chg (fun _ => False) W xd4 := (hC7.tr ((Chg.refl _ wr).drew)).tr hDd4
              have hS8 := Sl.of_owns hownd4
              clear hC7 hDd4 hownd4
              obtain ⟨w8, rfl⟩ : ∃ w8, w8 = xd4 := ⟨_, rfl⟩
              have hop := open_any vd4 (zs ++ [z3, z2, z1, z0]) w8 hS8 (by rw [List.length_append, HYL.out]; show n + 4 + 100 ≤ _; omega)
              have hx : ∃ ys er, Calls Try.prog 13 #[vd4] w8 (GaveO w8 ys er) ∧ (er = 0 ↔ t = 0) := by
                refine ⟨_, _, hop, ?_⟩
                unfold openE
                rw [HOK.out]
                by_cases h0 : t = 0
                · simp [h0]
                · simp [h0]
              clear hop HOK hS8
              obtain ⟨ys, er, hop, her⟩ := hx
              by_cases h0 : t = 0
              · have h01 : (t : Int) = 0 := by omega
                have h02 : er = 0 := her.2 h0
                subst h02
                clear her h0
                go_wp2_with fail
                refine hop.mono ?_
                clear hop
                rintro e w9 ⟨v9, rfl, ho9, hC9⟩
                go_wp2
                go_ret
                exact ⟨rfl, hC8.tr hC9⟩
              · have h01 : ¬ (t : Int) = 0 := by omega
                have h02 : ¬ er = 0 := fun e => h0 (her.1 e)
                clear her
                go_wp2_with fail
                refine hop.mono ?_
                clear hop
                rintro e w9 ⟨v9, rfl, ho9, hC9⟩
                go_wp2
                go_ret
                have b1 : (er == 0) = false := beq_eq_false_iff_ne.2 h02
                have b2 : ((t : Int) == 0) = false := beq_eq_false_iff_ne.2 h01
                refine ⟨?_, hC8.tr hC9⟩
                simp [b1, b2]
            case c24bd =>
              go_simp
              refine hK.out _ _ (HPP.out _ (((Chg.refl (fun _ => False) wr.drew).alloc (.cells #[] 5)).alloc (.cells #[.int .u8 (z3.toNat : Int), .int .u8 (z2.toNat : Int), .int .u8 (z1.toNat : Int), .int .u8 (z0.toNat : Int)] 5))) (fun hHeld => ?_)
              clear hK K
              refine wpAnyH_ready (rs := [4]) (by kernel_rfl) (by simp) ?_
              refine' AllReadyH.cons (o := _) ?hod6 (fun K hK => ?hsd6) AllReadyH.nil
              case hod6 => (simp only [List.getElem?_toArray, List.getElem?_cons_succ, List.getElem?_cons_zero]; rfl)
              refine step_append_own rfl (.tmp 117) (.tmp 120) 22 rfl wr.heap.size 5 i0 (.int .u8 0) 1 1 Try.underlying22 hi hz0 hz1 hz2 rfl (by decide) (.slice (some ⟨wr.heap.size, 0, none⟩) 0 0) 0 [] (by simp [Act.eval]) ((World.ownsRow_lit wr.drew #[] 0 (Nat.le_refl _) (Nat.zero_le _) rfl).alloc _) a1 n d1 (zs.map B) (by simp [Act.eval]) (by rw [List.length_map, HYL.out]; omega) (hS1.fr ((((Chg.refl (fun _ => False) wr.drew).alloc (.cells #[] 5)).alloc (.cells #[.int .u8 (z3.toNat : Int), .int .u8 (z2.toNat : Int), .int .u8 (z1.toNat : Int), .int .u8 (z0.toNat : Int)] 5)))).src (oneCellB _) (by unfold maxLen; omega) (by omega) (by first | (simp; done) | (simp; omega)) ?_
              intro vd2 xd2 hownd2 hgd2 _ hOd2
              have hDd2 : Chg (fun _ => False) wr.drew xd2 := ((((Chg.refl (fun _ => False) wr.drew).alloc (.cells #[] 5)).alloc (.cells #[.int .u8 (z3.toNat : Int), .int .u8 (z2.toNat : Int), .int .u8 (z1.toNat : Int), .int .u8 (z0.toNat : Int)] 5))).grown hgd2 (fun k e => .inr (by simp [Value.ownBlock] at e; simp; omega))
              refine hK.out _ _ (HPP.out _ hDd2) (fun hHeld => ?_)
              clear hK K
              simp only [Act.put, List.setIfInBounds_toArray, List.set_cons_zero, List.set_cons_succ]
              refine wpAnyH_ready (rs := [25]) (by kernel_rfl) (by simp) ?_
              refine' AllReadyH.cons (o := _) ?hod7 (fun K hK => ?hsd7) AllReadyH.nil
              case hod7 => (simp only [List.getElem?_toArray, List.getElem?_cons_succ, List.getElem?_cons_zero]; rfl)
              refine step_append_own rfl (.tmp 121) (.tmp 141) 22 rfl wr.heap.size 5 i0 (.int .u8 0) 1 1 Try.underlying22 hi hz0 hz1 hz2 rfl (by decide) vd2 _ _ (by simp [Act.eval]) hownd2 _ 4 4 ([z3, z2, z1, z0].map B) (by simp [Act.eval]) rfl ((Sl.lit (wr.drew.alloc (.cells #[] 5)) ([z3, z2, z1, z0].map B) 5 (by show 4 ≤ maxLen; decide)).chg ((Chg.refl (fun j => j = wr.heap.size) ((wr.drew.alloc (.cells #[] 5)).alloc (.cells #[.int .u8 (z3.toNat : Int), .int .u8 (z2.toNat : Int), .int .u8 (z1.toNat : Int), .int .u8 (z0.toNat : Int)] 5))).grown hgd2 (fun k e => .inl (by simp [Value.ownBlock] at e; omega))) (fun k e => by simp [Value.ownBlock] at e; omega)).src (oneCellB _) (by unfold maxLen; omega) (by omega) (by have := hDd2.size; simp at *; omega) ?_
              intro vd4 xd4 hownd4 hgd4 _ hOd4
              have hDd4 : Chg (fun _ => False) wr.drew xd4 := (hDd2).grown hgd4 (fun k e => .inr (hownd2.lt k e).1)
              refine hK.out _ _ (HPP.out _ hDd4) (fun hHeld => ?_)
              clear hK K
              simp only [Act.put, List.setIfInBounds_toArray, List.set_cons_zero, List.set_cons_succ]
              refine' wpAnyH_take (i := 26) (oi := _) (v := vd4) ?hidz826 (by kernel_rfl) (by kernel_rfl) (by kernel_rfl) ?hqdz826 (Or.inl ⟨?hwdz826, fun w hSw => ?hydz826⟩) hHeld ?hkdz826
              case hidz826 => (simp only [List.getElem?_toArray, List.getElem?_cons_succ, List.getElem?_cons_zero]; rfl)
              case hqdz826 => exact fun _ _ _ h => h
              case hwdz826 => rfl
              case hydz826 => first | (go_simp; done) | (go_simp; with_reducible rfl)
              simp only [Act.put, List.setIfInBounds_toArray, List.set_cons_zero, List.set_cons_succ]
              refine wpAnyH_done (by kernel_rfl) ?_ _
              have hbits : [] ++ zs.map B ++ [z3, z2, z1, z0].map B = (zs ++ [z3, z2, z1, z0]).map B := by rw [List.nil_append, ← List.map_append]
              rw [hbits, show 0 + n + 4 = L by have := HLn.out; omega] at hownd4
              clear hbits hownd2 hgd2 hOd2 hgd4 hOd4 hDd2 hHeld q0 q1 q2 q3 hcut hS1
              have hC8 : Chg (fun _ => False) W xd4 := (hC7.tr ((Chg.refl _ wr).drew)).tr hDd4
              have hS8 := Sl.of_owns hownd4
              clear hC7 hDd4 hownd4
              obtain ⟨w8, rfl⟩ : ∃ w8, w8 = xd4 := ⟨_, rfl⟩
              have hop := open_any vd4 (zs ++ [z3, z2, z1, z0]) w8 hS8 (by rw [List.length_append, HYL.out]; show n + 4 + 100 ≤ _; omega)
              have hx : ∃ ys er, Calls Try.prog 13 #[vd4] w8 (GaveO w8 ys er) ∧ (er = 0 ↔ t = 0) := by
                refine ⟨_, _, hop, ?_⟩
                unfold openE
                rw [HOK.out]
                by_cases h0 : t = 0
                · simp [h0]
                · simp [h0]
              clear hop HOK hS8
              obtain ⟨ys, er, hop, her⟩ := hx
              by_cases h0 : t = 0
              · have h01 : (t : Int) = 0 := by omega
                have h02 : er = 0 := her.2 h0
                subst h02
                clear her h0
                go_wp2_with fail
                refine hop.mono ?_
                clear hop
                rintro e w9 ⟨v9, rfl, ho9, hC9⟩
                go_wp2
                go_ret
                exact ⟨rfl, hC8.tr hC9⟩
              · have h01 : ¬ (t : Int) = 0 := by omega
                have h02 : ¬ er = 0 := fun e => h0 (her.1 e)
                clear her
                go_wp2_with fail
                refine hop.mono ?_
                clear hop
                rintro e w9 ⟨v9, rfl, ho9, hC9⟩
                go_wp2
                go_ret
                have b1 : (er == 0) = false := beq_eq_false_iff_ne.2 h02
                have b2 : ((t : Int) == 0) = false := beq_eq_false_iff_ne.2 h01
                refine ⟨?_, hC8.tr hC9⟩
                simp [b1, b2]
          case c24d =>
            go_simp
            refine hK.out _ _ (HPP.out _ ((Chg.refl (fun _ => False) wr.drew).alloc (.cells #[.int .u8 (z3.toNat : Int), .int .u8 (z2.toNat : Int), .int .u8 (z1.toNat : Int), .int .u8 (z0.toNat : Int)] 5))) (fun hHeld => ?_)
            clear hK K
            refine wpAnyH_ready (rs := [0]) (by kernel_rfl) (by simp) ?_
            refine' AllReadyH.cons (o := _) ?hod9 (fun K hK => ?hsd9) AllReadyH.nil
            case hod9 => (simp only [List.getElem?_toArray, List.getElem?_cons_zero]; rfl)
            go_simp
            refine hK.out _ _ (HPP.out _ (((Chg.refl (fun _ => False) wr.drew).alloc (.cells #[.int .u8 (z3.toNat : Int), .int .u8 (z2.toNat : Int), .int .u8 (z1.toNat : Int), .int .u8 (z0.toNat : Int)] 5)).alloc (.cells #[] 5))) (fun hHeld => ?_)
            clear hK K
            refine wpAnyH_ready (rs := [4]) (by kernel_rfl) (by simp) ?_
            refine' AllReadyH.cons (o := _) ?hod10 (fun K hK => ?hsd10) AllReadyH.nil
            case hod10 => (simp only [List.getElem?_toArray, List.getElem?_cons_succ, List.getElem?_cons_zero]; rfl)
            have hownd0 := (World.ownsRow_lit (size := 1) (e := 5) (wr.drew.alloc (.cells #[.int .u8 (z3.toNat : Int), .int .u8 (z2.toNat : Int), .int .u8 (z1.toNat : Int), .int .u8 (z0.toNat : Int)] 5)) #[] 0 (show wr.heap.size ≤ (wr.drew.alloc (.cells #[.int .u8 (z3.toNat : Int), .int .u8 (z2.toNat : Int), .int .u8 (z1.toNat : Int), .int .u8 (z0.toNat : Int)] 5)).heap.size by simp) (Nat.zero_le _) rfl)
            rw [World.size_alloc] at hownd0
            refine step_append_own rfl (.tmp 117) (.tmp 120) 22 rfl wr.heap.size 5 i0 (.int .u8 0) 1 1 Try.underlying22 hi hz0 hz1 hz2 rfl (by decide) (.slice (some ⟨wr.heap.size + 1, 0, none⟩) 0 0) 0 [] (by simp [Act.eval]) hownd0 a1 n d1 (zs.map B) (by simp [Act.eval]) (by rw [List.length_map, HYL.out]; omega) (hS1.fr ((((Chg.refl (fun _ => False) wr.drew).alloc (.cells #[.int .u8 (z3.toNat : Int), .int .u8 (z2.toNat : Int), .int .u8 (z1.toNat : Int), .int .u8 (z0.toNat : Int)] 5)).alloc (.cells #[] 5)))).src (oneCellB _) (by unfold maxLen; omega) (by omega) (by first | (simp; done) | (simp; omega)) ?_
            intro vd2 xd2 hownd2 hgd2 _ hOd2
            have hDd2 : Chg (fun _ => False) wr.drew xd2 := ((((Chg.refl (fun _ => False) wr.drew).alloc (.cells #[.int .u8 (z3.toNat : Int), .int .u8 (z2.toNat : Int), .int .u8 (z1.toNat : Int), .int .u8 (z0.toNat : Int)] 5)).alloc (.cells #[] 5))).grown hgd2 (fun k e => .inr (by simp [Value.ownBlock] at e; simp; omega))
            refine hK.out _ _ (HPP.out _ hDd2) (fun hHeld => ?_)
            clear hK K
            simp only [Act.put, List.setIfInBounds_toArray, List.set_cons_zero, List.set_cons_succ]
            refine wpAnyH_ready (rs := [25]) (by kernel_rfl) (by simp) ?_
            refine' AllReadyH.cons (o := _) ?hod11 (fun K hK => ?hsd11) AllReadyH.nil
            case hod11 => (simp only [List.getElem?_toArray, List.getElem?_cons_succ, List.getElem?_cons_zero]; rfl)
            refine step_append_own rfl (.tmp 121) (.tmp 141) 22 rfl wr.heap.size 5 i0 (.int .u8 0) 1 1 Try.underlying22 hi hz0 hz1 hz2 rfl (by decide) vd2 _ _ (by simp [Act.eval]) hownd2 _ 4 4 ([z3, z2, z1, z0].map B) (by simp [Act.eval]) rfl ((Sl.lit (wr.drew) ([z3, z2, z1, z0].map B) 5 (by show 4 ≤ maxLen; decide)).chg ((((Chg.refl (fun j => j = wr.heap.size + 1) (wr.drew.alloc (.cells #[.int .u8 (z3.toNat : Int), .int .u8 (z2.toNat : Int), .int .u8 (z1.toNat : Int), .int .u8 (z0.toNat : Int)] 5)))).alloc (.cells #[] 5)).grown hgd2 (fun k e => .inl (by simp [Value.ownBlock] at e; omega))) (fun k e => by simp [Value.ownBlock] at e; omega)).src (oneCellB _) (by unfold maxLen; omega) (by omega) (by have := hDd2.size; simp at *; omega) ?_
            intro vd4 xd4 hownd4 hgd4 _ hOd4
            have hDd4 : Chg (fun _ => False) wr.drew xd4 := (hDd2).grown hgd4 (fun k e => .inr (hownd2.lt k e).1)
            refine hK.out _ _ (HPP.out _ hDd4) (fun hHeld => ?_)
            clear hK K
            simp only [Act.put, List.setIfInBounds_toArray, List.set_cons_zero, List.set_cons_succ]
            refine' wpAnyH_take (i := 26) (oi := _) (v := vd4) ?hidz1226 (by kernel_rfl) (by kernel_rfl) (by kernel_rfl) ?hqdz1226 (Or.inl ⟨?hwdz1226, fun w hSw => ?hydz1226⟩) hHeld ?hkdz1226
            case hidz1226 => (simp only [List.getElem?_toArray, List.getElem?_cons_succ, List.getElem?_cons_zero]; rfl)
            case hqdz1226 => exact fun _ _ _ h => h
            case hwdz1226 => rfl
            case hydz1226 => first | (go_simp; done) | (go_simp; with_reducible rfl)
            simp only [Act.put, List.setIfInBounds_toArray, List.set_cons_zero, List.set_cons_succ]
            refine wpAnyH_done (by kernel_rfl) ?_ _
            have hbits : [] ++ zs.map B ++ [z3, z2, z1, z0].map B = (zs ++ [z3, z2, z1, z0]).map B := by rw [List.nil_append, ← List.map_append]
            rw [hbits, show 0 + n + 4 = L by have := HLn.out; omega] at hownd4
            clear hbits hownd2 hgd2 hOd2 hgd4 hOd4 hDd2 hHeld q0 q1 q2 q3 hcut hS1
            have hC8 : Chg (fun _ => False) W xd4 := (hC7.tr ((Chg.refl _ wr).drew)).tr hDd4
            have hS8 := Sl.of_owns hownd4
            clear hC7 hDd4 hownd4
            obtain ⟨w8, rfl⟩ : ∃ w8, w8 = xd4 := ⟨_, rfl⟩
            have hop := open_any vd4 (zs ++ [z3, z2, z1, z0]) w8 hS8 (by rw [List.length_append, HYL.out]; show n + 4 + 100 ≤ _; omega)
            have hx : ∃ ys er, Calls Try.prog 13 #[vd4] w8 (GaveO w8 ys er) ∧ (er = 0 ↔ t = 0) := by
              refine ⟨_, _, hop, ?_⟩
              unfold openE
              rw [HOK.out]
              by_cases h0 : t = 0
              · simp [h0]
              · simp [h0]
            clear hop HOK hS8
            obtain ⟨ys, er, hop, her⟩ := hx
            by_cases h0 : t = 0
            · have h01 : (t : Int) = 0 := by omega
              have h02 : er = 0 := her.2 h0
              subst h02
              clear her h0
              go_wp2_with fail
              refine hop.mono ?_
              clear hop
              rintro e w9 ⟨v9, rfl, ho9, hC9⟩
              go_wp2
              go_ret
              exact ⟨rfl, hC8.tr hC9⟩
            · have h01 : ¬ (t : Int) = 0 := by omega
              have h02 : ¬ er = 0 := fun e => h0 (her.1 e)
              clear her
              go_wp2_with fail
              refine hop.mono ?_
              clear hop
              rintro e w9 ⟨v9, rfl, ho9, hC9⟩
              go_wp2
              go_ret
              have b1 : (er == 0) = false := beq_eq_false_iff_ne.2 h02
              have b2 : ((t : Int) == 0) = false := beq_eq_false_iff_ne.2 h01
              refine ⟨?_, hC8.tr hC9⟩
              simp [b1, b2]
  case c24a =>
    go_simp
    refine hK.out _ _ (HPP.out _ ((Chg.refl (fun _ => False) w5.drew).alloc (.cells #[.int .u8 (p0.toNat : Int), .int .u8 (p1.toNat : Int), .int .u8 (p2.toNat : Int), .int .u8 (p3.toNat : Int)] 5))) (fun hHeld => ?_)
    clear hK K
    refine wpAnyH_ready (rs := [0]) (by kernel_rfl) (by simp) ?_
    refine' AllReadyH.cons (o := _) ?hoa9 (fun K hK => ?hsa9) AllReadyH.nil
    case hoa9 => (simp only [List.getElem?_toArray, List.getElem?_cons_zero]; rfl)
    go_simp
    refine hK.out _ _ (HPP.out _ (((Chg.refl (fun _ => False) w5.drew).alloc (.cells #[.int .u8 (p0.toNat : Int), .int .u8 (p1.toNat : Int), .int .u8 (p2.toNat : Int), .int .u8 (p3.toNat : Int)] 5)).alloc (.cells #[] 5))) (fun hHeld => ?_)
    clear hK K
    refine wpAnyH_ready (rs := [4]) (by kernel_rfl) (by simp) ?_
    refine' AllReadyH.cons (o := _) ?hoa10 (fun K hK => ?hsa10) AllReadyH.nil
    case hoa10 => (simp only [List.getElem?_toArray, List.getElem?_cons_succ, List.getElem?_cons_zero]; rfl)
    have howna0 := (World.ownsRow_lit (size := 1) (e := 5) (w5.drew.alloc (.cells #[.int .u8 (p0.toNat : Int), .int .u8 (p1.toNat : Int), .int .u8 (p2.toNat : Int), .int .u8 (p3.toNat : Int)] 5)) #[] 0 (show w5.heap.size ≤ (w5.drew.alloc (.cells #[.int .u8 (p0.toNat : Int), .int .u8 (p1.toNat : Int), .int .u8 (p2.toNat : Int), .int .u8 (p3.toNat : Int)] 5)).heap.size by simp) (Nat.zero_le _) rfl)
    rw [World.size_alloc] at howna0
    refine step_append_own rfl (.tmp 54) (.tmp 57) 22 rfl w5.heap.size 5 i0 (.int .u8 0) 1 1 Try.underlying22 hi hz0 hz1 hz2 rfl (by decide) (.slice (some ⟨w5.heap.size + 1, 0, none⟩) 0 0) 0 [] (by simp [Act.eval]) howna0 a1 n d1 (xs.map B) (by simp [Act.eval]) (by rw [List.length_map, HYL.out]; omega) (hS1.fr ((((Chg.refl (fun _ => False) w5.drew).alloc (.cells #[.int .u8 (p0.toNat : Int), .int .u8 (p1.toNat : Int), .int .u8 (p2.toNat : Int), .int .u8 (p3.toNat : Int)] 5)).alloc (.cells #[] 5)))).src (oneCellB _) (by unfold maxLen; omega) (by omega) (by first | (simp; done) | (simp; omega)) ?_
    intro va2 xa2 howna2 hga2 _ hOa2
    have hDa2 : Chg (fun _ => False) w5.drew xa2 := ((((Chg.refl (fun _ => False) w5.drew).alloc (.cells #[.int .u8 (p0.toNat : Int), .int .u8 (p1.toNat : Int), .int .u8 (p2.toNat : Int), .int .u8 (p3.toNat : Int)] 5)).alloc (.cells #[] 5))).grown hga2 (fun k e => .inr (by simp [Value.ownBlock] at e; simp; omega))
    refine hK.out _ _ (HPP.out _ hDa2) (fun hHeld => ?_)
    clear hK K
    simp only [Act.put, List.setIfInBounds_toArray, List.set_cons_zero, List.set_cons_succ]
    refine wpAnyH_ready (rs := [25]) (by kernel_rfl) (by simp) ?_
    refine' AllReadyH.cons (o := _) ?hoa11 (fun K hK => ?hsa11) AllReadyH.nil
    case hoa11 => (simp only [List.getElem?_toArray, List.getElem?_cons_succ, List.getElem?_cons_zero]; rfl)
    refine step_append_own rfl (.tmp 58) (.tmp 78) 22 rfl w5.heap.size 5 i0 (.int .u8 0) 1 1 Try.underlying22 hi hz0 hz1 hz2 rfl (by decide) va2 _ _ (by simp [Act.eval]) howna2 _ 4 4 ([p0, p1, p2, p3].map B) (by simp [Act.eval]) rfl ((Sl.lit (w5.drew) ([p0, p1, p2, p3].map B) 5 (by show 4 ≤ maxLen; decide)).chg ((((Chg.refl (fun j => j = w5.heap.size + 1) (w5.drew.alloc (.cells #[.int .u8 (p0.toNat : Int), .int .u8 (p1.toNat : Int), .int .u8 (p2.toNat : Int), .int .u8 (p3.toNat : Int)] 5)))).alloc (.cells #[] 5)).grown hga2 (fun k e => .inl (by simp [Value.ownBlock] at e; omega))) (fun k e => by simp [Value.ownBlock] at e; omega)).src (oneCellB _) (by unfold maxLen; omega) (by omega) (by have := hDa2.size; simp at *; omega) ?_
    intro va4 xa4 howna4 hga4 _ hOa4
    have hDa4 : Chg (fun _ => False) w5.drew xa4 := (hDa2).grown hga4 (fun k e => .inr (howna2.lt k e).1)
    refine hK.out _ _ (HPP.out _ hDa4) (fun hHeld => ?_)
    clear hK K
    simp only [Act.put, List.setIfInBounds_toArray, List.set_cons_zero, List.set_cons_succ]
    refine' wpAnyH_take (i := 26) (oi := _) (v := va4) ?hiaz1226 (by kernel_rfl) (by kernel_rfl) (by kernel_rfl) ?hqaz1226 (Or.inl ⟨?hwaz1226, fun w hSw => ?hyaz1226⟩) hHeld ?hkaz1226
    case hiaz1226 => (simp only [List.getElem?_toArray, List.getElem?_cons_succ, List.getElem?_cons_zero]; rfl)
    case hqaz1226 => exact fun _ _ _ h => h
    case hwaz1226 => rfl
    case hyaz1226 => first | (go_simp; done) | (go_simp; with_reducible rfl)
    simp only [Act.put, List.setIfInBounds_toArray, List.set_cons_zero, List.set_cons_succ]
    refine wpAnyH_done (by kernel_rfl) ?_ _
    have hbits : [] ++ xs.map B ++ [p0, p1, p2, p3].map B = (xs ++ [p0, p1, p2, p3]).map B := by rw [List.nil_append, ← List.map_append]
    rw [hbits, show 0 + n + 4 = L by have := HLn.out; omega] at howna4
    clear hbits howna2 hga2 hOa2 hga4 hOa4 hDa2 hHeld q0 q1 q2 q3 hcut hS1
    obtain ⟨g2, cp2, rfl, hg2, hcp2, hcp3⟩ := own_some howna4 (by have := HLn.out; omega)
    have hR6 := rowB_of howna4
    have hC6 : Chg (fun _ => False) W xa4 := (hC15.tr ((Chg.refl _ w5).drew)).tr hDa4
    have hg2lt : W.heap.size ≤ g2 := by have := hC15.size; have h2 : w5.heap.size ≤ g2 := hg2; omega
    clear howna4 hDa4
    obtain ⟨w6, rfl⟩ : ∃ w6, w6 = xa4 := ⟨_, rfl⟩
    obtain ⟨d, hd⟩ : ∃ d, 8 * L - 31 = d := ⟨_, rfl⟩
    obtain ⟨f, hf⟩ : ∃ f, a % d = f := ⟨_, rfl⟩
    have hd1 : 8 * n + 1 = d := by have := HLn.out; omega
    have hf1 : f ≤ 8 * n := by have := Nat.mod_lt a (show 0 < d by omega); omega
    have e6 : IntKind.i64.wrap (8 * (L : Int)) = 8 * (L : Int) := IntWalk.i64_in _ (by have := HLn.out; omega)
    have e7 : IntKind.i64.wrap (8 * (L : Int) - 31) = (d : Int) := by rw [show 8 * (L : Int) - 31 = (d : Int) by have := HLn.out; omega]; exact IntWalk.i64_in _ (by omega)
    have e8 : Int.tmod (a : Int) (d : Int) = (f : Int) := by rw [← hf]; rfl
    have e9 : ¬ d = 0 := by omega
    have e0 : wrap64 (a : Int) = (a : Int) := wrap_nat a (by omega)
    have HF1 := Lib.hid hf1
    have hl32 : L < 4294967296 := by have := HLn.out; omega
    have HL32 := Lib.hid hl32
    have HLX := Lib.hid (show (xs ++ [p0, p1, p2, p3]).length = L by rw [List.length_append, HM.out]; exact HLn.out.symm)
    have HT := Lib.hid ht
    clear hd hf hd1 hf1 hl32 hC15 hg hg2 ht ha
    go_wp2
    go_loopw [14] (fun i wr => ∃ k : Nat, k ≤ 32 ∧ i = .int .i64 k ∧ Chg (fun q => q = g2) w6 wr ∧ RowB wr g2 (xorB (xs ++ [p0, p1, p2, p3]) (leB (turnX t f k) (xs ++ [p0, p1, p2, p3]).length)))
      (fun i _ => 32 - (intOf i).toNat)
    case atStart =>
      refine ⟨0, Nat.zero_le _, rfl, Chg.refl _ _, ?_⟩
      rw [show turnX t f 0 = 0 from rfl, xorB_zero]
      exact hR6
    case round =>
      obtain ⟨k, hk, rfl, hCz, hRz⟩ := hrel
      by_cases hlt : k < 32
      · have hk2 : (k : Int) < 32 := by omega
        have hsh : ((t / 2 ^ k : Nat) : Int) = (t : Int) / 2 ^ k := by rw [Int.natCast_ediv]; norm_cast
        have hand := and_u32_one (t / 2 ^ k) (Nat.lt_of_le_of_lt (Nat.div_le_self _ _) HT.out)
        rw [hsh] at hand
        by_cases hp : t / 2 ^ k % 2 = 1
        · rw [hp] at hand
          obtain ⟨s, q, r, P, y, v1, v2, v3, v4, v5, v6, v7, v8, v9, v10, v11, v12, v13, v14, v15, hcl, hfz, hset⟩ := round_one (xs ++ [p0, p1, p2, p3]) t f k L wr g2 HLX.out HL32.out (by have := HF1.out; have := HLn.out; omega) hp hRz
          have HSET := Lib.hid hset
          clear hset hRz hp hsh
          go_wp2
          refine ⟨⟨k + 1, by omega, by go_num, hCz.setCell (p := ⟨g2, q, none⟩) (.inl rfl) _, ?_⟩, ?_⟩
          · rw [← (show (y ^^^ UInt8.ofNat P).toNat = y.toNat ^^^ P % 256 by rw [UInt8.toNat_xor, UInt8.toNat_ofNat'])]; exact HSET.out
          · first | (simp [intOf]; done) | (simp [intOf]; omega)
        · rw [show t / 2 ^ k % 2 = 0 by omega] at hand
          have HNX := Lib.hid (show turnX t f (k + 1) = turnX t f k from if_neg hp)
          clear hp hsh
          go_wp2
          go_roundw
          case rel => exact ⟨k + 1, by omega, by go_num, hCz, by rw [HNX.out]; exact hRz⟩
          case measure => first | (simp [intOf]; done) | (simp [intOf]; omega)
      · obtain rfl : k = 32 := by omega
        obtain ⟨zs, z0, z1, z2, z3, hzl, hRw, hok⟩ := turned xs t f n m p0 p1 p2 p3 HM.out HT.out HF1.out HM0.out HP.out wr g2 hRz
        have HYL := Lib.hid hzl
        have HOK := Lib.hid hok
        have hC7 : Chg (fun _ => False) W wr := hC6.trans hCz (fun _ _ h => h) (fun k hk h => by omega)
        obtain ⟨q0, q1, q2, q3⟩ := row_four hRw hzl
        obtain ⟨a1, d1, hS1, _, _, _, hcut⟩ := (sl_of_row hRw (by rw [List.length_append, hzl]; exact HLn.out.symm) hcp2 hcp3).slice 22 5 Try.underlying22 sizeOf_u8 0 n (Nat.zero_le _) (by rw [List.length_map, List.length_append, hzl]; omega)
        replace hcut := hcut rfl
        rw [Nat.sub_zero] at hS1 hcut
        rw [List.drop_zero, ← List.map_take, List.take_left' hzl] at hS1
        replace hS1 := hS1.fr ((Chg.refl _ wr).drew)
        clear hRz hRw hCz hlt hk hzl hok hC6 hR6 hg2lt
        go_wp2_with fail
        have hP : ∀ w', Chg (fun _ => False) wr.drew w' → (Chg (fun _ => False) wr.drew w' ∧ w'.cell? ⟨g2, n + 3, none⟩ = some (.int .u8 (z3.toNat : Int)) ∧ w'.cell? ⟨g2, n + 2, none⟩ = some (.int .u8 (z2.toNat : Int)) ∧ w'.cell? ⟨g2, n + 1, none⟩ = some (.int .u8 (z1.toNat : Int)) ∧ w'.cell? ⟨g2, n, none⟩ = some (.int .u8 (z0.toNat : Int))) := fun w' h => ⟨h, h.cell (q0 : (wr.drew).cell? _ = _) id, h.cell (q1 : (wr.drew).cell? _ = _) id, h.cell (q2 : (wr.drew).cell? _ = _) id, h.cell (q3 : (wr.drew).cell? _ = _) id⟩
        have HPP := Lib.hid hP
        refine wp_region_held_drew (S := fun w' => Chg (fun _ => False) wr.drew w' ∧ w'.cell? ⟨g2, n + 3, none⟩ = some (.int .u8 (z3.toNat : Int)) ∧ w'.cell? ⟨g2, n + 2, none⟩ = some (.int .u8 (z2.toNat : Int)) ∧ w'.cell? ⟨g2, n + 1, none⟩ = some (.int .u8 (z1.toNat : Int)) ∧ w'.cell? ⟨g2, n, none⟩ = some (.int .u8 (z0.toNat : Int))) (by kernel_rfl) (hP _ (Chg.refl _ _)) (fun hHeld => ?_)
        clear hP
        refine' wpAnyH_take (i := 1) (oi := _) (v := .slice (some ⟨g2, 0, none⟩) L cp2) ?hie1 (by kernel_rfl) (by kernel_rfl) (by kernel_rfl) ?hqe1 (Or.inl ⟨?hwe1, fun w hSw => ?hye1⟩) hHeld ?hke1
        case hie1 => (simp only [List.getElem?_toArray, List.getElem?_cons_succ, List.getElem?_cons_zero]; rfl)
        case hqe1 => exact fun _ _ _ h => h
        case hwe1 => rfl
        case hye1 => first | (go_simp; done) | (go_simp; with_reducible rfl)
        simp only [Act.put, List.setIfInBounds_toArray, List.set_cons_zero, List.set_cons_succ]
        refine' wpAnyH_take (i := 2) (oi := _) (v := .int .i64 n) ?hie2 (by kernel_rfl) (by kernel_rfl) (by kernel_rfl) ?hqe2 (Or.inl ⟨?hwe2, fun w hSw => ?hye2⟩) hHeld ?hke2
        case hie2 => (simp only [List.getElem?_toArray, List.getElem?_cons_succ, List.getElem?_cons_zero]; rfl)
        case hqe2 => exact fun _ _ _ h => h
        case hwe2 => rfl
        case hye2 => first | (go_simp; done) | (go_simp; with_reducible rfl)
        simp only [Act.put, List.setIfInBounds_toArray, List.set_cons_zero, List.set_cons_succ]
        refine' wpAnyH_take (i := 3) (oi := _) (v := .slice a1 n d1) ?hie3 (by kernel_rfl) (by kernel_rfl) (by kernel_rfl) ?hqe3 (Or.inl ⟨?hwe3, fun w hSw => ?hye3⟩) hHeld ?hke3
        case hie3 => (simp only [List.getElem?_toArray, List.getElem?_cons_succ, List.getElem?_cons_zero]; rfl)
        case hqe3 => exact fun _ _ _ h => h
        case hwe3 => rfl
        case hye3 => first | (go_simp; done) | (go_simp; with_reducible rfl)
        simp only [Act.put, List.setIfInBounds_toArray, List.set_cons_zero, List.set_cons_succ]
        refine' wpAnyH_take (i := 5) (oi := _) (v := .slice (some ⟨g2, 0, none⟩) L cp2) ?hie5 (by kernel_rfl) (by kernel_rfl) (by kernel_rfl) ?hqe5 (Or.inl ⟨?hwe5, fun w hSw => ?hye5⟩) hHeld ?hke5
        case hie5 => (simp only [List.getElem?_toArray, List.getElem?_cons_succ, List.getElem?_cons_zero]; rfl)
        case hqe5 => exact fun _ _ _ h => h
        case hwe5 => rfl
        case hye5 => first | (go_simp; done) | (go_simp; with_reducible rfl)
        simp only [Act.put, List.setIfInBounds_toArray, List.set_cons_zero, List.set_cons_succ]
        refine' wpAnyH_take (i := 6) (oi := _) (v := .int .i64 n) ?hie6 (by kernel_rfl) (by kernel_rfl) (by kernel_rfl) ?hqe6 (Or.inl ⟨?hwe6, fun w hSw => ?hye6⟩) hHeld ?hke6
        case hie6 => (simp only [List.getElem?_toArray, List.getElem?_cons_succ, List.getElem?_cons_zero]; rfl)
        case hqe6 => exact fun _ _ _ h => h
        case hwe6 => rfl
        case hye6 => first | (go_simp; done) | (go_simp; with_reducible rfl)
        simp only [Act.put, List.setIfInBounds_toArray, List.set_cons_zero, List.set_cons_succ]
        refine' wpAnyH_take (i := 7) (oi := _) (v := .int .i64 ((n : Int) + 3)) ?hie7 (by kernel_rfl) (by kernel_rfl) (by kernel_rfl) ?hqe7 (Or.inl ⟨?hwe7, fun w hSw => ?hye7⟩) hHeld ?hke7
        case hie7 => (simp only [List.getElem?_toArray, List.getElem?_cons_succ, List.getElem?_cons_zero]; rfl)
        case hqe7 => exact fun _ _ _ h => h
        case hwe7 => rfl
        case hye7 => first | (go_simp; done) | (go_simp; with_reducible rfl)
        simp only [Act.put, List.setIfInBounds_toArray, List.set_cons_zero, List.set_cons_succ]
        refine' wpAnyH_take (i := 8) (oi := _) (v := .pointer (some ⟨g2, n + 3, none⟩)) ?hie8 (by kernel_rfl) (by kernel_rfl) (by kernel_rfl) ?hqe8 (Or.inl ⟨?hwe8, fun w hSw => ?hye8⟩) hHeld ?hke8
        case hie8 => (simp only [List.getElem?_toArray, List.getElem?_cons_succ, List.getElem?_cons_zero]; rfl)
        case hqe8 => exact fun _ _ _ h => h
        case hwe8 => rfl
        case hye8 => first | (go_simp; done) | (go_simp; with_reducible rfl)
        simp only [Act.put, List.setIfInBounds_toArray, List.set_cons_zero, List.set_cons_succ]
        refine' wpAnyH_take (i := 9) (oi := _) (v := .int .u8 (z3.toNat : Int)) ?hie9 (by kernel_rfl) (by kernel_rfl) (by kernel_rfl) ?hqe9 (Or.inl ⟨?hwe9, fun w hSw => ?hye9⟩) hHeld ?hke9
        case hie9 => (simp only [List.getElem?_toArray, List.getElem?_cons_succ, List.getElem?_cons_zero]; rfl)
        case hqe9 => exact fun _ _ _ h => h
        case hwe9 => rfl
        case hye9 => first | (go_simp; done) | (go_simp; with_reducible rfl)
        simp only [Act.put, List.setIfInBounds_toArray, List.set_cons_zero, List.set_cons_succ]
        refine' wpAnyH_take (i := 10) (oi := _) (v := .slice (some ⟨g2, 0, none⟩) L cp2) ?hie10 (by kernel_rfl) (by kernel_rfl) (by kernel_rfl) ?hqe10 (Or.inl ⟨?hwe10, fun w hSw => ?hye10⟩) hHeld ?hke10
        case hie10 => (simp only [List.getElem?_toArray, List.getElem?_cons_succ, List.getElem?_cons_zero]; rfl)
        case hqe10 => exact fun _ _ _ h => h
        case hwe10 => rfl
        case hye10 => first | (go_simp; done) | (go_simp; with_reducible rfl)
        simp only [Act.put, List.setIfInBounds_toArray, List.set_cons_zero, List.set_cons_succ]
        refine' wpAnyH_take (i := 11) (oi := _) (v := .int .i64 n) ?hie11 (by kernel_rfl) (by kernel_rfl) (by kernel_rfl) ?hqe11 (Or.inl ⟨?hwe11, fun w hSw => ?hye11⟩) hHeld ?hke11
        case hie11 => (simp only [List.getElem?_toArray, List.getElem?_cons_succ, List.getElem?_cons_zero]; rfl)
        case hqe11 => exact fun _ _ _ h => h
        case hwe11 => rfl
        case hye11 => first | (go_simp; done) | (go_simp; with_reducible rfl)
        simp only [Act.put, List.setIfInBounds_toArray, List.set_cons_zero, List.set_cons_succ]
        refine' wpAnyH_take (i := 12) (oi := _) (v := .int .i64 ((n : Int) + 2)) ?hie12 (by kernel_rfl) (by kernel_rfl) (by kernel_rfl) ?hqe12 (Or.inl ⟨?hwe12, fun w hSw => ?hye12⟩) hHeld ?hke12
        case hie12 => (simp only [List.getElem?_toArray, List.getElem?_cons_succ, List.getElem?_cons_zero]; rfl)
        case hqe12 => exact fun _ _ _ h => h
        case hwe12 => rfl
        case hye12 => first | (go_simp; done) | (go_simp; with_reducible rfl)
        simp only [Act.put, List.setIfInBounds_toArray, List.set_cons_zero, List.set_cons_succ]
        refine' wpAnyH_take (i := 13) (oi := _) (v := .pointer (some ⟨g2, n + 2, none⟩)) ?hie13 (by kernel_rfl) (by kernel_rfl) (by kernel_rfl) ?hqe13 (Or.inl ⟨?hwe13, fun w hSw => ?hye13⟩) hHeld ?hke13
        case hie13 => (simp only [List.getElem?_toArray, List.getElem?_cons_succ, List.getElem?_cons_zero]; rfl)
        case hqe13 => exact fun _ _ _ h => h
        case hwe13 => rfl
        case hye13 => first | (go_simp; done) | (go_simp; with_reducible rfl)
        simp only [Act.put, List.setIfInBounds_toArray, List.set_cons_zero, List.set_cons_succ]
        refine' wpAnyH_take (i := 14) (oi := _) (v := .int .u8 (z2.toNat : Int)) ?hie14 (by kernel_rfl) (by kernel_rfl) (by kernel_rfl) ?hqe14 (Or.inl ⟨?hwe14, fun w hSw => ?hye14⟩) hHeld ?hke14
        case hie14 => (simp only [List.getElem?_toArray, List.getElem?_cons_succ, List.getElem?_cons_zero]; rfl)
        case hqe14 => exact fun _ _ _ h => h
        case hwe14 => rfl
        case hye14 => first | (go_simp; done) | (go_simp; with_reducible rfl)
        simp only [Act.put, List.setIfInBounds_toArray, List.set_cons_zero, List.set_cons_succ]
        refine' wpAnyH_take (i := 15) (oi := _) (v := .slice (some ⟨g2, 0, none⟩) L cp2) ?hie15 (by kernel_rfl) (by kernel_rfl) (by kernel_rfl) ?hqe15 (Or.inl ⟨?hwe15, fun w hSw => ?hye15⟩) hHeld ?hke15
        case hie15 => (simp only [List.getElem?_toArray, List.getElem?_cons_succ, List.getElem?_cons_zero]; rfl)
        case hqe15 => exact fun _ _ _ h => h
        case hwe15 => rfl
        case hye15 => first | (go_simp; done) | (go_simp; with_reducible rfl)
        simp only [Act.put, List.setIfInBounds_toArray, List.set_cons_zero, List.set_cons_succ]
        refine' wpAnyH_take (i := 16) (oi := _) (v := .int .i64 n) ?hie16 (by kernel_rfl) (by kernel_rfl) (by kernel_rfl) ?hqe16 (Or.inl ⟨?hwe16, fun w hSw => ?hye16⟩) hHeld ?hke16
        case hie16 => (simp only [List.getElem?_toArray, List.getElem?_cons_succ, List.getElem?_cons_zero]; rfl)
        case hqe16 => exact fun _ _ _ h => h
        case hwe16 => rfl
        case hye16 => first | (go_simp; done) | (go_simp; with_reducible rfl)
        simp only [Act.put, List.setIfInBounds_toArray, List.set_cons_zero, List.set_cons_succ]
        refine' wpAnyH_take (i := 17) (oi := _) (v := .int .i64 ((n : Int) + 1)) ?hie17 (by kernel_rfl) (by kernel_rfl) (by kernel_rfl) ?hqe17 (Or.inl ⟨?hwe17, fun w hSw => ?hye17⟩) hHeld ?hke17
        case hie17 => (simp only [List.getElem?_toArray, List.getElem?_cons_succ, List.getElem?_cons_zero]; rfl)
        case hqe17 => exact fun _ _ _ h => h
        case hwe17 => rfl
        case hye17 => first | (go_simp; done) | (go_simp; with_reducible rfl)
        simp only [Act.put, List.setIfInBounds_toArray, List.set_cons_zero, List.set_cons_succ]
        refine' wpAnyH_take (i := 18) (oi := _) (v := .pointer (some ⟨g2, n + 1, none⟩)) ?hie18 (by kernel_rfl) (by kernel_rfl) (by kernel_rfl) ?hqe18 (Or.inl ⟨?hwe18, fun w hSw => ?hye18⟩) hHeld ?hke18
        case hie18 => (simp only [List.getElem?_toArray, List.getElem?_cons_succ, List.getElem?_cons_zero]; rfl)
        case hqe18 => exact fun _ _ _ h => h
        case hwe18 => rfl
        case hye18 => first | (go_simp; done) | (go_simp; with_reducible rfl)
        simp only [Act.put, List.setIfInBounds_toArray, List.set_cons_zero, List.set_cons_succ]
        refine' wpAnyH_take (i := 19) (oi := _) (v := .int .u8 (z1.toNat : Int)) ?hie19 (by kernel_rfl) (by kernel_rfl) (by kernel_rfl) ?hqe19 (Or.inl ⟨?hwe19, fun w hSw => ?hye19⟩) hHeld ?hke19
        case hie19 => (simp only [List.getElem?_toArray, List.getElem?_cons_succ, List.getElem?_cons_zero]; rfl)
        case hqe19 => exact fun _ _ _ h => h
        case hwe19 => rfl
        case hye19 => first | (go_simp; done) | (go_simp; with_reducible rfl)
        simp only [Act.put, List.setIfInBounds_toArray, List.set_cons_zero, List.set_cons_succ]
        refine' wpAnyH_take (i := 20) (oi := _) (v := .slice (some ⟨g2, 0, none⟩) L cp2) ?hie20 (by kernel_rfl) (by kernel_rfl) (by kernel_rfl) ?hqe20 (Or.inl ⟨?hwe20, fun w hSw => ?hye20⟩) hHeld ?hke20
        case hie20 => (simp only [List.getElem?_toArray, List.getElem?_cons_succ, List.getElem?_cons_zero]; rfl)
        case hqe20 => exact fun _ _ _ h => h
        case hwe20 => rfl
        case hye20 => first | (go_simp; done) | (go_simp; with_reducible rfl)
        simp only [Act.put, List.setIfInBounds_toArray, List.set_cons_zero, List.set_cons_succ]
        refine' wpAnyH_take (i := 21) (oi := _) (v := .int .i64 n) ?hie21 (by kernel_rfl) (by kernel_rfl) (by kernel_rfl) ?hqe21 (Or.inl ⟨?hwe21, fun w hSw => ?hye21⟩) hHeld ?hke21
        case hie21 => (simp only [List.getElem?_toArray, List.getElem?_cons_succ, List.getElem?_cons_zero]; rfl)
        case hqe21 => exact fun _ _ _ h => h
        case hwe21 => rfl
        case hye21 => first | (go_simp; done) | (go_simp; with_reducible rfl)
        simp only [Act.put, List.setIfInBounds_toArray, List.set_cons_zero, List.set_cons_succ]
        refine' wpAnyH_take (i := 22) (oi := _) (v := .pointer (some ⟨g2, n, none⟩)) ?hie22 (by kernel_rfl) (by kernel_rfl) (by kernel_rfl) ?hqe22 (Or.inl ⟨?hwe22, fun w hSw => ?hye22⟩) hHeld ?hke22
        case hie22 => (simp only [List.getElem?_toArray, List.getElem?_cons_succ, List.getElem?_cons_zero]; rfl)
        case hqe22 => exact fun _ _ _ h => h
        case hwe22 => rfl
        case hye22 => first | (go_simp; done) | (go_simp; with_reducible rfl)
        simp only [Act.put, List.setIfInBounds_toArray, List.set_cons_zero, List.set_cons_succ]
        refine' wpAnyH_take (i := 23) (oi := _) (v := .int .u8 (z0.toNat : Int)) ?hie23 (by kernel_rfl) (by kernel_rfl) (by kernel_rfl) ?hqe23 (Or.inl ⟨?hwe23, fun w hSw => ?hye23⟩) hHeld ?hke23
        case hie23 => (simp only [List.getElem?_toArray, List.getElem?_cons_succ, List.getElem?_cons_zero]; rfl)
        case hqe23 => exact fun _ _ _ h => h
        case hwe23 => rfl
        case hye23 => first | (go_simp; done) | (go_simp; with_reducible rfl)
        simp only [Act.put, List.setIfInBounds_toArray, List.set_cons_zero, List.set_cons_succ]
        refine wpAnyH_ready (rs := [0, 24]) (by kernel_rfl) (by simp) ?_
        refine' AllReadyH.cons (o := _) ?hoe1 (fun K hK => ?c0e) (AllReadyH.cons (o := _) ?hpe1 (fun K hK => ?c24e) AllReadyH.nil)
        case hoe1 => (simp only [List.getElem?_toArray, List.getElem?_cons_zero]; rfl)
        case hpe1 => (simp only [List.getElem?_toArray, List.getElem?_cons_succ, List.getElem?_cons_zero]; rfl)
        case c0e =>
          go_simp
          refine hK.out _ _ (HPP.out _ ((Chg.refl (fun _ => False) wr.drew).alloc (.cells #[] 5))) (fun hHeld => ?_)
          clear hK K
          refine wpAnyH_ready (rs := [4, 24]) (by kernel_rfl) (by simp) ?_
          refine' AllReadyH.cons (o := _) ?hoe2 (fun K hK => ?c4e) (AllReadyH.cons (o := _) ?hpe2 (fun K hK => ?c24be) AllReadyH.nil)
          case hoe2 => (simp only [List.getElem?_toArray, List.getElem?_cons_succ, List.getElem?_cons_zero]; rfl)
          case hpe2 => (simp only [List.getElem?_toArray, List.getElem?_cons_succ, List.getElem?_cons_zero]; rfl)
          case c4e =>
            refine step_append_own rfl (.tmp 117) (.tmp 120) 22 rfl wr.heap.size 5 i0 (.int .u8 0) 1 1 Try.underlying22 hi hz0 hz1 hz2 rfl (by decide) (.slice (some ⟨wr.heap.size, 0, none⟩) 0 0) 0 [] (by simp [Act.eval]) (World.ownsRow_lit wr.drew #[] 0 (Nat.le_refl _) (Nat.zero_le _) rfl) a1 n d1 (zs.map B) (by simp [Act.eval]) (by rw [List.length_map, HYL.out]; omega) (hS1.fr (((Chg.refl (fun _ => False) wr.drew).alloc (.cells #[] 5)))).src (oneCellB _) (by unfold maxLen; omega) (by omega) (by first | (simp; done) | (simp; omega)) ?_
            intro ve2 xe2 howne2 hge2 _ hOe2
            have hDe2 : Chg (fun _ => False) wr.drew xe2 := (((Chg.refl (fun _ => False) wr.drew).alloc (.cells #[] 5))).grown hge2 (fun k e => .inr (by simp [Value.ownBlock] at e; simp; omega))
            refine hK.out _ _ (HPP.out _ hDe2) (fun hHeld => ?_)
            clear hK K
            simp only [Act.put, List.setIfInBounds_toArray, List.set_cons_zero, List.set_cons_succ]
            refine wpAnyH_ready (rs := [24]) (by kernel_rfl) (by simp) ?_
            refine' AllReadyH.cons (o := _) ?hoe3 (fun K hK => ?hse3) AllReadyH.nil
            case hoe3 => (simp only [List.getElem?_toArray, List.getElem?_cons_succ, List.getElem?_cons_zero]; rfl)
            go_simp
            refine hK.out _ _ (HPP.out _ (hDe2.alloc (.cells #[.int .u8 (z3.toNat : Int), .int .u8 (z2.toNat : Int), .int .u8 (z1.toNat : Int), .int .u8 (z0.toNat : Int)] 5))) (fun hHeld => ?_)
            clear hK K
            refine wpAnyH_ready (rs := [25]) (by kernel_rfl) (by simp) ?_
            refine' AllReadyH.cons (o := _) ?hoe4 (fun K hK => ?hse4) AllReadyH.nil
            case hoe4 => (simp only [List.getElem?_toArray, List.getElem?_cons_succ, List.getElem?_cons_zero]; rfl)
            refine step_append_own rfl (.tmp 121) (.tmp 141) 22 rfl wr.heap.size 5 i0 (.int .u8 0) 1 1 Try.underlying22 hi hz0 hz1 hz2 rfl (by decide) ve2 _ _ (by simp [Act.eval]) (howne2.alloc _) _ 4 4 ([z3, z2, z1, z0].map B) (by simp [Act.eval]) rfl (Sl.lit xe2 ([z3, z2, z1, z0].map B) 5 (by show 4 ≤ maxLen; decide)).src (oneCellB _) (by unfold maxLen; omega) (by omega) (by have := hDe2.size; simp at *; omega) ?_
            intro ve4 xe4 howne4 hge4 _ hOe4
            have hDe4 : Chg (fun _ => False) wr.drew xe4 := (hDe2.alloc (.cells #[.int .u8 (z3.toNat : Int), .int .u8 (z2.toNat : Int), .int .u8 (z1.toNat : Int), .int .u8 (z0.toNat : Int)] 5)).grown hge4 (fun k e => .inr (howne2.lt k e).1)
            refine hK.out _ _ (HPP.out _ hDe4) (fun hHeld => ?_)
            clear hK K
            simp only [Act.put, List.setIfInBounds_toArray, List.set_cons_zero, List.set_cons_succ]
            refine' wpAnyH_take (i := 26) (oi := _) (v := ve4) ?hiez526 (by kernel_rfl) (by kernel_rfl) (by kernel_rfl) ?hqez526 (Or.inl ⟨?hwez526, fun w hSw => ?hyez526⟩) hHeld ?hkez526
            case hiez526 => (simp only [List.getElem?_toArray, List.getElem?_cons_succ, List.getElem?_cons_zero]; rfl)
            case hqez526 => exact fun _ _ _ h => h
            case hwez526 => rfl
            case hyez526 => first | (go_simp; done) | (go_simp; with_reducible rfl)
            simp only [Act.put, List.setIfInBounds_toArray, List.set_cons_zero, List.set_cons_succ]
            refine wpAnyH_done (by kernel_rfl) ?_ _
            have hbits : [] ++ zs.map B ++ [z3, z2, z1, z0].map B = (zs ++ [z3, z2, z1, z0]).map B := by rw [List.nil_append, ← List.map_append]
            rw [hbits, show 0 + n + 4 = L by have := HLn.out; omega] at howne4
            clear hbits howne2 hge2 hOe2 hge4 hOe4 hDe2 hHeld q0 q1 q2 q3 hcut hS1
            have hC8 : Chg (fun _ => False) W xe4 := (hC7.tr ((Chg.refl _ wr).drew)).tr hDe4
            have hS8 := Sl.of_owns howne4
            clear hC7 hDe4 howne4
            obtain ⟨w8, rfl⟩ : ∃ w8, w8 = xe4 := ⟨_, rfl⟩
            have hop := open_any ve4 (zs ++ [z3, z2, z1, z0]) w8 hS8 (by rw [List.length_append, HYL.out]; show n + 4 + 100 ≤ _; omega)
            have hx : ∃ ys er, Calls Try.prog 13 #[ve4] w8 (GaveO w8 ys er) ∧ (er = 0 ↔ t = 0) := by
              refine ⟨_, _, hop, ?_⟩
              unfold openE
              rw [HOK.out]
              by_cases h0 : t = 0
              · simp [h0]
              · simp [h0]
            clear hop HOK hS8
            obtain ⟨ys, er, hop, her⟩ := hx
            by_cases h0 : t = 0
            · have h01 : (t : Int) = 0 := by omega
              have h02 : er = 0 := her.2 h0
              subst h02
              clear her h0
              go_wp2_with fail
              refine hop.mono ?_
              clear hop
              rintro e w9 ⟨v9, rfl, ho9, hC9⟩
              go_wp2
              go_ret
              exact ⟨rfl, hC8.tr hC9⟩
            · have h01 : ¬ (t : Int) = 0 := by omega
              have h02 : ¬ er = 0 := fun e => h0 (her.1 e)
              clear her
              go_wp2_with fail
              refine hop.mono ?_
              clear hop
              rintro e w9 ⟨v9, rfl, ho9, hC9⟩
              go_wp2
              go_ret
              have b1 : (er == 0) = false := beq_eq_false_iff_ne.2 h02
              have b2 : ((t : Int) == 0) = false := beq_eq_false_iff_ne.2 h01
              refine ⟨?_, hC8.tr hC9⟩
              simp [b1, b2]
          case c24be =>
            go_simp
            refine hK.out _ _ (HPP.out _ (((Chg.refl (fun _ => False) wr.drew).alloc (.cells #[] 5)).alloc (.cells #[.int .u8 (z3.toNat : Int), .int .u8 (z2.toNat : Int), .int .u8 (z1.toNat : Int), .int .u8 (z0.toNat : Int)] 5))) (fun hHeld => ?_)
            clear hK K
            refine wpAnyH_ready (rs := [4]) (by kernel_rfl) (by simp) ?_
            refine' AllReadyH.cons (o := _) ?hoe6 (fun K hK => ?hse6) AllReadyH.nil
            case hoe6 => (simp only [List.getElem?_toArray, List.getElem?_cons_succ, List.getElem?_cons_zero]; rfl)
            refine step_append_own rfl (.tmp 117) (.tmp 120) 22 rfl wr.heap.size 5 i0 (.int .u8 0) 1 1 Try.underlying22 hi hz0 hz1 hz2 rfl (by decide) (.slice (some ⟨wr.heap.size, 0, none⟩) 0 0) 0 [] (by simp [Act.eval]) ((World.ownsRow_lit wr.drew #[] 0 (Nat.le_refl _) (Nat.zero_le _) rfl).alloc _) a1 n d1 (zs.map B) (by simp [Act.eval]) (by rw [List.length_map, HYL.out]; omega) (hS1.fr ((((Chg.refl (fun _ => False) wr.drew).alloc (.cells #[] 5)).alloc (.cells #[.int .u8 (z3.toNat : Int), .int .u8 (z2.toNat : Int), .int .u8 (z1.toNat : Int), .int .u8 (z0.toNat : Int)] 5)))).src (oneCellB _) (by unfold maxLen; omega) (by omega) (by first | (simp; done) | (simp; omega)) ?_
            intro ve2 xe2 howne2 hge2 _ hOe2
            have hDe2 : Chg (fun _ => False) wr.drew xe2 := ((((Chg.refl (fun _ => False) wr.drew).alloc (.cells #[] 5)).alloc (.cells #[.int .u8 (z3.toNat : Int), .int .u8 (z2.toNat : Int), .int .u8 (z1.toNat : Int), .int .u8 (z0.toNat : Int)] 5))).grown hge2 (fun k e => .inr (by simp [Value.ownBlock] at e; simp; omega))
            refine hK.out _ _ (HPP.out _ hDe2) (fun hHeld => ?_)
            clear hK K
            simp only [Act.put, List.setIfInBounds_toArray, List.set_cons_zero, List.set_cons_succ]
            refine wpAnyH_ready (rs := [25]) (by kernel_rfl) (by simp) ?_
            refine' AllReadyH.cons (o := _) ?hoe7 (fun K hK => ?hse7) AllReadyH.nil
            case hoe7 => (simp only [List.getElem?_toArray, List.getElem?_cons_succ, List.getElem?_cons_zero]; rfl)
            refine step_append_own rfl (.tmp 121) (.tmp 141) 22 rfl wr.heap.size 5 i0 (.int .u8 0) 1 1 Try.underlying22 hi hz0 hz1 hz2 rfl (by decide) ve2 _ _ (by simp [Act.eval]) howne2 _ 4 4 ([z3, z2, z1, z0].map B) (by simp [Act.eval]) rfl ((Sl.lit (wr.drew.alloc (.cells #[] 5)) ([z3, z2, z1, z0].map B) 5 (by show 4 ≤ maxLen; decide)).chg ((Chg.refl (fun j => j = wr.heap.size) ((wr.drew.alloc (.cells #[] 5)).alloc (.cells #[.int .u8 (z3.toNat : Int), .int .u8 (z2.toNat : Int), .int .u8 (z1.toNat : Int), .int .u8 (z0.toNat : Int)] 5))).grown hge2 (fun k e => .inl (by simp [Value.ownBlock] at e; omega))) (fun k e => by simp [Value.ownBlock] at e; omega)).src (oneCellB _) (by unfold maxLen; omega) (by omega) (by have := hDe2.size; simp at *; omega) ?_
            intro ve4 xe4 howne4 hge4 _ hOe4
            have hDe4 : Chg (fun _ => False) wr.drew xe4 := (hDe2).grown hge4 (fun k e => .inr (howne2.lt k e).1)
            refine hK.out _ _ (HPP.out _ hDe4) (fun hHeld => ?_)
            clear hK K
            simp only [Act.put, List.setIfInBounds_toArray, List.set_cons_zero, List.set_cons_succ]
            refine' wpAnyH_take (i := 26) (oi := _) (v := ve4) ?hiez826 (by kernel_rfl) (by kernel_rfl) (by kernel_rfl) ?hqez826 (Or.inl ⟨?hwez826, fun w hSw => ?hyez826⟩) hHeld ?hkez826
            case hiez826 => (simp only [List.getElem?_toArray, List.getElem?_cons_succ, List.getElem?_cons_zero]; rfl)
            case hqez826 => exact fun _ _ _ h => h
            case hwez826 => rfl
            case hyez826 => first | (go_simp; done) | (go_simp; with_reducible rfl)
            simp only [Act.put, List.setIfInBounds_toArray, List.set_cons_zero, List.set_cons_succ]
            refine wpAnyH_done (by kernel_rfl) ?_ _
            have hbits : [] ++ zs.map B ++ [z3, z2, z1, z0].map B = (zs ++ [z3, z2, z1, z0]).map B := by rw [List.nil_append, ← List.map_append]
            rw [hbits, show 0 + n + 4 = L by have := HLn.out; omega] at howne4
            clear hbits howne2 hge2 hOe2 hge4 hOe4 hDe2 hHeld q0 q1 q2 q3 hcut hS1
            have hC8 : Chg (fun _ => False) W xe4 := (hC7.tr ((Chg.refl _ wr).drew)).tr hDe4
            have hS8 := Sl.of_owns howne4
            clear hC7 hDe4 howne4
            obtain ⟨w8, rfl⟩ : ∃ w8, w8 = xe4 := ⟨_, rfl⟩
            have hop := open_any ve4 (zs ++ [z3, z2, z1, z0]) w8 hS8 (by rw [List.length_append, HYL.out]; show n + 4 + 100 ≤ _; omega)
            have hx : ∃ ys er, Calls Try.prog 13 #[ve4] w8 (GaveO w8 ys er) ∧ (er = 0 ↔ t = 0) := by
              refine ⟨_, _, hop, ?_⟩
              unfold openE
              rw [HOK.out]
              by_cases h0 : t = 0
              · simp [h0]
              · simp [h0]
            clear hop HOK hS8
            obtain ⟨ys, er, hop, her⟩ := hx
            by_cases h0 : t = 0
            · have h01 : (t : Int) = 0 := by omega
              have h02 : er = 0 := her.2 h0
              subst h02
              clear her h0
              go_wp2_with fail
              refine hop.mono ?_
              clear hop
              rintro e w9 ⟨v9, rfl, ho9, hC9⟩
              go_wp2
              go_ret
              exact ⟨rfl, hC8.tr hC9⟩
            · have h01 : ¬ (t : Int) = 0 := by omega
              have h02 : ¬ er = 0 := fun e => h0 (her.1 e)
              clear her
              go_wp2_with fail
              refine hop.mono ?_
              clear hop
              rintro e w9 ⟨v9, rfl, ho9, hC9⟩
              go_wp2
              go_ret
              have b1 : (er == 0) = false := beq_eq_false_iff_ne.2 h02
              have b2 : ((t : Int) == 0) = false := beq_eq_false_iff_ne.2 h01
              refine ⟨?_, hC8.tr hC9⟩
              simp [b1, b2]
        case c24e =>
          go_simp
          refine hK.out _ _ (HPP.out _ ((Chg.refl (fun _ => False) wr.drew).alloc (.cells #[.int .u8 (z3.toNat : Int), .int .u8 (z2.toNat : Int), .int .u8 (z1.toNat : Int), .int .u8 (z0.toNat : Int)] 5))) (fun hHeld => ?_)
          clear hK K
          refine wpAnyH_ready (rs := [0]) (by kernel_rfl) (by simp) ?_
          refine' AllReadyH.cons (o := _) ?hoe9 (fun K hK => ?hse9) AllReadyH.nil
          case hoe9 => (simp only [List.getElem?_toArray, List.getElem?_cons_zero]; rfl)
          go_simp
          refine hK.out _ _ (HPP.out _ (((Chg.refl (fun _ => False) wr.drew).alloc (.cells #[.int .u8 (z3.toNat : Int), .int .u8 (z2.toNat : Int), .int .u8 (z1.toNat : Int), .int .u8 (z0.toNat : Int)] 5)).alloc (.cells #[] 5))) (fun hHeld => ?_)
          clear hK K
          refine wpAnyH_ready (rs := [4]) (by kernel_rfl) (by simp) ?_
          refine' AllReadyH.cons (o := _) ?hoe10 (fun K hK => ?hse10) AllReadyH.nil
          case hoe10 => (simp only [List.getElem?_toArray, List.getElem?_cons_succ, List.getElem?_cons_zero]; rfl)
          have howne0 := (World.ownsRow_lit (size := 1) (e := 5) (wr.drew.alloc (.cells #[.int .u8 (z3.toNat : Int), .int .u8 (z2.toNat : Int), .int .u8 (z1.toNat : Int), .int .u8 (z0.toNat : Int)] 5)) #[] 0 (show wr.heap.size ≤ (wr.drew.alloc (.cells #[.int .u8 (z3.toNat : Int), .int .u8 (z2.toNat : Int), .int .u8 (z1.toNat : Int), .int .u8 (z0.toNat : Int)] 5)).heap.size by simp) (Nat.zero_le _) rfl)
          rw [World.size_alloc] at howne0
          refine step_append_own rfl (.tmp 117) (.tmp 120) 22 rfl wr.heap.size 5 i0 (.int .u8 0) 1 1 Try.underlying22 hi hz0 hz1 hz2 rfl (by decide) (.slice (some ⟨wr.heap.size + 1, 0, none⟩) 0 0) 0 [] (by simp [Act.eval]) howne0 a1 n d1 (zs.map B) (by simp [Act.eval]) (by rw [List.length_map, HYL.out]; omega) (hS1.fr ((((Chg.refl (fun _ => False) wr.drew).alloc (.cells #[.int .u8 (z3.toNat : Int), .int .u8 (z2.toNat : Int), .int .u8 (z1.toNat : Int), .int .u8 (z0.toNat : Int)] 5)).alloc (.cells #[] 5)))).src (oneCellB _) (by unfold maxLen; omega) (by omega) (by first | (simp; done) | (simp; omega)) ?_
          intro ve2 xe2 howne2 hge2 _ hOe2
          have hDe2 : Chg (fun _ => False) wr.drew xe2 := ((((Chg.refl (fun _ => False) wr.drew).alloc (.cells #[.int .u8 (z3.toNat : Int), .int .u8 (z2.toNat : Int), .int .u8 (z1.toNat : Int), .int .u8 (z0.toNat : Int)] 5)).alloc (.cells #[] 5))).grown hge2 (fun k e => .inr (by simp [Value.ownBlock] at e; simp; omega))
          refine hK.out _ _ (HPP.out _ hDe2) (fun hHeld => ?_)
          clear hK K
          simp only [Act.put, List.setIfInBounds_toArray, List.set_cons_zero, List.set_cons_succ]
          refine wpAnyH_ready (rs := [25]) (by kernel_rfl) (by simp) ?_
          refine' AllReadyH.cons (o := _) ?hoe11 (fun K hK => ?hse11) AllReadyH.nil
          case hoe11 => (simp only [List.getElem?_toArray, List.getElem?_cons_succ, List.getElem?_cons_zero]; rfl)
          refine step_append_own rfl (.tmp 121) (.tmp 141) 22 rfl wr.heap.size 5 i0 (.int .u8 0) 1 1 Try.underlying22 hi hz0 hz1 hz2 rfl (by decide) ve2 _ _ (by simp [Act.eval]) howne2 _ 4 4 ([z3, z2, z1, z0].map B) (by simp [Act.eval]) rfl ((Sl.lit (wr.drew) ([z3, z2, z1, z0].map B) 5 (by show 4 ≤ maxLen; decide)).chg ((((Chg.refl (fun j => j = wr.heap.size + 1) (wr.drew.alloc (.cells #[.int .u8 (z3.toNat : Int), .int .u8 (z2.toNat : Int), .int .u8 (z1.toNat : Int), .int .u8 (z0.toNat : Int)] 5)))).alloc (.cells #[] 5)).grown hge2 (fun k e => .inl (by simp [Value.ownBlock] at e; omega))) (fun k e => by simp [Value.ownBlock] at e; omega)).src (oneCellB _) (by unfold maxLen; omega) (by omega) (by have := hDe2.size; simp at *; omega) ?_
          intro ve4 xe4 howne4 hge4 _ hOe4
          have hDe4 : Chg (fun _ => False) wr.drew xe4 := (hDe2).grown hge4 (fun k e => .inr (howne2.lt k e).1)
          refine hK.out _ _ (HPP.out _ hDe4) (fun hHeld => ?_)
          clear hK K
          simp only [Act.put, List.setIfInBounds_toArray, List.set_cons_zero, List.set_cons_succ]
          refine' wpAnyH_take (i := 26) (oi := _) (v := ve4) ?hiez1226 (by kernel_rfl) (by kernel_rfl) (by kernel_rfl) ?hqez1226 (Or.inl ⟨?hwez1226, fun w hSw => ?hyez1226⟩) hHeld ?hkez1226
          case hiez1226 => (simp only [List.getElem?_toArray, List.getElem?_cons_succ, List.getElem?_cons_zero]; rfl)
          case hqez1226 => exact fun _ _ _ h => h
          case hwez1226 => rfl
          case hyez1226 => first | (go_simp; done) | (go_simp; with_reducible rfl)
          simp only [Act.put, List.setIfInBounds_toArray, List.set_cons_zero, List.set_cons_succ]
          refine wpAnyH_done (by kernel_rfl) ?_ _
          have hbits : [] ++ zs.map B ++ [z3, z2, z1, z0].map B = (zs ++ [z3, z2, z1, z0]).map B := by rw [List.nil_append, ← List.map_append]
          rw [hbits, show 0 + n + 4 = L by have := HLn.out; omega] at howne4
          clear hbits howne2 hge2 hOe2 hge4 hOe4 hDe2 hHeld q0 q1 q2 q3 hcut hS1
          have hC8 : Chg (fun _ => False) W xe4 := (hC7.tr ((Chg.refl _ wr).drew)).tr hDe4
          have hS8 := Sl.of_owns howne4
          clear hC7 hDe4 howne4
          obtain ⟨w8, rfl⟩ : ∃ w8, w8 = xe4 := ⟨_, rfl⟩
          have hop := open_any ve4 (zs ++ [z3, z2, z1, z0]) w8 hS8 (by rw [List.length_append, HYL.out]; show n + 4 + 100 ≤ _; omega)
          have hx : ∃ ys er, Calls Try.prog 13 #[ve4] w8 (GaveO w8 ys er) ∧ (er = 0 ↔ t = 0) := by
            refine ⟨_, _, hop, ?_⟩
            unfold openE
            rw [HOK.out]
            by_cases h0 : t = 0
            · simp [h0]
            · simp [h0]
          clear hop HOK hS8
          obtain ⟨ys, er, hop, her⟩ := hx
          by_cases h0 : t = 0
          · have h01 : (t : Int) = 0 := by omega
            have h02 : er = 0 := her.2 h0
            subst h02
            clear her h0
            go_wp2_with fail
            refine hop.mono ?_
            clear hop
            rintro e w9 ⟨v9, rfl, ho9, hC9⟩
            go_wp2
            go_ret
            exact ⟨rfl, hC8.tr hC9⟩
          · have h01 : ¬ (t : Int) = 0 := by omega
            have h02 : ¬ er = 0 := fun e => h0 (her.1 e)
            clear her
            go_wp2_with fail
            refine hop.mono ?_
            clear hop
            rintro e w9 ⟨v9, rfl, ho9, hC9⟩
            go_wp2
            go_ret
            have b1 : (er == 0) = false := beq_eq_false_iff_ne.2 h02
            have b2 : ((t : Int) == 0) = false := beq_eq_false_iff_ne.2 h01
            refine ⟨?_, hC8.tr hC9⟩
            simp [b1, b2]
end Go.Proofs.Ytkckniipingkiaa
