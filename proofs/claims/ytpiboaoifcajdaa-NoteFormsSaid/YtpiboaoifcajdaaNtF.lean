/- NoteForms' walk. -/
import Derived.Test.YtpiboaoifcajdaaNtT
import Derived.Test.YtpiboaoifcajdaaNtO
import Derived.Maps.AppendAt
namespace Go.Proofs.Ytpiboaoifcajdaa
open Go.RowKit

theorem forms_big (k a b n : Int) (ao : Option Addr) (c m : Nat) (W : World) (h1 : (100 : Int) < m) : Calls Try.prog 3 #[noteV k a b n, .slice ao m c] W (True_ W) := by
  unfold noteV
  go_enter Try.func3, Try.ntmps3
  go_wp2
  go_ret
  exact ⟨rfl, (Chg.refl _ W).alloc _⟩
theorem decV_note (xs : List UInt8) : ∃ k a b n, decV xs = noteV k a b n := by
  unfold decV
  split
  · exact ⟨_, _, _, _, rfl⟩
  · exact ⟨_, _, _, _, rfl⟩
set_option maxRecDepth 100000 in
set_option maxHeartbeats 3000000 in
theorem forms_main (k a b nn : Int) (hnn : nn ≤ 9223372036854775807) (ao : Option Addr) (c n : Nat) (xs : List UInt8) (W : World) (m1 : xs.length = n) (hS : Sl W (.slice ao n c) (xs.map B)) (h1 : ¬ (100 : Int) < n) : Calls Try.prog 3 #[noteV k a b nn, .slice ao n c] W (True_ W) := by
  obtain ⟨i0, hi, hz0, hz1, hz2⟩ := info_parts Try.info5
  obtain ⟨k2, a2, b2, n2, hdv⟩ := decV_note xs
  have p1 := fun w => encode_any k a b nn hnn w
  have p2 := fun w => r9enc_any k a b nn hnn w
  obtain ⟨L, hL0⟩ : ∃ L, encL k a b nn = L := ⟨_, rfl⟩
  obtain ⟨E, hE0⟩ : ∃ E, encE k a b nn = E := ⟨_, rfl⟩
  rw [hL0, hE0] at p1 p2
  unfold noteV at *
  have HS := Lib.hid hS
  have HM := Lib.hid m1
  have HDV := Lib.hid hdv
  clear hS m1 hL0 hE0 hdv hnn
  have hA := (Chg.refl (fun _ => False) W).alloc (.cells #[.int .i64 k, .int .i64 a, .int .i64 b, .int .i64 nn] 23)
  have hown0 := World.ownsRow_lit (base := W.heap.size + 1) (size := 1) (e := 5) (W.alloc (.cells #[.int .i64 k, .int .i64 a, .int .i64 b, .int .i64 nn] 23)) #[] 0 (by simp) (Nat.zero_le _) rfl
  rw [World.size_alloc] at hown0
  go_enter Try.func3, Try.ntmps3
  go_wp2_with (first
    | (refine wpList_append_own_any rfl (.tmp 17) (.tmp 18) 24 rfl (W.heap.size + 1) 5 i0 (.int .u8 0) 1 1 Try.underlying24 hi hz0 hz1 hz2 rfl (by decide) (.slice (some ⟨W.heap.size + 1, 0, none⟩) 0 0) 0 [] rfl hown0 ao n c (xs.map B) rfl (by rw [List.length_map, HM.out]; omega) (HS.out.fr (hA.alloc _)).src (by simp [B, Value.oneCell']) (by unfold maxLen; omega) (by omega) (by simp) ?_; intro v2 w2 hown2 hg2 _ hO2; have hC2 : Chg (fun _ => False) (W.alloc (.cells #[.int .i64 k, .int .i64 a, .int .i64 b, .int .i64 nn] 23)) w2 := ((Chg.refl _ _).alloc (.cells #[] 5)).grown hg2 (fun k e => .inr (by simp [Value.ownBlock] at e; simp; omega)); have hs2 : W.heap.size + 1 ≤ w2.heap.size := by have := hg2.size; simp at this; omega)
    | (refine wpList_append_own_any rfl (.tmp 19) (.tmp 20) 24 rfl (W.heap.size + 1) 5 i0 (.int .u8 0) 1 1 Try.underlying24 hi hz0 hz1 hz2 rfl (by decide) v2 _ _ rfl (hown2.alloc _) (some ⟨w2.heap.size, 0, none⟩) 1 1 [.int .u8 7] rfl rfl (fun j u hu => ⟨_, rfl, cell_one_new w2 _ _ j u hu⟩) (by simp [Value.oneCell']) (by unfold maxLen; omega) (by omega) (by simp; omega) ?_; intro v3 w3 hown3 hg3 _ hO3; have hC3 := (hC2.alloc (.cells #[.int .u8 7] 5)).grown hg3 (fun k e => .inr (by have := (hown2.lt k e).1; simp; omega))
       have eAll : ([] ++ xs.map B ++ [Value.int .u8 7]) = (xs ++ [7]).map B := by simp [B]
       rw [eAll] at hown3
       obtain ⟨ao3, L3, c3, rfl, hL3⟩ := owns_name hown3
       have hL : L3 = n + 1 := by rw [hL3.out]; omega
       have HL := Lib.hid hL
       clear hL
       have hOwn := Sl.of_owns hown3
       have hlen1 : (xs ++ [7]).length = n + 1 := by rw [List.length_append, HM.out]; rfl
       obtain ⟨a1, d1, hS1, _, _, _, hcut⟩ := hOwn.slice 24 5 Try.underlying24 sizeOf_u8 0 n (Nat.zero_le _) (by rw [List.length_map, hlen1]; omega)
       replace hcut := hcut rfl
       rw [Nat.sub_zero] at hS1 hcut
       rw [List.drop_zero, ← List.map_take, List.take_append_of_le_length (by rw [HM.out]; omega), List.take_of_length_le (by rw [HM.out]; omega)] at hS1
       have hq : (n : Int) ≤ (L3 : Int) := by have := HL.out; omega
       have d0 : w3.cell? ⟨W.heap.size, 0, none⟩ = some (.int .i64 k) := hC3.cell (new_cell W _ _ rfl) id
       have d1' : w3.cell? ⟨W.heap.size, 1, none⟩ = some (.int .i64 a) := hC3.cell (new_cell W _ _ rfl) id
       have d2 : w3.cell? ⟨W.heap.size, 2, none⟩ = some (.int .i64 b) := hC3.cell (new_cell W _ _ rfl) id
       have d3 : w3.cell? ⟨W.heap.size, 3, none⟩ = some (.int .i64 nn) := hC3.cell (new_cell W _ _ rfl) id))
  have HO := Lib.hid hOwn
  have HS1 := Lib.hid hS1
  have hW3 : Chg (fun _ => False) W w3 := hA.tr hC3
  clear hS1 hOwn hlen1 eAll hown2 hown3 hg2 hg3 hO2 hO3 hC2 hC3 hL3 hown0 hs2
  refine (p1 _).mono ?_
  clear p1
  rintro e w4 ⟨v4, rfl, ho4, hC4⟩
  replace d0 := hC4.cell d0 id
  replace d1' := hC4.cell d1' id
  replace d2 := hC4.cell d2 id
  replace d3 := hC4.cell d3 id
  go_wp2_with fail
  refine (p2 _).mono ?_
  clear p2
  rintro e w5 ⟨v5, rfl, ho5, hC5⟩
  have q1 := decode_any _ xs w5 (HS1.out.fr (hC4.tr hC5)) (by rw [HM.out]; omega)
  rw [HDV.out] at q1
  obtain ⟨D, hD⟩ : ∃ D, decE xs = D := ⟨_, rfl⟩
  rw [hD] at q1
  clear d0 d1' d2 d3
  go_wp2_with fail
  refine q1.mono ?_
  clear q1
  rintro e w6 ⟨rfl, hC6⟩
  have hC6' := hC6.alloc (.cells #[.int .i64 k2, .int .i64 a2, .int .i64 b2, .int .i64 n2] 23)
  have q2 := r9dec_any _ xs _ (HS.out.fr (((hW3.tr hC4).tr hC5).tr hC6'))
  rw [HDV.out, hD] at q2
  go_wp2_with fail
  refine q2.mono ?_
  clear q2
  rintro e w7 ⟨rfl, hC7⟩
  have hC7' := hC7.alloc (.cells #[.int .i64 k2, .int .i64 a2, .int .i64 b2, .int .i64 n2] 23)
  have y0 : (w7.alloc (.cells #[.int .i64 k2, .int .i64 a2, .int .i64 b2, .int .i64 n2] 23)).cell? ⟨w6.heap.size, 0, none⟩ = some (.int .i64 k2) := hC7'.cell (new_cell w6 _ _ rfl) id
  have y1 : (w7.alloc (.cells #[.int .i64 k2, .int .i64 a2, .int .i64 b2, .int .i64 n2] 23)).cell? ⟨w6.heap.size, 1, none⟩ = some (.int .i64 a2) := hC7'.cell (new_cell w6 _ _ rfl) id
  have y2 : (w7.alloc (.cells #[.int .i64 k2, .int .i64 a2, .int .i64 b2, .int .i64 n2] 23)).cell? ⟨w6.heap.size, 2, none⟩ = some (.int .i64 b2) := hC7'.cell (new_cell w6 _ _ rfl) id
  have y3 : (w7.alloc (.cells #[.int .i64 k2, .int .i64 a2, .int .i64 b2, .int .i64 n2] 23)).cell? ⟨w6.heap.size, 3, none⟩ = some (.int .i64 n2) := hC7'.cell (new_cell w6 _ _ rfl) id
  have hF5 := (hC6'.tr hC7')
  have hF4 := hC5.tr hF5
  have hF3 := hC4.tr hF4
  obtain ⟨SL, hL1, hL2, hL3⟩ := str_name L
  obtain ⟨SO, hO1, hO2, hO3⟩ := str_name (xs ++ [7])
  obtain ⟨SB, hB1, hB2, hB3⟩ := str_name xs
  have hk1 := conv_sl ((Sl.of_owns ho4).fr hF4)
  have hk2 := conv_sl ((Sl.of_owns ho5).fr hF5)
  have hk3 := conv_sl (HO.out.fr hF3)
  have hk4 := conv_sl (HS.out.fr (hW3.tr hF3))
  rw [hL1] at hk1 hk2
  rw [hO1] at hk3
  rw [hB1] at hk4
  have hcat : (SB ++ (⟨#[7]⟩ : ByteArray)) = SO := by rw [← hO1, ← hB1]; apply ByteArray.ext; simp
  have HCAT := Lib.hid hcat
  have hend := hW3.tr hF3
  have hsb : SB.size = n := by rw [← hB1, ← HM.out]; exact List.size_toArray ..
  clear hL1 hL2 hL3 hO1 hO2 hO3 hB1 hB2 hB3 hcat hF5 hF4 hF3 hC7 hC7' hC6 hC6' hC5 hC4 hW3 ho4 ho5 hA hD
  go_wp2
  go_ret
  refine ⟨?_, hend⟩
  show Ending.returned (Value.bool (SO.toList == (SB ++ (⟨#[7]⟩ : ByteArray)).toList)) = _
  rw [HCAT.out]
  simp
theorem noteForms_walk (k a b n : Int) (vb : Value) (xs : List UInt8) (W : World) (hn : NoteOk k a b n) (hS : Sl W vb (xs.map B)) : Calls Try.prog 3 #[noteV k a b n, vb] W (True_ W) := by
  obtain ⟨ao, c, rfl, _⟩ := hS.form
  rw [List.length_map] at hS ⊢
  by_cases h1 : (100 : Int) < xs.length
  · exact forms_big k a b n ao c _ W h1
  · exact forms_main k a b n hn.2.2.2.2 ao c _ xs W rfl hS h1
end Go.Proofs.Ytpiboaoifcajdaa
