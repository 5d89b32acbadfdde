/- Tiles: the chapter's first examples. -/
import Derived.Test.YtccpmbonipfmpaaTlG
namespace Go.Proofs.Ytccpmbonipfmpaa
open Go.RowKit

theorem open_seal (xs : List UInt8) : openOk (sealL xs) = true := by
  have h1 : (sealL xs).take ((sealL xs).length - 4) = xs := by
    rw [sealL_length, show xs.length + 4 - 4 = xs.length by omega]
    exact List.take_left
  unfold openOk
  rw [decide_eq_true (by rw [sealL_length]; omega), Bool.true_and, h1]
  exact decide_eq_true rfl
theorem bodyL_length (f : Int) (no k : Nat) (l : List Int) (s : Nat) (h : 8 * l.length + 24 ≤ s * 128) : (bodyL f no k l s).length = s * 128 - 4 := by
  unfold bodyL
  rw [List.length_append, List.length_append, headL_length, elemsL_length, List.length_replicate]
  omega
theorem sound_128 (ao : Option Addr) (c : Nat) (xs : List UInt8) (w : World) (hS : Sl w (.slice ao 128 c) (xs.map B)) (hlen : xs.length = 128) (ho : openE xs = 0) : Calls Try.prog 18 #[.slice ao 128 c] w (GaveBo w true) := by
  have hop := open_any _ xs w hS (by omega)
  rw [ho] at hop
  have hz := tsized_any 1
  rw [show sizB 1 = true from rfl] at hz
  clear hS hlen ho
  go_enter Try.func18, Try.ntmps18
  go_wp2_with fail
  refine hop.mono ?_
  clear hop
  rintro e w1 ⟨v1, rfl, _, hC1⟩
  go_wp2_with (go_at_call 32; (with_reducible refine (hz _).mono ?_); rintro e w2 ⟨rfl, rfl⟩)
  go_ret
  exact ⟨rfl, hC1⟩
theorem alive_data : ∃ L : List UInt8, tileL 1 2 2 [97] 1 = L ∧ L.length = 128 ∧ L.take 28 = [81, 84, 1, 2, 0, 0, 0, 0, 0, 0, 0, 1, 0, 0, 0, 2, 0, 0, 0, 1, 0, 0, 0, 0, 0, 0, 0, 97] ∧ openE L = 0 := by
  refine ⟨_, rfl, ?_⟩
  have h : tileL 1 2 2 [97] 1 = sealL (bodyL 1 2 2 [97] 1) := if_pos (by decide)
  rw [h]
  refine ⟨by rw [sealL_length, bodyL_length _ _ _ _ _ (by decide)], ?_, ?_⟩
  · unfold sealL
    rw [List.take_append_of_le_length (by rw [bodyL_length _ _ _ _ _ (by decide)]; decide)]
    decide +kernel
  · unfold openE
    rw [open_seal, if_pos rfl]
theorem alive_any (w : World) : Calls Try.prog 15 #[] w (True_ w) := by
  obtain ⟨L, hL, hl, ht, ho⟩ := alive_data
  have hSl := Sl.lit w [I 97] 2 (by show 1 ≤ maxLen; unfold maxLen; decide)
  have he := tencode_any 1 2 2 1 _ [97] _ hSl (by decide)
  rw [hL, show checkE 1 2 2 [97] 1 = 0 from rfl] at he
  have f1 := tfit_any 1
  have f2 := tfit_any 64
  rw [show fitT 1 = 13 from rfl] at f1
  rw [show fitT 64 = 1021 from rfl] at f2
  have HL := Lib.hid hl
  have HT := Lib.hid ht
  have HO := Lib.hid ho
  clear hl ht ho hL hSl
  unfold tileV at he
  go_enter Try.func15, Try.ntmps15
  go_wp2_with fail
  refine he.mono ?_
  clear he
  rintro e w1 ⟨v1, rfl, ho1, hC1⟩
  have hS1 := Sl.of_owns ho1
  obtain ⟨ao, c, rfl, _⟩ := hS1.form
  rw [List.length_map, HL.out] at hS1 ⊢
  have hsd := sound_128 ao c L w1 hS1 HL.out HO.out
  obtain ⟨a1, d1, hS2, _, _, _, hcut⟩ := hS1.slice 25 5 Try.underlying25 sizeOf_u8 0 28 (by decide) (by rw [List.length_map, HL.out]; decide)
  replace hcut : ∀ W, (Instr.slice 25 (.slice ao 128 c) none (some (.int .i64 28)) none).run Try.prog W = .ok (.slice a1 28 d1) W := hcut rfl
  replace hS2 : Sl w1 (.slice a1 28 d1) ((L.take 28).map B) := by rw [← List.map_take, List.drop_zero] at hS2; exact hS2
  rw [HT.out] at hS2
  have hcv := run_convert_sl (P := Try.prog) 25 9 5 Try.underlying25 Try.underlying5 Try.underlying9 hS2
  clear ho1 hS1 hS2
  go_wp2_with (first
    | (go_at_call 12; (with_reducible refine (f1 _).mono ?_); rintro e w2 ⟨rfl, rfl⟩)
    | (go_at_call 12; (with_reducible refine (f2 _).mono ?_); rintro e w2 ⟨rfl, rfl⟩)
    | (go_at_call 18; (with_reducible refine hsd.mono ?_); rintro e w3 ⟨rfl, hC3⟩))
  go_ret
  exact ⟨rfl, (((Chg.refl _ w).alloc _).tr hC1).tr hC3⟩
end Go.Proofs.Ytccpmbonipfmpaa
