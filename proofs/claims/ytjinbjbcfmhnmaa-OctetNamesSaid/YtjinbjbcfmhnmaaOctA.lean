/- alive, and OctetOrder's walk. -/
import Derived.Test.YtjinbjbcfmhnmaaOctW
namespace Go.Proofs.Ytjinbjbcfmhnmaa
open Go.RowKit

theorem Wtr.new (w : World) (t : TypeId) : Wtr (w.alloc (.cells #[.slice none 0 0] t)) (w.heap.size + 1) w.heap.size (.slice none 0 0) [] :=
  ⟨new_cell w _ _ rfl, new_frozen w _ _ _, World.ownsRow_nil _ _ _ _, by omega⟩

/-- The bytes of the chapter's first example. -/
theorem alive_bytes : ([] ++ numBytes 2 258) ++ be 8 ((-2 : Int) % 18446744073709551616).toNat ++ textBytes ⟨#[97, 98]⟩ = [1, 2, 255, 255, 255, 255, 255, 255, 255, 254, 0, 2, 97, 98] := by decide +kernel

/-- A call that answers true and makes memory alone. -/
def True_ (w : World) (e : Ending) (w' : World) : Prop := e = .returned (.bool true) ∧ Chg (fun _ => False) w w'

set_option maxHeartbeats 400000 in
theorem alive_any (w : World) : Calls Try.prog 9 #[] w (True_ w) := by
  have hW0 := Wtr.new w 26
  have h1 := num_any 2 258 _ _ _ _ _ (by decide) (by decide) hW0 (by simp) (by simp)
  rw [show numErr 2 (258 : Int).toNat = 0 from by decide] at h1
  go_enter Try.func9, Try.ntmps9
  go_wp2_with fail
  refine h1.mono ?_
  clear h1
  rintro e w1 ⟨rfl, v1, hR1⟩
  have h2 := int_any (-2) _ _ _ _ _ hR1.wtr (by decide) (by have := hR1.chg.size; simp at this; omega)
  go_wp2_with fail
  refine h2.mono ?_
  clear h2
  rintro e w2 ⟨rfl, v2, hR2⟩
  have h3 := text_any ⟨#[97, 98]⟩ _ _ _ _ _ (by decide) hR2.wtr (by decide) (by have := hR1.chg.size; have := hR2.chg.size; simp at *; omega)
  rw [show textErr ⟨#[97, 98]⟩ = 0 from by decide] at h3
  go_wp2_with fail
  refine h3.mono ?_
  clear h3
  rintro e w3 ⟨rfl, v3, hR3⟩
  have h4 := bytes_any _ _ _ _ _ hR3.wtr (by decide)
  go_wp2_with fail
  refine h4.mono ?_
  clear h4
  rintro e w4 ⟨v4, rfl, ho, hC⟩
  have hcv := run_convert_sl (P := Try.prog) 24 9 5 Try.underlying24 Try.underlying5 Try.underlying9 (Sl.of_owns ho)
  rw [show (Int.toNat 258) = 258 from rfl, alive_bytes] at hcv
  go_wp2
  go_ret
  refine ⟨rfl, ?_⟩
  have hR := (hR1.trans hR2).trans hR3
  refine Chg.trans (S := fun j => w.heap.size ≤ j) (S' := fun _ => False) ((((Chg.refl _ w).alloc _).trans hR.chg (S' := fun j => j = w.heap.size ∨ Value.ownBlock (.slice none 0 0) = some j) (fun _ _ h => h) (fun i _ h => h.elim (fun h => by omega) (fun h => by simp [Value.ownBlock] at h)))) hC (fun i hi h => by omega) (fun _ _ h => h)
end Go.Proofs.Ytjinbjbcfmhnmaa
