/- bytes.Equal; four cells stored. -/
import Derived.Test.YtccpmbonipfmpaaOctB
namespace Go.Proofs.Ytccpmbonipfmpaa
open Go.RowKit

theorem equalB_any (u v : Value) (xs ys : List UInt8) (w : World) (hS : Sl w u (xs.map B)) (hT : Sl w v (ys.map B)) : Calls Try.prog 39 #[u, v] w (fun e w' => e = .returned (.bool (decide (xs = ys))) ∧ w' = w) := by
  obtain ⟨ao, c, rfl, _⟩ := hS.form
  obtain ⟨bo, d, rfl, _⟩ := hT.form
  simp only [List.length_map] at hS hT ⊢
  have k1 := conv_sl hS
  have k2 := conv_sl hT
  obtain ⟨X, hX, hX2, _⟩ := str_name xs
  obtain ⟨Y, hY, hY2, _⟩ := str_name ys
  rw [hX] at k1
  rw [hY] at k2
  have HX := Lib.hid hX2
  have HY := Lib.hid hY2
  clear hX hX2 hY hY2 hS hT
  go_enter Try.func39, Try.ntmps39
  go_wp2
  go_ret
  refine ⟨?_, rfl⟩
  show Ending.returned (Value.bool (X.toList == Y.toList)) = _
  rw [HX.out, HY.out]
  by_cases h : xs = ys
  · rw [decide_eq_true h, h]; simp
  · rw [decide_eq_false h, beq_eq_false_iff_ne.2 h]
theorem set4_cells {w : World} {g : Nat} {z0 z1 z2 z3 : Value} (a b c d : Value) (h0 : w.cell? ⟨g, 0, none⟩ = some z0) (h1 : w.cell? ⟨g, 1, none⟩ = some z1) (h2 : w.cell? ⟨g, 2, none⟩ = some z2) (h3 : w.cell? ⟨g, 3, none⟩ = some z3) :
    (w.setCell ⟨g, 0, none⟩ a).cell? ⟨g, 0, none⟩ = some a ∧ ((w.setCell ⟨g, 0, none⟩ a).setCell ⟨g, 1, none⟩ b).cell? ⟨g, 1, none⟩ = some b ∧
    (((w.setCell ⟨g, 0, none⟩ a).setCell ⟨g, 1, none⟩ b).setCell ⟨g, 2, none⟩ c).cell? ⟨g, 2, none⟩ = some c ∧
    ((((w.setCell ⟨g, 0, none⟩ a).setCell ⟨g, 1, none⟩ b).setCell ⟨g, 2, none⟩ c).setCell ⟨g, 3, none⟩ d).cell? ⟨g, 3, none⟩ = some d := by
  refine ⟨World.cell?_setCell_same' _ _ _ (by rw [h0]; rfl), World.cell?_setCell_same' _ _ _ ?_, World.cell?_setCell_same' _ _ _ ?_, World.cell?_setCell_same' _ _ _ ?_⟩
  · rw [World.cell?_setCell_other _ _ _ _ (by simp), h1]; rfl
  · rw [World.cell?_setCell_other _ _ _ _ (by simp), World.cell?_setCell_other _ _ _ _ (by simp), h2]; rfl
  · rw [World.cell?_setCell_other _ _ _ _ (by simp), World.cell?_setCell_other _ _ _ _ (by simp), World.cell?_setCell_other _ _ _ _ (by simp), h3]; rfl
end Go.Proofs.Ytccpmbonipfmpaa
