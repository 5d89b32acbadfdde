/- The document's going of a way. -/
import Derived.Test.YtjmlekdgipinfaaArE
namespace Go.Proofs.Ytjmlekdgipinfaa
open Go.RowKit Go.Shelf

/-- The element that a way brings, of two arrays. -/
def pickG (k : Int) (A B : Ar) (x : Int × Int) : Int := if x.1 = 0 then A.e.getD x.2.toNat 0 else if x.1 = 1 then B.e.getD x.2.toNat 0 else fillN k
/-- The places are there. -/
def GoodG (g : List (Int × Int)) (A B : Ar) : Prop := ∀ x ∈ g, (x.1 = 0 → 0 ≤ x.2 ∧ x.2 < A.e.length) ∧ (x.1 = 1 → 0 ≤ x.2 ∧ x.2 < B.e.length)
theorem take_map {α β : Type} (f : α → β) (g : List α) (k : Nat) (h : k < g.length) : (g.take (k + 1)).map f = (g.take k).map f ++ [f g[k]] := by
  rw [List.take_succ_eq_append_getElem h, List.map_append]
  rfl
theorem cell_two (W : World) (v0 v1 v2 : Value) (t : TypeId) : (W.alloc (.cells #[v0, v1, v2] t)).cell? ⟨W.heap.size, 0, none⟩ = some v0 ∧ (W.alloc (.cells #[v0, v1, v2] t)).cell? ⟨W.heap.size, 1, none⟩ = some v1 ∧ (W.alloc (.cells #[v0, v1, v2] t)).cell? ⟨W.heap.size, 2, none⟩ = some v2 :=
  ⟨new_cell W _ _ rfl, new_cell W _ _ rfl, new_cell W _ _ rfl⟩
end Go.Proofs.Ytjmlekdgipinfaa
