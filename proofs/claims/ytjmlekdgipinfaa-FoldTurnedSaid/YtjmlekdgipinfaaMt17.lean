/- Cells of two new boxes, in whatever order they are laid and written. -/
import Derived.Test.YtjmlekdgipinfaaMt0
namespace Go.Proofs.Ytjmlekdgipinfaa
open Go.RowKit

theorem nn0 (w : World) (a b : Value) (t1 t2 : TypeId) : ((w.alloc (.cells #[a] t1)).alloc (.cells #[b] t2)).cell? ⟨w.heap.size, 0, none⟩ = some a := alloc_cell (new_cell w #[a] t1 (i := 0) rfl) _
theorem nn1 (w : World) (a b : Value) (t1 t2 : TypeId) : ((w.alloc (.cells #[a] t1)).alloc (.cells #[b] t2)).cell? ⟨w.heap.size + 1, 0, none⟩ = some b := by
  have h := new_cell (w.alloc (.cells #[a] t1)) #[b] t2 (i := 0) (v := b) rfl
  rw [World.size_alloc] at h
  exact h
theorem nn1f (w : World) (a : Value) (cs : Array Value) (t1 t2 : TypeId) : ((w.alloc (.cells #[a] t1)).alloc (.cells cs t2)).frozen? ⟨w.heap.size + 1, 0, none⟩ = false := by
  have h := new_frozen (w.alloc (.cells #[a] t1)) cs t2 0
  rw [World.size_alloc] at h
  exact h
theorem sn0 {w : World} {p : Addr} {z : Value} (h : w.cell? p = some z) (a : Value) (o : Obj) : ((w.setCell p a).alloc o).cell? p = some a := alloc_cell (World.cell?_setCell_same' _ _ _ (by rw [h]; rfl)) _
theorem sn1 (w : World) (p : Addr) (a b : Value) (t : TypeId) : ((w.setCell p a).alloc (.cells #[b] t)).cell? ⟨w.heap.size, 0, none⟩ = some b := by
  have h := new_cell (w.setCell p a) #[b] t (i := 0) (v := b) rfl
  rw [World.size_setCell] at h
  exact h
theorem ss0 {w : World} {p q : Addr} {z : Value} (h : w.cell? p = some z) (hne : p.block ≠ q.block) (a b : Value) : ((w.setCell p a).setCell q b).cell? p = some a := by
  have e0 : (w.setCell p a).cell? p = some a := World.cell?_setCell_same' _ _ _ (by rw [h]; rfl)
  rw [World.cell?_setCell_other _ _ _ _ (by intro e; rw [e] at hne; exact hne rfl), e0]
theorem ss1 {w : World} {p q : Addr} {z : Value} (h : w.cell? q = some z) (hne : p.block ≠ q.block) (a b : Value) : ((w.setCell p a).setCell q b).cell? q = some b :=
  World.cell?_setCell_same' _ _ _ (by rw [World.cell?_setCell_other _ _ _ _ (by intro e; rw [e] at hne; exact hne rfl), h]; rfl)
end Go.Proofs.Ytjmlekdgipinfaa
