/- fold: the plain law of an inner product of vectors. -/
import Derived.Test.YtjmlekdgipinfaaFdY
import Derived.Test.YtjmlekdgipinfaaSdB
namespace Go.Proofs.Ytjmlekdgipinfaa
open Go.RowKit Go.Shelf

theorem fr_map (p : Int → Int → Int × Int) : ∀ xs : List (Int × Int), frE p xs = fstE (xs.map fun x => p x.1 x.2)
  | [] => rfl
  | x :: xs => by
    simp only [frE, List.map_cons, fstE]
    rw [fr_map p xs]
theorem fr_tab (p : Int → Int → Int × Int) (A B : Ar) (n : Nat) : frE p (prL A B n) = fstE (tabP n fun i => p (elAt A i) (elAt B i)) := by
  rw [fr_map]
  unfold prL tabP
  rw [List.map_map]
  rfl
theorem va_tab (p : Int → Int → Int × Int) (A B : Ar) (n : Nat) : vaL p (prL A B n) = tabV n fun i => p (elAt A i) (elAt B i) := by
  unfold vaL prL tabV tabP
  rw [List.map_map, List.map_map]
  rfl
/-- Of vectors: what stands behind the one place is each pair in turn. -/
theorem inQ_vec (p : Int → Int → Int × Int) {A B : Ar} {a b : Int} (hA : A.s = [a]) (hB : B.s = [b]) (L k : Nat) : inQ p A B 1 L 0 k = p (elAt A k) (elAt B k) := by
  unfold inQ iaN ibN elAt
  rw [hA, hB]
  simp
theorem col_vec {B : Ar} {b : Int} (hB : B.s = [b]) : colN B = 1 := by
  unfold colN
  rw [hB]
  rfl
theorem shp_vec {A B : Ar} {a b : Int} (hA : A.s = [a]) (hB : B.s = [b]) : shpI A B = [] ∧ innN A B = 1 ∧ lngI A B = a := by
  unfold innN shpI lngI
  rw [hA, hB]
  exact ⟨rfl, rfl, rfl⟩
theorem bad_vec {A B : Ar} {a b : Int} (hA : A.s = [a]) (hB : B.s = [b]) : badP A B ↔ a ≠ b := by
  unfold badP
  rw [hA, hB]
  simp
theorem mdE_one (el : Nat → Int × Int) : mdE 1 el = (el 0).2 := by
  unfold mdE tabP
  simp only [List.range_succ, List.range_zero, List.nil_append, List.map_cons, List.map_nil, fstE]
  split
  · rename_i h; exact h.symm
  · rfl
end Go.Proofs.Ytjmlekdgipinfaa
