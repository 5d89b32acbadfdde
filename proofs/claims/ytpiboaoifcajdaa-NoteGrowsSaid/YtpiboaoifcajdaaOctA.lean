/- alive, and OctetOrder's walk. -/
import Derived.Test.YtpiboaoifcajdaaOctW
namespace Go.Proofs.Ytpiboaoifcajdaa
open Go.RowKit

theorem Wtr.new (w : World) (t : TypeId) : Wtr (w.alloc (.cells #[.slice none 0 0] t)) (w.heap.size + 1) w.heap.size (.slice none 0 0) [] :=
  ⟨new_cell w _ _ rfl, new_frozen w _ _ _, World.ownsRow_nil _ _ _ _, by omega⟩

/-- A call that answers true and makes memory alone. -/
def True_ (w : World) (e : Ending) (w' : World) : Prop := e = .returned (.bool true) ∧ Chg (fun _ => False) w w'

end Go.Proofs.Ytpiboaoifcajdaa
