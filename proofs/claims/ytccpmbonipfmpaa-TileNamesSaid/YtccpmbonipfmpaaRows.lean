/-
  No cell of these rows narrows 'for every input' (looked for: loops, veiled, ifaces, maps, wideKeys, modest, calm, conditions, laid).
  DERIVED. THE GIVEN ROWS OF THIS SEAT. 6 by the template 'for every input the law returns true; each argument reads behind the call as it read before'; 0 by the template 'total and deterministic' (their statements: YtccpmbonipfmpaaTotals.lean).
  GIVEN WITH THE SEED: the statements are not yours to turn. If you find one false, say at which input.
  Laid BY PROGRAM, IN A SANDBOX (cutbox-rows.mjs): the forced cells as the released guide's own fill.sh prints them over the translation c4fa0ea3563b2625… (all of the seat's roots in one cut). By AI agents, Wed Nov 11 2026. No macro, syntax, notation, axiom, sorry.
-/
import Derived.Test.YtccpmbonipfmpaaChecked
import GoSem.Claim
import GoSem.ClaimJoined
import GoSem.ClaimMapViews
import Derived.JoinedTies
import Derived.KernelRfl
namespace Go.Proofs.Ytccpmbonipfmpaa
/- THE CELL 'sum', in the pinned program and in every row, IS THE sha256 OF THE DUMP (.gsa) THAT YtccpmbonipfmpaaProg.lean LOADS. Nothing in Lean hashes anything: it is a label: what it is worth is what the hold of that sum in a sandbox is worth. -/
noncomputable def Try.pinned : Pinned := { name := "ytccpmbonipfmpaa", sum := "c4fa0ea3563b2625e6bbbb3e85e7255ccc80cbb6191ce886f9cd6c3f950e7ad6", checked := Try.checked }
namespace Rows
def none {H : Type} : Left H := { results := [], args := [] }

/-- 'quadratlaw05.TileWrites': WHATEVER THE INPUT: true; the input reads as it did. -/
def tileWritesSpec : ChangeSpec := { name := "tileWrites", fn := fun _ => fun
  | [d1, d2] => { results := [.lit (.bool true)], args := [d1, d2] }
  | _ => none }
def tileWritesRow : OpenClaim := { program := "ytccpmbonipfmpaa", sum := "c4fa0ea3563b2625e6bbbb3e85e7255ccc80cbb6191ce886f9cd6c3f950e7ad6", func := "quadrat/quadratlaw05.TileWrites", spec := "tileWrites", unfollowed := true, recurses := true, apart := false }
def TileWritesSaid : Prop := tileWritesRow.holds Try.pinned (OpenSpec.ofChange tileWritesSpec)

/-- ITS FALSE NEIGHBOUR: 'it returns false'. Refute it at one input. -/
def tileWritesWrong : ChangeSpec := { name := "tileWrites", fn := fun _ => fun
  | [d1, d2] => { results := [.lit (.bool false)], args := [d1, d2] }
  | _ => none }
def TileWritesWrongFalsely : Prop := tileWritesRow.holds Try.pinned (OpenSpec.ofChange tileWritesWrong)

/-- 'quadratlaw05.TileApart': WHATEVER THE INPUT: true; the input reads as it did. -/
def tileApartSpec : ChangeSpec := { name := "tileApart", fn := fun _ => fun
  | [d1, d2, d3] => { results := [.lit (.bool true)], args := [d1, d2, d3] }
  | _ => none }
def tileApartRow : OpenClaim := { program := "ytccpmbonipfmpaa", sum := "c4fa0ea3563b2625e6bbbb3e85e7255ccc80cbb6191ce886f9cd6c3f950e7ad6", func := "quadrat/quadratlaw05.TileApart", spec := "tileApart", unfollowed := true, recurses := true, apart := false }
def TileApartSaid : Prop := tileApartRow.holds Try.pinned (OpenSpec.ofChange tileApartSpec)

/-- ITS FALSE NEIGHBOUR: 'it returns false'. Refute it at one input. -/
def tileApartWrong : ChangeSpec := { name := "tileApart", fn := fun _ => fun
  | [d1, d2, d3] => { results := [.lit (.bool false)], args := [d1, d2, d3] }
  | _ => none }
def TileApartWrongFalsely : Prop := tileApartRow.holds Try.pinned (OpenSpec.ofChange tileApartWrong)

/-- 'quadratlaw05.TileReads': WHATEVER THE INPUT: true; the input reads as it did. -/
def tileReadsSpec : ChangeSpec := { name := "tileReads", fn := fun _ => fun
  | [d] => { results := [.lit (.bool true)], args := [d] }
  | _ => none }
def tileReadsRow : OpenClaim := { program := "ytccpmbonipfmpaa", sum := "c4fa0ea3563b2625e6bbbb3e85e7255ccc80cbb6191ce886f9cd6c3f950e7ad6", func := "quadrat/quadratlaw05.TileReads", spec := "tileReads", unfollowed := true, recurses := true, apart := false }
def TileReadsSaid : Prop := tileReadsRow.holds Try.pinned (OpenSpec.ofChange tileReadsSpec)

/-- ITS FALSE NEIGHBOUR: 'it returns false'. Refute it at one input. -/
def tileReadsWrong : ChangeSpec := { name := "tileReads", fn := fun _ => fun
  | [d] => { results := [.lit (.bool false)], args := [d] }
  | _ => none }
def TileReadsWrongFalsely : Prop := tileReadsRow.holds Try.pinned (OpenSpec.ofChange tileReadsWrong)

/-- 'quadratlaw05.TileNames': WHATEVER THE INPUT: true; the input reads as it did. -/
def tileNamesSpec : ChangeSpec := { name := "tileNames", fn := fun _ => fun
  | [] => { results := [.lit (.bool true)], args := [] }
  | _ => none }
def tileNamesRow : OpenClaim := { program := "ytccpmbonipfmpaa", sum := "c4fa0ea3563b2625e6bbbb3e85e7255ccc80cbb6191ce886f9cd6c3f950e7ad6", func := "quadrat/quadratlaw05.TileNames", spec := "tileNames", unfollowed := true, recurses := true, apart := false }
def TileNamesSaid : Prop := tileNamesRow.holds Try.pinned (OpenSpec.ofChange tileNamesSpec)

/-- ITS FALSE NEIGHBOUR: 'it returns false'. Refute it at one input. -/
def tileNamesWrong : ChangeSpec := { name := "tileNames", fn := fun _ => fun
  | [] => { results := [.lit (.bool false)], args := [] }
  | _ => none }
def TileNamesWrongFalsely : Prop := tileNamesRow.holds Try.pinned (OpenSpec.ofChange tileNamesWrong)

/-- 'quadratlaw05.TileBack': WHATEVER THE INPUT: true; the input reads as it did. -/
def tileBackSpec : ChangeSpec := { name := "tileBack", fn := fun _ => fun
  | [d1, d2, d3] => { results := [.lit (.bool true)], args := [d1, d2, d3] }
  | _ => none }
def tileBackRow : OpenClaim := { program := "ytccpmbonipfmpaa", sum := "c4fa0ea3563b2625e6bbbb3e85e7255ccc80cbb6191ce886f9cd6c3f950e7ad6", func := "quadrat/quadratlaw05.TileBack", spec := "tileBack", unfollowed := true, recurses := true, apart := false }
def TileBackSaid : Prop := tileBackRow.holds Try.pinned (OpenSpec.ofChange tileBackSpec)

/-- ITS FALSE NEIGHBOUR: 'it returns false'. Refute it at one input. -/
def tileBackWrong : ChangeSpec := { name := "tileBack", fn := fun _ => fun
  | [d1, d2, d3] => { results := [.lit (.bool false)], args := [d1, d2, d3] }
  | _ => none }
def TileBackWrongFalsely : Prop := tileBackRow.holds Try.pinned (OpenSpec.ofChange tileBackWrong)

/-- 'quadratlaw05.TileTurned': WHATEVER THE INPUT: true; the input reads as it did. -/
def tileTurnedSpec : ChangeSpec := { name := "tileTurned", fn := fun _ => fun
  | [d1, d2, d3, d4] => { results := [.lit (.bool true)], args := [d1, d2, d3, d4] }
  | _ => none }
def tileTurnedRow : OpenClaim := { program := "ytccpmbonipfmpaa", sum := "c4fa0ea3563b2625e6bbbb3e85e7255ccc80cbb6191ce886f9cd6c3f950e7ad6", func := "quadrat/quadratlaw05.TileTurned", spec := "tileTurned", unfollowed := true, recurses := true, apart := false }
def TileTurnedSaid : Prop := tileTurnedRow.holds Try.pinned (OpenSpec.ofChange tileTurnedSpec)

/-- ITS FALSE NEIGHBOUR: 'it returns false'. Refute it at one input. -/
def tileTurnedWrong : ChangeSpec := { name := "tileTurned", fn := fun _ => fun
  | [d1, d2, d3, d4] => { results := [.lit (.bool false)], args := [d1, d2, d3, d4] }
  | _ => none }
def TileTurnedWrongFalsely : Prop := tileTurnedRow.holds Try.pinned (OpenSpec.ofChange tileTurnedWrong)

/- THE SECOND FORM. 'bulk': how many values and letters a reading holds, each counted each time it is reached (what is shared counts as often as it is met; a slice's spare places count too). A statement '..UptoSaid' is the law's where the arguments, and the package variables that the reading takes, are together of bulk at most 1048576: NARROWER than '..Said'. Prove '..Said' where nothing that the law and all that it calls make is longer than what came in: it says more and counts as full. Else prove '..UptoSaid'. A law counts once. -/
mutual
def uptoBulk {H : Type} : DataW H → Nat
  | .lit (.string bytes) => bytes.length + 1
  | .lit _ => 1
  | .nil => 1
  | .ptr d => uptoBulk d + 1
  | .slice elems spare => uptoBulkAll elems + uptoBulkAll spare + 1
  | .agg parts => uptoBulkAll parts + 1
  | .iface _ d => uptoBulk d + 1
  | .map entries => uptoBulkEntries entries + 1
  | .held _ => 1
def uptoBulkAll {H : Type} : List (DataW H) → Nat
  | [] => 0
  | d :: r => uptoBulk d + uptoBulkAll r
def uptoBulkEntries {H : Type} : List (Lit × DataW H) → Nat
  | [] => 0
  | x :: r => uptoBulkEntry x + uptoBulkEntries r
def uptoBulkEntry {H : Type} : Lit × DataW H → Nat
  | (.string bytes, d) => bytes.length + uptoBulk d + 1
  | (_, d) => uptoBulk d + 1
 end
def uptoSmall : (H : Type) → List (DataW H) → Bool := fun _ ds => decide (uptoBulkAll ds ≤ 1048576)
def OpenSpec.upto (s : _root_.Go.ChangeSpec) : _root_.Go.OpenSpec := { _root_.Go.OpenSpec.ofChange s with cond := some uptoSmall }

/-- 'quadratlaw05.TileWrites', WHERE WHAT IT READS IS OF BULK AT MOST 1048576: true; the input reads as it did. -/
def tileWritesUptoRow : OpenClaim := { program := "ytccpmbonipfmpaa", sum := "c4fa0ea3563b2625e6bbbb3e85e7255ccc80cbb6191ce886f9cd6c3f950e7ad6", func := "quadrat/quadratlaw05.TileWrites", spec := "tileWrites", unfollowed := true, recurses := true, apart := false, narrowed := true }
def TileWritesUptoSaid : Prop := tileWritesUptoRow.holds Try.pinned (OpenSpec.upto tileWritesSpec)

/-- 'quadratlaw05.TileApart', WHERE WHAT IT READS IS OF BULK AT MOST 1048576: true; the input reads as it did. -/
def tileApartUptoRow : OpenClaim := { program := "ytccpmbonipfmpaa", sum := "c4fa0ea3563b2625e6bbbb3e85e7255ccc80cbb6191ce886f9cd6c3f950e7ad6", func := "quadrat/quadratlaw05.TileApart", spec := "tileApart", unfollowed := true, recurses := true, apart := false, narrowed := true }
def TileApartUptoSaid : Prop := tileApartUptoRow.holds Try.pinned (OpenSpec.upto tileApartSpec)

/-- 'quadratlaw05.TileReads', WHERE WHAT IT READS IS OF BULK AT MOST 1048576: true; the input reads as it did. -/
def tileReadsUptoRow : OpenClaim := { program := "ytccpmbonipfmpaa", sum := "c4fa0ea3563b2625e6bbbb3e85e7255ccc80cbb6191ce886f9cd6c3f950e7ad6", func := "quadrat/quadratlaw05.TileReads", spec := "tileReads", unfollowed := true, recurses := true, apart := false, narrowed := true }
def TileReadsUptoSaid : Prop := tileReadsUptoRow.holds Try.pinned (OpenSpec.upto tileReadsSpec)

/-- 'quadratlaw05.TileNames', WHERE WHAT IT READS IS OF BULK AT MOST 1048576: true; the input reads as it did. -/
def tileNamesUptoRow : OpenClaim := { program := "ytccpmbonipfmpaa", sum := "c4fa0ea3563b2625e6bbbb3e85e7255ccc80cbb6191ce886f9cd6c3f950e7ad6", func := "quadrat/quadratlaw05.TileNames", spec := "tileNames", unfollowed := true, recurses := true, apart := false, narrowed := true }
def TileNamesUptoSaid : Prop := tileNamesUptoRow.holds Try.pinned (OpenSpec.upto tileNamesSpec)

/-- 'quadratlaw05.TileBack', WHERE WHAT IT READS IS OF BULK AT MOST 1048576: true; the input reads as it did. -/
def tileBackUptoRow : OpenClaim := { program := "ytccpmbonipfmpaa", sum := "c4fa0ea3563b2625e6bbbb3e85e7255ccc80cbb6191ce886f9cd6c3f950e7ad6", func := "quadrat/quadratlaw05.TileBack", spec := "tileBack", unfollowed := true, recurses := true, apart := false, narrowed := true }
def TileBackUptoSaid : Prop := tileBackUptoRow.holds Try.pinned (OpenSpec.upto tileBackSpec)

/-- 'quadratlaw05.TileTurned', WHERE WHAT IT READS IS OF BULK AT MOST 1048576: true; the input reads as it did. -/
def tileTurnedUptoRow : OpenClaim := { program := "ytccpmbonipfmpaa", sum := "c4fa0ea3563b2625e6bbbb3e85e7255ccc80cbb6191ce886f9cd6c3f950e7ad6", func := "quadrat/quadratlaw05.TileTurned", spec := "tileTurned", unfollowed := true, recurses := true, apart := false, narrowed := true }
def TileTurnedUptoSaid : Prop := tileTurnedUptoRow.holds Try.pinned (OpenSpec.upto tileTurnedSpec)

end Rows
end Go.Proofs.Ytccpmbonipfmpaa
