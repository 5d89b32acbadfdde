/-
  No cell of these rows narrows 'for every input' (looked for: loops, veiled, ifaces, maps, wideKeys, modest, calm, conditions, laid).
  DERIVED. THE GIVEN ROWS OF THIS SEAT. 8 by the template 'for every input the law returns true; each argument reads behind the call as it read before'; 0 by the template 'total and deterministic' (their statements: YtjmlekdgipinfaaTotals.lean).
  GIVEN WITH THE SEED: the statements are not yours to turn. If you find one false, say at which input.
  Laid BY PROGRAM, IN A SANDBOX (cutbox-rows.mjs): the forced cells as the released guide's own fill.sh prints them over the translation a071598ac93ba3ed… (all of the seat's roots in one cut). By AI agents, Wed Nov 11 2026. No macro, syntax, notation, axiom, sorry.
-/
import Derived.Test.YtjmlekdgipinfaaChecked
import GoSem.Claim
import GoSem.ClaimJoined
import GoSem.ClaimMapViews
import Derived.JoinedTies
import Derived.KernelRfl
namespace Go.Proofs.Ytjmlekdgipinfaa
/- THE CELL 'sum', in the pinned program and in every row, IS THE sha256 OF THE DUMP (.gsa) THAT YtjmlekdgipinfaaProg.lean LOADS. Nothing in Lean hashes anything: it is a label: what it is worth is what the hold of that sum in a sandbox is worth. -/
noncomputable def Try.pinned : Pinned := { name := "ytjmlekdgipinfaa", sum := "a071598ac93ba3edf0cc91689d2b6cc4ea6fe6ae46fd8af16d70111ab91a351f", checked := Try.checked }
namespace Rows
def none {H : Type} : Left H := { results := [], args := [] }

/-- 'quadratlaw16.FoldEach': WHATEVER THE INPUT: true; the input reads as it did. -/
def foldEachSpec : ChangeSpec := { name := "foldEach", fn := fun _ => fun
  | [d1, d2, d3, d4] => { results := [.lit (.bool true)], args := [d1, d2, d3, d4] }
  | _ => none }
def foldEachRow : OpenClaim := { program := "ytjmlekdgipinfaa", sum := "a071598ac93ba3edf0cc91689d2b6cc4ea6fe6ae46fd8af16d70111ab91a351f", func := "quadrat/quadratlaw16.FoldEach", spec := "foldEach", unfollowed := true, recurses := true, apart := false }
def FoldEachSaid : Prop := foldEachRow.holds Try.pinned (OpenSpec.ofChange foldEachSpec)

/-- ITS FALSE NEIGHBOUR: 'it returns false'. Refute it at one input. -/
def foldEachWrong : ChangeSpec := { name := "foldEach", fn := fun _ => fun
  | [d1, d2, d3, d4] => { results := [.lit (.bool false)], args := [d1, d2, d3, d4] }
  | _ => none }
def FoldEachWrongFalsely : Prop := foldEachRow.holds Try.pinned (OpenSpec.ofChange foldEachWrong)

/-- 'quadratlaw16.FoldParts': WHATEVER THE INPUT: true; the input reads as it did. -/
def foldPartsSpec : ChangeSpec := { name := "foldParts", fn := fun _ => fun
  | [d1, d2, d3] => { results := [.lit (.bool true)], args := [d1, d2, d3] }
  | _ => none }
def foldPartsRow : OpenClaim := { program := "ytjmlekdgipinfaa", sum := "a071598ac93ba3edf0cc91689d2b6cc4ea6fe6ae46fd8af16d70111ab91a351f", func := "quadrat/quadratlaw16.FoldParts", spec := "foldParts", unfollowed := true, recurses := true, apart := false }
def FoldPartsSaid : Prop := foldPartsRow.holds Try.pinned (OpenSpec.ofChange foldPartsSpec)

/-- ITS FALSE NEIGHBOUR: 'it returns false'. Refute it at one input. -/
def foldPartsWrong : ChangeSpec := { name := "foldParts", fn := fun _ => fun
  | [d1, d2, d3] => { results := [.lit (.bool false)], args := [d1, d2, d3] }
  | _ => none }
def FoldPartsWrongFalsely : Prop := foldPartsRow.holds Try.pinned (OpenSpec.ofChange foldPartsWrong)

/-- 'quadratlaw16.FoldMost': WHATEVER THE INPUT: true; the input reads as it did. -/
def foldMostSpec : ChangeSpec := { name := "foldMost", fn := fun _ => fun
  | [d] => { results := [.lit (.bool true)], args := [d] }
  | _ => none }
def foldMostRow : OpenClaim := { program := "ytjmlekdgipinfaa", sum := "a071598ac93ba3edf0cc91689d2b6cc4ea6fe6ae46fd8af16d70111ab91a351f", func := "quadrat/quadratlaw16.FoldMost", spec := "foldMost", unfollowed := true, recurses := true, apart := false }
def FoldMostSaid : Prop := foldMostRow.holds Try.pinned (OpenSpec.ofChange foldMostSpec)

/-- ITS FALSE NEIGHBOUR: 'it returns false'. Refute it at one input. -/
def foldMostWrong : ChangeSpec := { name := "foldMost", fn := fun _ => fun
  | [d] => { results := [.lit (.bool false)], args := [d] }
  | _ => none }
def FoldMostWrongFalsely : Prop := foldMostRow.holds Try.pinned (OpenSpec.ofChange foldMostWrong)

/-- 'quadratlaw16.FoldRows': WHATEVER THE INPUT: true; the input reads as it did. -/
def foldRowsSpec : ChangeSpec := { name := "foldRows", fn := fun _ => fun
  | [d1, d2] => { results := [.lit (.bool true)], args := [d1, d2] }
  | _ => none }
def foldRowsRow : OpenClaim := { program := "ytjmlekdgipinfaa", sum := "a071598ac93ba3edf0cc91689d2b6cc4ea6fe6ae46fd8af16d70111ab91a351f", func := "quadrat/quadratlaw16.FoldRows", spec := "foldRows", unfollowed := true, recurses := true, apart := false }
def FoldRowsSaid : Prop := foldRowsRow.holds Try.pinned (OpenSpec.ofChange foldRowsSpec)

/-- ITS FALSE NEIGHBOUR: 'it returns false'. Refute it at one input. -/
def foldRowsWrong : ChangeSpec := { name := "foldRows", fn := fun _ => fun
  | [d1, d2] => { results := [.lit (.bool false)], args := [d1, d2] }
  | _ => none }
def FoldRowsWrongFalsely : Prop := foldRowsRow.holds Try.pinned (OpenSpec.ofChange foldRowsWrong)

/-- 'quadratlaw16.FoldProducts': WHATEVER THE INPUT: true; the input reads as it did. -/
def foldProductsSpec : ChangeSpec := { name := "foldProducts", fn := fun _ => fun
  | [d1, d2, d3, d4] => { results := [.lit (.bool true)], args := [d1, d2, d3, d4] }
  | _ => none }
def foldProductsRow : OpenClaim := { program := "ytjmlekdgipinfaa", sum := "a071598ac93ba3edf0cc91689d2b6cc4ea6fe6ae46fd8af16d70111ab91a351f", func := "quadrat/quadratlaw16.FoldProducts", spec := "foldProducts", unfollowed := true, recurses := true, apart := false }
def FoldProductsSaid : Prop := foldProductsRow.holds Try.pinned (OpenSpec.ofChange foldProductsSpec)

/-- ITS FALSE NEIGHBOUR: 'it returns false'. Refute it at one input. -/
def foldProductsWrong : ChangeSpec := { name := "foldProducts", fn := fun _ => fun
  | [d1, d2, d3, d4] => { results := [.lit (.bool false)], args := [d1, d2, d3, d4] }
  | _ => none }
def FoldProductsWrongFalsely : Prop := foldProductsRow.holds Try.pinned (OpenSpec.ofChange foldProductsWrong)

/-- 'quadratlaw16.FoldTimes': WHATEVER THE INPUT: true; the input reads as it did. -/
def foldTimesSpec : ChangeSpec := { name := "foldTimes", fn := fun _ => fun
  | [d1, d2, d3, d4] => { results := [.lit (.bool true)], args := [d1, d2, d3, d4] }
  | _ => none }
def foldTimesRow : OpenClaim := { program := "ytjmlekdgipinfaa", sum := "a071598ac93ba3edf0cc91689d2b6cc4ea6fe6ae46fd8af16d70111ab91a351f", func := "quadrat/quadratlaw16.FoldTimes", spec := "foldTimes", unfollowed := true, recurses := true, apart := false }
def FoldTimesSaid : Prop := foldTimesRow.holds Try.pinned (OpenSpec.ofChange foldTimesSpec)

/-- ITS FALSE NEIGHBOUR: 'it returns false'. Refute it at one input. -/
def foldTimesWrong : ChangeSpec := { name := "foldTimes", fn := fun _ => fun
  | [d1, d2, d3, d4] => { results := [.lit (.bool false)], args := [d1, d2, d3, d4] }
  | _ => none }
def FoldTimesWrongFalsely : Prop := foldTimesRow.holds Try.pinned (OpenSpec.ofChange foldTimesWrong)

/-- 'quadratlaw16.FoldNames': WHATEVER THE INPUT: true; the input reads as it did. -/
def foldNamesSpec : ChangeSpec := { name := "foldNames", fn := fun _ => fun
  | [] => { results := [.lit (.bool true)], args := [] }
  | _ => none }
def foldNamesRow : OpenClaim := { program := "ytjmlekdgipinfaa", sum := "a071598ac93ba3edf0cc91689d2b6cc4ea6fe6ae46fd8af16d70111ab91a351f", func := "quadrat/quadratlaw16.FoldNames", spec := "foldNames", unfollowed := true, recurses := true, apart := false }
def FoldNamesSaid : Prop := foldNamesRow.holds Try.pinned (OpenSpec.ofChange foldNamesSpec)

/-- ITS FALSE NEIGHBOUR: 'it returns false'. Refute it at one input. -/
def foldNamesWrong : ChangeSpec := { name := "foldNames", fn := fun _ => fun
  | [] => { results := [.lit (.bool false)], args := [] }
  | _ => none }
def FoldNamesWrongFalsely : Prop := foldNamesRow.holds Try.pinned (OpenSpec.ofChange foldNamesWrong)

/-- 'quadratlaw16.FoldTurned': WHATEVER THE INPUT: true; the input reads as it did. -/
def foldTurnedSpec : ChangeSpec := { name := "foldTurned", fn := fun _ => fun
  | [d1, d2, d3] => { results := [.lit (.bool true)], args := [d1, d2, d3] }
  | _ => none }
def foldTurnedRow : OpenClaim := { program := "ytjmlekdgipinfaa", sum := "a071598ac93ba3edf0cc91689d2b6cc4ea6fe6ae46fd8af16d70111ab91a351f", func := "quadrat/quadratlaw16.FoldTurned", spec := "foldTurned", unfollowed := true, recurses := true, apart := false }
def FoldTurnedSaid : Prop := foldTurnedRow.holds Try.pinned (OpenSpec.ofChange foldTurnedSpec)

/-- ITS FALSE NEIGHBOUR: 'it returns false'. Refute it at one input. -/
def foldTurnedWrong : ChangeSpec := { name := "foldTurned", fn := fun _ => fun
  | [d1, d2, d3] => { results := [.lit (.bool false)], args := [d1, d2, d3] }
  | _ => none }
def FoldTurnedWrongFalsely : Prop := foldTurnedRow.holds Try.pinned (OpenSpec.ofChange foldTurnedWrong)

/- THE SECOND FORM. 'bulk': how many values and letters a reading holds, each counted each time it is reached (what is shared counts as often as it is met; a slice's spare places count too). A statement '..UptoSaid' is the law's where the arguments, and the package variables that the reading takes, are together of bulk at most 1048576: NARROWER than '..Said'. Prove '..Said' where nothing that the law and all that it calls make is longer than what came in: it says more and counts as full. Else prove '..UptoSaid'. A law counts once. -/
mutual
def uptoBulk {H : Type} : DataW H → Nat
  | .lit (.string bytes) => bytes.length + 1
  | .lit _ => 1
  | .nil => 1
  | .ptr d => uptoBulk d + 1
  | .slice elems spare => uptoBulkAll elems + uptoBulkAll spare + 1
  | .agg parts => uptoBulkAll parts + 1
  | .iface _ d => uptoBulk d + 1
  | .map entries => uptoBulkEntries entries + 1
  | .held _ => 1
def uptoBulkAll {H : Type} : List (DataW H) → Nat
  | [] => 0
  | d :: r => uptoBulk d + uptoBulkAll r
def uptoBulkEntries {H : Type} : List (Lit × DataW H) → Nat
  | [] => 0
  | x :: r => uptoBulkEntry x + uptoBulkEntries r
def uptoBulkEntry {H : Type} : Lit × DataW H → Nat
  | (.string bytes, d) => bytes.length + uptoBulk d + 1
  | (_, d) => uptoBulk d + 1
 end
def uptoSmall : (H : Type) → List (DataW H) → Bool := fun _ ds => decide (uptoBulkAll ds ≤ 1048576)
def OpenSpec.upto (s : _root_.Go.ChangeSpec) : _root_.Go.OpenSpec := { _root_.Go.OpenSpec.ofChange s with cond := some uptoSmall }

/-- 'quadratlaw16.FoldEach', WHERE WHAT IT READS IS OF BULK AT MOST 1048576: true; the input reads as it did. -/
def foldEachUptoRow : OpenClaim := { program := "ytjmlekdgipinfaa", sum := "a071598ac93ba3edf0cc91689d2b6cc4ea6fe6ae46fd8af16d70111ab91a351f", func := "quadrat/quadratlaw16.FoldEach", spec := "foldEach", unfollowed := true, recurses := true, apart := false, narrowed := true }
def FoldEachUptoSaid : Prop := foldEachUptoRow.holds Try.pinned (OpenSpec.upto foldEachSpec)

/-- 'quadratlaw16.FoldParts', WHERE WHAT IT READS IS OF BULK AT MOST 1048576: true; the input reads as it did. -/
def foldPartsUptoRow : OpenClaim := { program := "ytjmlekdgipinfaa", sum := "a071598ac93ba3edf0cc91689d2b6cc4ea6fe6ae46fd8af16d70111ab91a351f", func := "quadrat/quadratlaw16.FoldParts", spec := "foldParts", unfollowed := true, recurses := true, apart := false, narrowed := true }
def FoldPartsUptoSaid : Prop := foldPartsUptoRow.holds Try.pinned (OpenSpec.upto foldPartsSpec)

/-- 'quadratlaw16.FoldMost', WHERE WHAT IT READS IS OF BULK AT MOST 1048576: true; the input reads as it did. -/
def foldMostUptoRow : OpenClaim := { program := "ytjmlekdgipinfaa", sum := "a071598ac93ba3edf0cc91689d2b6cc4ea6fe6ae46fd8af16d70111ab91a351f", func := "quadrat/quadratlaw16.FoldMost", spec := "foldMost", unfollowed := true, recurses := true, apart := false, narrowed := true }
def FoldMostUptoSaid : Prop := foldMostUptoRow.holds Try.pinned (OpenSpec.upto foldMostSpec)

/-- 'quadratlaw16.FoldRows', WHERE WHAT IT READS IS OF BULK AT MOST 1048576: true; the input reads as it did. -/
def foldRowsUptoRow : OpenClaim := { program := "ytjmlekdgipinfaa", sum := "a071598ac93ba3edf0cc91689d2b6cc4ea6fe6ae46fd8af16d70111ab91a351f", func := "quadrat/quadratlaw16.FoldRows", spec := "foldRows", unfollowed := true, recurses := true, apart := false, narrowed := true }
def FoldRowsUptoSaid : Prop := foldRowsUptoRow.holds Try.pinned (OpenSpec.upto foldRowsSpec)

/-- 'quadratlaw16.FoldProducts', WHERE WHAT IT READS IS OF BULK AT MOST 1048576: true; the input reads as it did. -/
def foldProductsUptoRow : OpenClaim := { program := "ytjmlekdgipinfaa", sum := "a071598ac93ba3edf0cc91689d2b6cc4ea6fe6ae46fd8af16d70111ab91a351f", func := "quadrat/quadratlaw16.FoldProducts", spec := "foldProducts", unfollowed := true, recurses := true, apart := false, narrowed := true }
def FoldProductsUptoSaid : Prop := foldProductsUptoRow.holds Try.pinned (OpenSpec.upto foldProductsSpec)

/-- 'quadratlaw16.FoldTimes', WHERE WHAT IT READS IS OF BULK AT MOST 1048576: true; the input reads as it did. -/
def foldTimesUptoRow : OpenClaim := { program := "ytjmlekdgipinfaa", sum := "a071598ac93ba3edf0cc91689d2b6cc4ea6fe6ae46fd8af16d70111ab91a351f", func := "quadrat/quadratlaw16.FoldTimes", spec := "foldTimes", unfollowed := true, recurses := true, apart := false, narrowed := true }
def FoldTimesUptoSaid : Prop := foldTimesUptoRow.holds Try.pinned (OpenSpec.upto foldTimesSpec)

/-- 'quadratlaw16.FoldNames', WHERE WHAT IT READS IS OF BULK AT MOST 1048576: true; the input reads as it did. -/
def foldNamesUptoRow : OpenClaim := { program := "ytjmlekdgipinfaa", sum := "a071598ac93ba3edf0cc91689d2b6cc4ea6fe6ae46fd8af16d70111ab91a351f", func := "quadrat/quadratlaw16.FoldNames", spec := "foldNames", unfollowed := true, recurses := true, apart := false, narrowed := true }
def FoldNamesUptoSaid : Prop := foldNamesUptoRow.holds Try.pinned (OpenSpec.upto foldNamesSpec)

/-- 'quadratlaw16.FoldTurned', WHERE WHAT IT READS IS OF BULK AT MOST 1048576: true; the input reads as it did. -/
def foldTurnedUptoRow : OpenClaim := { program := "ytjmlekdgipinfaa", sum := "a071598ac93ba3edf0cc91689d2b6cc4ea6fe6ae46fd8af16d70111ab91a351f", func := "quadrat/quadratlaw16.FoldTurned", spec := "foldTurned", unfollowed := true, recurses := true, apart := false, narrowed := true }
def FoldTurnedUptoSaid : Prop := foldTurnedUptoRow.holds Try.pinned (OpenSpec.upto foldTurnedSpec)

end Rows
end Go.Proofs.Ytjmlekdgipinfaa
