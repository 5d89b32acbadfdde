/-
  No cell of these rows narrows 'for every input' (looked for: loops, veiled, ifaces, maps, wideKeys, modest, calm, conditions, laid).
  DERIVED. THE GIVEN ROWS OF THIS SEAT. 10 by the template 'for every input the law returns true; each argument reads behind the call as it read before'; 0 by the template 'total and deterministic' (their statements: YtnjnajbdpaaikaaTotals.lean).
  GIVEN WITH THE SEED: the statements are not yours to turn. If you find one false, say at which input.
  Laid BY PROGRAM, IN A SANDBOX (cutbox-rows.mjs): the forced cells as the released guide's own fill.sh prints them over the translation 1fc739a40e99e7ab… (all of the seat's roots in one cut). By AI agents, Wed Nov 11 2026. No macro, syntax, notation, axiom, sorry.
-/
import Derived.Test.YtnjnajbdpaaikaaChecked
import GoSem.Claim
import GoSem.ClaimJoined
import GoSem.ClaimMapViews
import Derived.JoinedTies
import Derived.KernelRfl
namespace Go.Proofs.Ytnjnajbdpaaikaa
/- THE CELL 'sum', in the pinned program and in every row, IS THE sha256 OF THE DUMP (.gsa) THAT YtnjnajbdpaaikaaProg.lean LOADS. Nothing in Lean hashes anything: it is a label: what it is worth is what the hold of that sum in a sandbox is worth. -/
noncomputable def Try.pinned : Pinned := { name := "ytnjnajbdpaaikaa", sum := "1fc739a40e99e7ab1c0c788aa282d28da74adc25eb7eed2a50452082eb786e8d", checked := Try.checked }
namespace Rows
def none {H : Type} : Left H := { results := [], args := [] }

/-- 'quadratlaw15.PickIndexes': WHATEVER THE INPUT: true; the input reads as it did. -/
def pickIndexesSpec : ChangeSpec := { name := "pickIndexes", fn := fun _ => fun
  | [d1, d2] => { results := [.lit (.bool true)], args := [d1, d2] }
  | _ => none }
def pickIndexesRow : OpenClaim := { program := "ytnjnajbdpaaikaa", sum := "1fc739a40e99e7ab1c0c788aa282d28da74adc25eb7eed2a50452082eb786e8d", func := "quadrat/quadratlaw15.PickIndexes", spec := "pickIndexes", unfollowed := true, recurses := true, apart := false }
def PickIndexesSaid : Prop := pickIndexesRow.holds Try.pinned (OpenSpec.ofChange pickIndexesSpec)

/-- ITS FALSE NEIGHBOUR: 'it returns false'. Refute it at one input. -/
def pickIndexesWrong : ChangeSpec := { name := "pickIndexes", fn := fun _ => fun
  | [d1, d2] => { results := [.lit (.bool false)], args := [d1, d2] }
  | _ => none }
def PickIndexesWrongFalsely : Prop := pickIndexesRow.holds Try.pinned (OpenSpec.ofChange pickIndexesWrong)

/-- 'quadratlaw15.PickNames': WHATEVER THE INPUT: true; the input reads as it did. -/
def pickNamesSpec : ChangeSpec := { name := "pickNames", fn := fun _ => fun
  | [] => { results := [.lit (.bool true)], args := [] }
  | _ => none }
def pickNamesRow : OpenClaim := { program := "ytnjnajbdpaaikaa", sum := "1fc739a40e99e7ab1c0c788aa282d28da74adc25eb7eed2a50452082eb786e8d", func := "quadrat/quadratlaw15.PickNames", spec := "pickNames", unfollowed := true, recurses := true, apart := false }
def PickNamesSaid : Prop := pickNamesRow.holds Try.pinned (OpenSpec.ofChange pickNamesSpec)

/-- ITS FALSE NEIGHBOUR: 'it returns false'. Refute it at one input. -/
def pickNamesWrong : ChangeSpec := { name := "pickNames", fn := fun _ => fun
  | [] => { results := [.lit (.bool false)], args := [] }
  | _ => none }
def PickNamesWrongFalsely : Prop := pickNamesRow.holds Try.pinned (OpenSpec.ofChange pickNamesWrong)

/-- 'quadratlaw15.PickWays': WHATEVER THE INPUT: true; the input reads as it did. -/
def pickWaysSpec : ChangeSpec := { name := "pickWays", fn := fun _ => fun
  | [d1, d2, d3] => { results := [.lit (.bool true)], args := [d1, d2, d3] }
  | _ => none }
def pickWaysRow : OpenClaim := { program := "ytnjnajbdpaaikaa", sum := "1fc739a40e99e7ab1c0c788aa282d28da74adc25eb7eed2a50452082eb786e8d", func := "quadrat/quadratlaw15.PickWays", spec := "pickWays", unfollowed := true, recurses := true, apart := false }
def PickWaysSaid : Prop := pickWaysRow.holds Try.pinned (OpenSpec.ofChange pickWaysSpec)

/-- ITS FALSE NEIGHBOUR: 'it returns false'. Refute it at one input. -/
def pickWaysWrong : ChangeSpec := { name := "pickWays", fn := fun _ => fun
  | [d1, d2, d3] => { results := [.lit (.bool false)], args := [d1, d2, d3] }
  | _ => none }
def PickWaysWrongFalsely : Prop := pickWaysRow.holds Try.pinned (OpenSpec.ofChange pickWaysWrong)

/-- 'quadratlaw15.PickMakes': WHATEVER THE INPUT: true; the input reads as it did. -/
def pickMakesSpec : ChangeSpec := { name := "pickMakes", fn := fun _ => fun
  | [d1, d2] => { results := [.lit (.bool true)], args := [d1, d2] }
  | _ => none }
def pickMakesRow : OpenClaim := { program := "ytnjnajbdpaaikaa", sum := "1fc739a40e99e7ab1c0c788aa282d28da74adc25eb7eed2a50452082eb786e8d", func := "quadrat/quadratlaw15.PickMakes", spec := "pickMakes", unfollowed := true, recurses := true, apart := false }
def PickMakesSaid : Prop := pickMakesRow.holds Try.pinned (OpenSpec.ofChange pickMakesSpec)

/-- ITS FALSE NEIGHBOUR: 'it returns false'. Refute it at one input. -/
def pickMakesWrong : ChangeSpec := { name := "pickMakes", fn := fun _ => fun
  | [d1, d2] => { results := [.lit (.bool false)], args := [d1, d2] }
  | _ => none }
def PickMakesWrongFalsely : Prop := pickMakesRow.holds Try.pinned (OpenSpec.ofChange pickMakesWrong)

/-- 'quadratlaw15.PickSorted': WHATEVER THE INPUT: true; the input reads as it did. -/
def pickSortedSpec : ChangeSpec := { name := "pickSorted", fn := fun _ => fun
  | [d1, d2] => { results := [.lit (.bool true)], args := [d1, d2] }
  | _ => none }
def pickSortedRow : OpenClaim := { program := "ytnjnajbdpaaikaa", sum := "1fc739a40e99e7ab1c0c788aa282d28da74adc25eb7eed2a50452082eb786e8d", func := "quadrat/quadratlaw15.PickSorted", spec := "pickSorted", unfollowed := true, recurses := true, apart := false }
def PickSortedSaid : Prop := pickSortedRow.holds Try.pinned (OpenSpec.ofChange pickSortedSpec)

/-- ITS FALSE NEIGHBOUR: 'it returns false'. Refute it at one input. -/
def pickSortedWrong : ChangeSpec := { name := "pickSorted", fn := fun _ => fun
  | [d1, d2] => { results := [.lit (.bool false)], args := [d1, d2] }
  | _ => none }
def PickSortedWrongFalsely : Prop := pickSortedRow.holds Try.pinned (OpenSpec.ofChange pickSortedWrong)

/-- 'quadratlaw15.PickTells': WHATEVER THE INPUT: true; the input reads as it did. -/
def pickTellsSpec : ChangeSpec := { name := "pickTells", fn := fun _ => fun
  | [d1, d2, d3] => { results := [.lit (.bool true)], args := [d1, d2, d3] }
  | _ => none }
def pickTellsRow : OpenClaim := { program := "ytnjnajbdpaaikaa", sum := "1fc739a40e99e7ab1c0c788aa282d28da74adc25eb7eed2a50452082eb786e8d", func := "quadrat/quadratlaw15.PickTells", spec := "pickTells", unfollowed := true, recurses := true, apart := false }
def PickTellsSaid : Prop := pickTellsRow.holds Try.pinned (OpenSpec.ofChange pickTellsSpec)

/-- ITS FALSE NEIGHBOUR: 'it returns false'. Refute it at one input. -/
def pickTellsWrong : ChangeSpec := { name := "pickTells", fn := fun _ => fun
  | [d1, d2, d3] => { results := [.lit (.bool false)], args := [d1, d2, d3] }
  | _ => none }
def PickTellsWrongFalsely : Prop := pickTellsRow.holds Try.pinned (OpenSpec.ofChange pickTellsWrong)

/-- 'quadratlaw15.PickMask': WHATEVER THE INPUT: true; the input reads as it did. -/
def pickMaskSpec : ChangeSpec := { name := "pickMask", fn := fun _ => fun
  | [d1, d2] => { results := [.lit (.bool true)], args := [d1, d2] }
  | _ => none }
def pickMaskRow : OpenClaim := { program := "ytnjnajbdpaaikaa", sum := "1fc739a40e99e7ab1c0c788aa282d28da74adc25eb7eed2a50452082eb786e8d", func := "quadrat/quadratlaw15.PickMask", spec := "pickMask", unfollowed := true, recurses := true, apart := false }
def PickMaskSaid : Prop := pickMaskRow.holds Try.pinned (OpenSpec.ofChange pickMaskSpec)

/-- ITS FALSE NEIGHBOUR: 'it returns false'. Refute it at one input. -/
def pickMaskWrong : ChangeSpec := { name := "pickMask", fn := fun _ => fun
  | [d1, d2] => { results := [.lit (.bool false)], args := [d1, d2] }
  | _ => none }
def PickMaskWrongFalsely : Prop := pickMaskRow.holds Try.pinned (OpenSpec.ofChange pickMaskWrong)

/-- 'quadratlaw15.PickWhole': WHATEVER THE INPUT: true; the input reads as it did. -/
def pickWholeSpec : ChangeSpec := { name := "pickWhole", fn := fun _ => fun
  | [d] => { results := [.lit (.bool true)], args := [d] }
  | _ => none }
def pickWholeRow : OpenClaim := { program := "ytnjnajbdpaaikaa", sum := "1fc739a40e99e7ab1c0c788aa282d28da74adc25eb7eed2a50452082eb786e8d", func := "quadrat/quadratlaw15.PickWhole", spec := "pickWhole", unfollowed := true, recurses := true, apart := false }
def PickWholeSaid : Prop := pickWholeRow.holds Try.pinned (OpenSpec.ofChange pickWholeSpec)

/-- ITS FALSE NEIGHBOUR: 'it returns false'. Refute it at one input. -/
def pickWholeWrong : ChangeSpec := { name := "pickWhole", fn := fun _ => fun
  | [d] => { results := [.lit (.bool false)], args := [d] }
  | _ => none }
def PickWholeWrongFalsely : Prop := pickWholeRow.holds Try.pinned (OpenSpec.ofChange pickWholeWrong)

/-- 'quadratlaw15.PickInverse': WHATEVER THE INPUT: true; the input reads as it did. -/
def pickInverseSpec : ChangeSpec := { name := "pickInverse", fn := fun _ => fun
  | [d1, d2] => { results := [.lit (.bool true)], args := [d1, d2] }
  | _ => none }
def pickInverseRow : OpenClaim := { program := "ytnjnajbdpaaikaa", sum := "1fc739a40e99e7ab1c0c788aa282d28da74adc25eb7eed2a50452082eb786e8d", func := "quadrat/quadratlaw15.PickInverse", spec := "pickInverse", unfollowed := true, recurses := true, apart := false }
def PickInverseSaid : Prop := pickInverseRow.holds Try.pinned (OpenSpec.ofChange pickInverseSpec)

/-- ITS FALSE NEIGHBOUR: 'it returns false'. Refute it at one input. -/
def pickInverseWrong : ChangeSpec := { name := "pickInverse", fn := fun _ => fun
  | [d1, d2] => { results := [.lit (.bool false)], args := [d1, d2] }
  | _ => none }
def PickInverseWrongFalsely : Prop := pickInverseRow.holds Try.pinned (OpenSpec.ofChange pickInverseWrong)

/-- 'quadratlaw15.PickFound': WHATEVER THE INPUT: true; the input reads as it did. -/
def pickFoundSpec : ChangeSpec := { name := "pickFound", fn := fun _ => fun
  | [d1, d2] => { results := [.lit (.bool true)], args := [d1, d2] }
  | _ => none }
def pickFoundRow : OpenClaim := { program := "ytnjnajbdpaaikaa", sum := "1fc739a40e99e7ab1c0c788aa282d28da74adc25eb7eed2a50452082eb786e8d", func := "quadrat/quadratlaw15.PickFound", spec := "pickFound", unfollowed := true, recurses := true, apart := false }
def PickFoundSaid : Prop := pickFoundRow.holds Try.pinned (OpenSpec.ofChange pickFoundSpec)

/-- ITS FALSE NEIGHBOUR: 'it returns false'. Refute it at one input. -/
def pickFoundWrong : ChangeSpec := { name := "pickFound", fn := fun _ => fun
  | [d1, d2] => { results := [.lit (.bool false)], args := [d1, d2] }
  | _ => none }
def PickFoundWrongFalsely : Prop := pickFoundRow.holds Try.pinned (OpenSpec.ofChange pickFoundWrong)

/- THE SECOND FORM. 'bulk': how many values and letters a reading holds, each counted each time it is reached (what is shared counts as often as it is met; a slice's spare places count too). A statement '..UptoSaid' is the law's where the arguments, and the package variables that the reading takes, are together of bulk at most 1048576: NARROWER than '..Said'. Prove '..Said' where nothing that the law and all that it calls make is longer than what came in: it says more and counts as full. Else prove '..UptoSaid'. A law counts once. -/
mutual
def uptoBulk {H : Type} : DataW H → Nat
  | .lit (.string bytes) => bytes.length + 1
  | .lit _ => 1
  | .nil => 1
  | .ptr d => uptoBulk d + 1
  | .slice elems spare => uptoBulkAll elems + uptoBulkAll spare + 1
  | .agg parts => uptoBulkAll parts + 1
  | .iface _ d => uptoBulk d + 1
  | .map entries => uptoBulkEntries entries + 1
  | .held _ => 1
def uptoBulkAll {H : Type} : List (DataW H) → Nat
  | [] => 0
  | d :: r => uptoBulk d + uptoBulkAll r
def uptoBulkEntries {H : Type} : List (Lit × DataW H) → Nat
  | [] => 0
  | x :: r => uptoBulkEntry x + uptoBulkEntries r
def uptoBulkEntry {H : Type} : Lit × DataW H → Nat
  | (.string bytes, d) => bytes.length + uptoBulk d + 1
  | (_, d) => uptoBulk d + 1
 end
def uptoSmall : (H : Type) → List (DataW H) → Bool := fun _ ds => decide (uptoBulkAll ds ≤ 1048576)
def OpenSpec.upto (s : _root_.Go.ChangeSpec) : _root_.Go.OpenSpec := { _root_.Go.OpenSpec.ofChange s with cond := some uptoSmall }

/-- 'quadratlaw15.PickIndexes', WHERE WHAT IT READS IS OF BULK AT MOST 1048576: true; the input reads as it did. -/
def pickIndexesUptoRow : OpenClaim := { program := "ytnjnajbdpaaikaa", sum := "1fc739a40e99e7ab1c0c788aa282d28da74adc25eb7eed2a50452082eb786e8d", func := "quadrat/quadratlaw15.PickIndexes", spec := "pickIndexes", unfollowed := true, recurses := true, apart := false, narrowed := true }
def PickIndexesUptoSaid : Prop := pickIndexesUptoRow.holds Try.pinned (OpenSpec.upto pickIndexesSpec)

/-- 'quadratlaw15.PickNames', WHERE WHAT IT READS IS OF BULK AT MOST 1048576: true; the input reads as it did. -/
def pickNamesUptoRow : OpenClaim := { program := "ytnjnajbdpaaikaa", sum := "1fc739a40e99e7ab1c0c788aa282d28da74adc25eb7eed2a50452082eb786e8d", func := "quadrat/quadratlaw15.PickNames", spec := "pickNames", unfollowed := true, recurses := true, apart := false, narrowed := true }
def PickNamesUptoSaid : Prop := pickNamesUptoRow.holds Try.pinned (OpenSpec.upto pickNamesSpec)

/-- 'quadratlaw15.PickWays', WHERE WHAT IT READS IS OF BULK AT MOST 1048576: true; the input reads as it did. -/
def pickWaysUptoRow : OpenClaim := { program := "ytnjnajbdpaaikaa", sum := "1fc739a40e99e7ab1c0c788aa282d28da74adc25eb7eed2a50452082eb786e8d", func := "quadrat/quadratlaw15.PickWays", spec := "pickWays", unfollowed := true, recurses := true, apart := false, narrowed := true }
def PickWaysUptoSaid : Prop := pickWaysUptoRow.holds Try.pinned (OpenSpec.upto pickWaysSpec)

/-- 'quadratlaw15.PickMakes', WHERE WHAT IT READS IS OF BULK AT MOST 1048576: true; the input reads as it did. -/
def pickMakesUptoRow : OpenClaim := { program := "ytnjnajbdpaaikaa", sum := "1fc739a40e99e7ab1c0c788aa282d28da74adc25eb7eed2a50452082eb786e8d", func := "quadrat/quadratlaw15.PickMakes", spec := "pickMakes", unfollowed := true, recurses := true, apart := false, narrowed := true }
def PickMakesUptoSaid : Prop := pickMakesUptoRow.holds Try.pinned (OpenSpec.upto pickMakesSpec)

/-- 'quadratlaw15.PickSorted', WHERE WHAT IT READS IS OF BULK AT MOST 1048576: true; the input reads as it did. -/
def pickSortedUptoRow : OpenClaim := { program := "ytnjnajbdpaaikaa", sum := "1fc739a40e99e7ab1c0c788aa282d28da74adc25eb7eed2a50452082eb786e8d", func := "quadrat/quadratlaw15.PickSorted", spec := "pickSorted", unfollowed := true, recurses := true, apart := false, narrowed := true }
def PickSortedUptoSaid : Prop := pickSortedUptoRow.holds Try.pinned (OpenSpec.upto pickSortedSpec)

/-- 'quadratlaw15.PickTells', WHERE WHAT IT READS IS OF BULK AT MOST 1048576: true; the input reads as it did. -/
def pickTellsUptoRow : OpenClaim := { program := "ytnjnajbdpaaikaa", sum := "1fc739a40e99e7ab1c0c788aa282d28da74adc25eb7eed2a50452082eb786e8d", func := "quadrat/quadratlaw15.PickTells", spec := "pickTells", unfollowed := true, recurses := true, apart := false, narrowed := true }
def PickTellsUptoSaid : Prop := pickTellsUptoRow.holds Try.pinned (OpenSpec.upto pickTellsSpec)

/-- 'quadratlaw15.PickMask', WHERE WHAT IT READS IS OF BULK AT MOST 1048576: true; the input reads as it did. -/
def pickMaskUptoRow : OpenClaim := { program := "ytnjnajbdpaaikaa", sum := "1fc739a40e99e7ab1c0c788aa282d28da74adc25eb7eed2a50452082eb786e8d", func := "quadrat/quadratlaw15.PickMask", spec := "pickMask", unfollowed := true, recurses := true, apart := false, narrowed := true }
def PickMaskUptoSaid : Prop := pickMaskUptoRow.holds Try.pinned (OpenSpec.upto pickMaskSpec)

/-- 'quadratlaw15.PickWhole', WHERE WHAT IT READS IS OF BULK AT MOST 1048576: true; the input reads as it did. -/
def pickWholeUptoRow : OpenClaim := { program := "ytnjnajbdpaaikaa", sum := "1fc739a40e99e7ab1c0c788aa282d28da74adc25eb7eed2a50452082eb786e8d", func := "quadrat/quadratlaw15.PickWhole", spec := "pickWhole", unfollowed := true, recurses := true, apart := false, narrowed := true }
def PickWholeUptoSaid : Prop := pickWholeUptoRow.holds Try.pinned (OpenSpec.upto pickWholeSpec)

/-- 'quadratlaw15.PickInverse', WHERE WHAT IT READS IS OF BULK AT MOST 1048576: true; the input reads as it did. -/
def pickInverseUptoRow : OpenClaim := { program := "ytnjnajbdpaaikaa", sum := "1fc739a40e99e7ab1c0c788aa282d28da74adc25eb7eed2a50452082eb786e8d", func := "quadrat/quadratlaw15.PickInverse", spec := "pickInverse", unfollowed := true, recurses := true, apart := false, narrowed := true }
def PickInverseUptoSaid : Prop := pickInverseUptoRow.holds Try.pinned (OpenSpec.upto pickInverseSpec)

/-- 'quadratlaw15.PickFound', WHERE WHAT IT READS IS OF BULK AT MOST 1048576: true; the input reads as it did. -/
def pickFoundUptoRow : OpenClaim := { program := "ytnjnajbdpaaikaa", sum := "1fc739a40e99e7ab1c0c788aa282d28da74adc25eb7eed2a50452082eb786e8d", func := "quadrat/quadratlaw15.PickFound", spec := "pickFound", unfollowed := true, recurses := true, apart := false, narrowed := true }
def PickFoundUptoSaid : Prop := pickFoundUptoRow.holds Try.pinned (OpenSpec.upto pickFoundSpec)

end Rows
end Go.Proofs.Ytnjnajbdpaaikaa
