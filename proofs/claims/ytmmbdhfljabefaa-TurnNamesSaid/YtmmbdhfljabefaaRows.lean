/-
  No cell of these rows narrows 'for every input' (looked for: loops, veiled, ifaces, maps, wideKeys, modest, calm, conditions, laid).
  DERIVED. THE GIVEN ROWS OF THIS SEAT. 8 by the template 'for every input the law returns true; each argument reads behind the call as it read before'; 0 by the template 'total and deterministic' (their statements: YtmmbdhfljabefaaTotals.lean).
  GIVEN WITH THE SEED: the statements are not yours to turn. If you find one false, say at which input.
  Laid BY PROGRAM, IN A SANDBOX (cutbox-rows.mjs): the forced cells as the released guide's own fill.sh prints them over the translation ba2aca3c8e1dab6b… (all of the seat's roots in one cut). By AI agents, Wed Nov 11 2026. No macro, syntax, notation, axiom, sorry.
-/
import Derived.Test.YtmmbdhfljabefaaChecked
import GoSem.Claim
import GoSem.ClaimJoined
import GoSem.ClaimMapViews
import Derived.JoinedTies
import Derived.KernelRfl
namespace Go.Proofs.Ytmmbdhfljabefaa
/- THE CELL 'sum', in the pinned program and in every row, IS THE sha256 OF THE DUMP (.gsa) THAT YtmmbdhfljabefaaProg.lean LOADS. Nothing in Lean hashes anything: it is a label: what it is worth is what the hold of that sum in a sandbox is worth. -/
noncomputable def Try.pinned : Pinned := { name := "ytmmbdhfljabefaa", sum := "ba2aca3c8e1dab6b9c4c11383825d31548875aa3a0fbd89ce4a78c907ef73ac2", checked := Try.checked }
namespace Rows
def none {H : Type} : Left H := { results := [], args := [] }

/-- 'quadratlaw14.TurnWays': WHATEVER THE INPUT: true; the input reads as it did. -/
def turnWaysSpec : ChangeSpec := { name := "turnWays", fn := fun _ => fun
  | [d1, d2] => { results := [.lit (.bool true)], args := [d1, d2] }
  | _ => none }
def turnWaysRow : OpenClaim := { program := "ytmmbdhfljabefaa", sum := "ba2aca3c8e1dab6b9c4c11383825d31548875aa3a0fbd89ce4a78c907ef73ac2", func := "quadrat/quadratlaw14.TurnWays", spec := "turnWays", unfollowed := true, recurses := true, apart := false }
def TurnWaysSaid : Prop := turnWaysRow.holds Try.pinned (OpenSpec.ofChange turnWaysSpec)

/-- ITS FALSE NEIGHBOUR: 'it returns false'. Refute it at one input. -/
def turnWaysWrong : ChangeSpec := { name := "turnWays", fn := fun _ => fun
  | [d1, d2] => { results := [.lit (.bool false)], args := [d1, d2] }
  | _ => none }
def TurnWaysWrongFalsely : Prop := turnWaysRow.holds Try.pinned (OpenSpec.ofChange turnWaysWrong)

/-- 'quadratlaw14.TurnTwice': WHATEVER THE INPUT: true; the input reads as it did. -/
def turnTwiceSpec : ChangeSpec := { name := "turnTwice", fn := fun _ => fun
  | [d1, d2, d3] => { results := [.lit (.bool true)], args := [d1, d2, d3] }
  | _ => none }
def turnTwiceRow : OpenClaim := { program := "ytmmbdhfljabefaa", sum := "ba2aca3c8e1dab6b9c4c11383825d31548875aa3a0fbd89ce4a78c907ef73ac2", func := "quadrat/quadratlaw14.TurnTwice", spec := "turnTwice", unfollowed := true, recurses := true, apart := false }
def TurnTwiceSaid : Prop := turnTwiceRow.holds Try.pinned (OpenSpec.ofChange turnTwiceSpec)

/-- ITS FALSE NEIGHBOUR: 'it returns false'. Refute it at one input. -/
def turnTwiceWrong : ChangeSpec := { name := "turnTwice", fn := fun _ => fun
  | [d1, d2, d3] => { results := [.lit (.bool false)], args := [d1, d2, d3] }
  | _ => none }
def TurnTwiceWrongFalsely : Prop := turnTwiceRow.holds Try.pinned (OpenSpec.ofChange turnTwiceWrong)

/-- 'quadratlaw14.TurnRows': WHATEVER THE INPUT: true; the input reads as it did. -/
def turnRowsSpec : ChangeSpec := { name := "turnRows", fn := fun _ => fun
  | [d1, d2] => { results := [.lit (.bool true)], args := [d1, d2] }
  | _ => none }
def turnRowsRow : OpenClaim := { program := "ytmmbdhfljabefaa", sum := "ba2aca3c8e1dab6b9c4c11383825d31548875aa3a0fbd89ce4a78c907ef73ac2", func := "quadrat/quadratlaw14.TurnRows", spec := "turnRows", unfollowed := true, recurses := true, apart := false }
def TurnRowsSaid : Prop := turnRowsRow.holds Try.pinned (OpenSpec.ofChange turnRowsSpec)

/-- ITS FALSE NEIGHBOUR: 'it returns false'. Refute it at one input. -/
def turnRowsWrong : ChangeSpec := { name := "turnRows", fn := fun _ => fun
  | [d1, d2] => { results := [.lit (.bool false)], args := [d1, d2] }
  | _ => none }
def TurnRowsWrongFalsely : Prop := turnRowsRow.holds Try.pinned (OpenSpec.ofChange turnRowsWrong)

/-- 'quadratlaw14.TurnMakes': WHATEVER THE INPUT: true; the input reads as it did. -/
def turnMakesSpec : ChangeSpec := { name := "turnMakes", fn := fun _ => fun
  | [d1, d2] => { results := [.lit (.bool true)], args := [d1, d2] }
  | _ => none }
def turnMakesRow : OpenClaim := { program := "ytmmbdhfljabefaa", sum := "ba2aca3c8e1dab6b9c4c11383825d31548875aa3a0fbd89ce4a78c907ef73ac2", func := "quadrat/quadratlaw14.TurnMakes", spec := "turnMakes", unfollowed := true, recurses := true, apart := false }
def TurnMakesSaid : Prop := turnMakesRow.holds Try.pinned (OpenSpec.ofChange turnMakesSpec)

/-- ITS FALSE NEIGHBOUR: 'it returns false'. Refute it at one input. -/
def turnMakesWrong : ChangeSpec := { name := "turnMakes", fn := fun _ => fun
  | [d1, d2] => { results := [.lit (.bool false)], args := [d1, d2] }
  | _ => none }
def TurnMakesWrongFalsely : Prop := turnMakesRow.holds Try.pinned (OpenSpec.ofChange turnMakesWrong)

/-- 'quadratlaw14.TurnAxes': WHATEVER THE INPUT: true; the input reads as it did. -/
def turnAxesSpec : ChangeSpec := { name := "turnAxes", fn := fun _ => fun
  | [d1, d2, d3] => { results := [.lit (.bool true)], args := [d1, d2, d3] }
  | _ => none }
def turnAxesRow : OpenClaim := { program := "ytmmbdhfljabefaa", sum := "ba2aca3c8e1dab6b9c4c11383825d31548875aa3a0fbd89ce4a78c907ef73ac2", func := "quadrat/quadratlaw14.TurnAxes", spec := "turnAxes", unfollowed := true, recurses := true, apart := false }
def TurnAxesSaid : Prop := turnAxesRow.holds Try.pinned (OpenSpec.ofChange turnAxesSpec)

/-- ITS FALSE NEIGHBOUR: 'it returns false'. Refute it at one input. -/
def turnAxesWrong : ChangeSpec := { name := "turnAxes", fn := fun _ => fun
  | [d1, d2, d3] => { results := [.lit (.bool false)], args := [d1, d2, d3] }
  | _ => none }
def TurnAxesWrongFalsely : Prop := turnAxesRow.holds Try.pinned (OpenSpec.ofChange turnAxesWrong)

/-- 'quadratlaw14.TurnTells': WHATEVER THE INPUT: true; the input reads as it did. -/
def turnTellsSpec : ChangeSpec := { name := "turnTells", fn := fun _ => fun
  | [d1, d2] => { results := [.lit (.bool true)], args := [d1, d2] }
  | _ => none }
def turnTellsRow : OpenClaim := { program := "ytmmbdhfljabefaa", sum := "ba2aca3c8e1dab6b9c4c11383825d31548875aa3a0fbd89ce4a78c907ef73ac2", func := "quadrat/quadratlaw14.TurnTells", spec := "turnTells", unfollowed := true, recurses := true, apart := false }
def TurnTellsSaid : Prop := turnTellsRow.holds Try.pinned (OpenSpec.ofChange turnTellsSpec)

/-- ITS FALSE NEIGHBOUR: 'it returns false'. Refute it at one input. -/
def turnTellsWrong : ChangeSpec := { name := "turnTells", fn := fun _ => fun
  | [d1, d2] => { results := [.lit (.bool false)], args := [d1, d2] }
  | _ => none }
def TurnTellsWrongFalsely : Prop := turnTellsRow.holds Try.pinned (OpenSpec.ofChange turnTellsWrong)

/-- 'quadratlaw14.TurnNames': WHATEVER THE INPUT: true; the input reads as it did. -/
def turnNamesSpec : ChangeSpec := { name := "turnNames", fn := fun _ => fun
  | [] => { results := [.lit (.bool true)], args := [] }
  | _ => none }
def turnNamesRow : OpenClaim := { program := "ytmmbdhfljabefaa", sum := "ba2aca3c8e1dab6b9c4c11383825d31548875aa3a0fbd89ce4a78c907ef73ac2", func := "quadrat/quadratlaw14.TurnNames", spec := "turnNames", unfollowed := true, recurses := true, apart := false }
def TurnNamesSaid : Prop := turnNamesRow.holds Try.pinned (OpenSpec.ofChange turnNamesSpec)

/-- ITS FALSE NEIGHBOUR: 'it returns false'. Refute it at one input. -/
def turnNamesWrong : ChangeSpec := { name := "turnNames", fn := fun _ => fun
  | [] => { results := [.lit (.bool false)], args := [] }
  | _ => none }
def TurnNamesWrongFalsely : Prop := turnNamesRow.holds Try.pinned (OpenSpec.ofChange turnNamesWrong)

/-- 'quadratlaw14.TurnCats': WHATEVER THE INPUT: true; the input reads as it did. -/
def turnCatsSpec : ChangeSpec := { name := "turnCats", fn := fun _ => fun
  | [d1, d2] => { results := [.lit (.bool true)], args := [d1, d2] }
  | _ => none }
def turnCatsRow : OpenClaim := { program := "ytmmbdhfljabefaa", sum := "ba2aca3c8e1dab6b9c4c11383825d31548875aa3a0fbd89ce4a78c907ef73ac2", func := "quadrat/quadratlaw14.TurnCats", spec := "turnCats", unfollowed := true, recurses := true, apart := false }
def TurnCatsSaid : Prop := turnCatsRow.holds Try.pinned (OpenSpec.ofChange turnCatsSpec)

/-- ITS FALSE NEIGHBOUR: 'it returns false'. Refute it at one input. -/
def turnCatsWrong : ChangeSpec := { name := "turnCats", fn := fun _ => fun
  | [d1, d2] => { results := [.lit (.bool false)], args := [d1, d2] }
  | _ => none }
def TurnCatsWrongFalsely : Prop := turnCatsRow.holds Try.pinned (OpenSpec.ofChange turnCatsWrong)

/- THE SECOND FORM. 'bulk': how many values and letters a reading holds, each counted each time it is reached (what is shared counts as often as it is met; a slice's spare places count too). A statement '..UptoSaid' is the law's where the arguments, and the package variables that the reading takes, are together of bulk at most 1048576: NARROWER than '..Said'. Prove '..Said' where nothing that the law and all that it calls make is longer than what came in: it says more and counts as full. Else prove '..UptoSaid'. A law counts once. -/
mutual
def uptoBulk {H : Type} : DataW H → Nat
  | .lit (.string bytes) => bytes.length + 1
  | .lit _ => 1
  | .nil => 1
  | .ptr d => uptoBulk d + 1
  | .slice elems spare => uptoBulkAll elems + uptoBulkAll spare + 1
  | .agg parts => uptoBulkAll parts + 1
  | .iface _ d => uptoBulk d + 1
  | .map entries => uptoBulkEntries entries + 1
  | .held _ => 1
def uptoBulkAll {H : Type} : List (DataW H) → Nat
  | [] => 0
  | d :: r => uptoBulk d + uptoBulkAll r
def uptoBulkEntries {H : Type} : List (Lit × DataW H) → Nat
  | [] => 0
  | x :: r => uptoBulkEntry x + uptoBulkEntries r
def uptoBulkEntry {H : Type} : Lit × DataW H → Nat
  | (.string bytes, d) => bytes.length + uptoBulk d + 1
  | (_, d) => uptoBulk d + 1
 end
def uptoSmall : (H : Type) → List (DataW H) → Bool := fun _ ds => decide (uptoBulkAll ds ≤ 1048576)
def OpenSpec.upto (s : _root_.Go.ChangeSpec) : _root_.Go.OpenSpec := { _root_.Go.OpenSpec.ofChange s with cond := some uptoSmall }

/-- 'quadratlaw14.TurnWays', WHERE WHAT IT READS IS OF BULK AT MOST 1048576: true; the input reads as it did. -/
def turnWaysUptoRow : OpenClaim := { program := "ytmmbdhfljabefaa", sum := "ba2aca3c8e1dab6b9c4c11383825d31548875aa3a0fbd89ce4a78c907ef73ac2", func := "quadrat/quadratlaw14.TurnWays", spec := "turnWays", unfollowed := true, recurses := true, apart := false, narrowed := true }
def TurnWaysUptoSaid : Prop := turnWaysUptoRow.holds Try.pinned (OpenSpec.upto turnWaysSpec)

/-- 'quadratlaw14.TurnTwice', WHERE WHAT IT READS IS OF BULK AT MOST 1048576: true; the input reads as it did. -/
def turnTwiceUptoRow : OpenClaim := { program := "ytmmbdhfljabefaa", sum := "ba2aca3c8e1dab6b9c4c11383825d31548875aa3a0fbd89ce4a78c907ef73ac2", func := "quadrat/quadratlaw14.TurnTwice", spec := "turnTwice", unfollowed := true, recurses := true, apart := false, narrowed := true }
def TurnTwiceUptoSaid : Prop := turnTwiceUptoRow.holds Try.pinned (OpenSpec.upto turnTwiceSpec)

/-- 'quadratlaw14.TurnRows', WHERE WHAT IT READS IS OF BULK AT MOST 1048576: true; the input reads as it did. -/
def turnRowsUptoRow : OpenClaim := { program := "ytmmbdhfljabefaa", sum := "ba2aca3c8e1dab6b9c4c11383825d31548875aa3a0fbd89ce4a78c907ef73ac2", func := "quadrat/quadratlaw14.TurnRows", spec := "turnRows", unfollowed := true, recurses := true, apart := false, narrowed := true }
def TurnRowsUptoSaid : Prop := turnRowsUptoRow.holds Try.pinned (OpenSpec.upto turnRowsSpec)

/-- 'quadratlaw14.TurnMakes', WHERE WHAT IT READS IS OF BULK AT MOST 1048576: true; the input reads as it did. -/
def turnMakesUptoRow : OpenClaim := { program := "ytmmbdhfljabefaa", sum := "ba2aca3c8e1dab6b9c4c11383825d31548875aa3a0fbd89ce4a78c907ef73ac2", func := "quadrat/quadratlaw14.TurnMakes", spec := "turnMakes", unfollowed := true, recurses := true, apart := false, narrowed := true }
def TurnMakesUptoSaid : Prop := turnMakesUptoRow.holds Try.pinned (OpenSpec.upto turnMakesSpec)

/-- 'quadratlaw14.TurnAxes', WHERE WHAT IT READS IS OF BULK AT MOST 1048576: true; the input reads as it did. -/
def turnAxesUptoRow : OpenClaim := { program := "ytmmbdhfljabefaa", sum := "ba2aca3c8e1dab6b9c4c11383825d31548875aa3a0fbd89ce4a78c907ef73ac2", func := "quadrat/quadratlaw14.TurnAxes", spec := "turnAxes", unfollowed := true, recurses := true, apart := false, narrowed := true }
def TurnAxesUptoSaid : Prop := turnAxesUptoRow.holds Try.pinned (OpenSpec.upto turnAxesSpec)

/-- 'quadratlaw14.TurnTells', WHERE WHAT IT READS IS OF BULK AT MOST 1048576: true; the input reads as it did. -/
def turnTellsUptoRow : OpenClaim := { program := "ytmmbdhfljabefaa", sum := "ba2aca3c8e1dab6b9c4c11383825d31548875aa3a0fbd89ce4a78c907ef73ac2", func := "quadrat/quadratlaw14.TurnTells", spec := "turnTells", unfollowed := true, recurses := true, apart := false, narrowed := true }
def TurnTellsUptoSaid : Prop := turnTellsUptoRow.holds Try.pinned (OpenSpec.upto turnTellsSpec)

/-- 'quadratlaw14.TurnNames', WHERE WHAT IT READS IS OF BULK AT MOST 1048576: true; the input reads as it did. -/
def turnNamesUptoRow : OpenClaim := { program := "ytmmbdhfljabefaa", sum := "ba2aca3c8e1dab6b9c4c11383825d31548875aa3a0fbd89ce4a78c907ef73ac2", func := "quadrat/quadratlaw14.TurnNames", spec := "turnNames", unfollowed := true, recurses := true, apart := false, narrowed := true }
def TurnNamesUptoSaid : Prop := turnNamesUptoRow.holds Try.pinned (OpenSpec.upto turnNamesSpec)

/-- 'quadratlaw14.TurnCats', WHERE WHAT IT READS IS OF BULK AT MOST 1048576: true; the input reads as it did. -/
def turnCatsUptoRow : OpenClaim := { program := "ytmmbdhfljabefaa", sum := "ba2aca3c8e1dab6b9c4c11383825d31548875aa3a0fbd89ce4a78c907ef73ac2", func := "quadrat/quadratlaw14.TurnCats", spec := "turnCats", unfollowed := true, recurses := true, apart := false, narrowed := true }
def TurnCatsUptoSaid : Prop := turnCatsUptoRow.holds Try.pinned (OpenSpec.upto turnCatsSpec)

end Rows
end Go.Proofs.Ytmmbdhfljabefaa
