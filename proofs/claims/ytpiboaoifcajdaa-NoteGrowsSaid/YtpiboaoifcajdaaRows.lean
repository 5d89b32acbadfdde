/-
  No cell of these rows narrows 'for every input' (looked for: loops, veiled, ifaces, maps, wideKeys, modest, calm, conditions, laid).
  DERIVED. THE GIVEN ROWS OF THIS SEAT. 6 by the template 'for every input the law returns true; each argument reads behind the call as it read before'; 0 by the template 'total and deterministic' (their statements: YtpiboaoifcajdaaTotals.lean).
  GIVEN WITH THE SEED: the statements are not yours to turn. If you find one false, say at which input.
  Laid BY PROGRAM, IN A SANDBOX (cutbox-rows.mjs): the forced cells as the released guide's own fill.sh prints them over the translation 0a99d1e9802e5df5… (all of the seat's roots in one cut). By AI agents, Wed Nov 11 2026. No macro, syntax, notation, axiom, sorry.
-/
import Derived.Test.YtpiboaoifcajdaaChecked
import GoSem.Claim
import GoSem.ClaimJoined
import GoSem.ClaimMapViews
import Derived.JoinedTies
import Derived.KernelRfl
namespace Go.Proofs.Ytpiboaoifcajdaa
/- THE CELL 'sum', in the pinned program and in every row, IS THE sha256 OF THE DUMP (.gsa) THAT YtpiboaoifcajdaaProg.lean LOADS. Nothing in Lean hashes anything: it is a label: what it is worth is what the hold of that sum in a sandbox is worth. -/
noncomputable def Try.pinned : Pinned := { name := "ytpiboaoifcajdaa", sum := "0a99d1e9802e5df5edce5ddb3d6003153625a7453efb02ecea4d465ec144e24f", checked := Try.checked }
namespace Rows
def none {H : Type} : Left H := { results := [], args := [] }

/-- 'quadratlaw09.NoteForms': WHATEVER THE INPUT: true; the input reads as it did. -/
def noteFormsSpec : ChangeSpec := { name := "noteForms", fn := fun _ => fun
  | [d1, d2] => { results := [.lit (.bool true)], args := [d1, d2] }
  | _ => none }
def noteFormsRow : OpenClaim := { program := "ytpiboaoifcajdaa", sum := "0a99d1e9802e5df5edce5ddb3d6003153625a7453efb02ecea4d465ec144e24f", func := "quadrat/quadratlaw09.NoteForms", spec := "noteForms", unfollowed := true, recurses := true, plainKeys := false, apart := false }
def NoteFormsSaid : Prop := noteFormsRow.holds Try.pinned (OpenSpec.ofChange noteFormsSpec)

/-- ITS FALSE NEIGHBOUR: 'it returns false'. Refute it at one input. -/
def noteFormsWrong : ChangeSpec := { name := "noteForms", fn := fun _ => fun
  | [d1, d2] => { results := [.lit (.bool false)], args := [d1, d2] }
  | _ => none }
def NoteFormsWrongFalsely : Prop := noteFormsRow.holds Try.pinned (OpenSpec.ofChange noteFormsWrong)

/-- 'quadratlaw09.NoteBack': WHATEVER THE INPUT: true; the input reads as it did. -/
def noteBackSpec : ChangeSpec := { name := "noteBack", fn := fun _ => fun
  | [d1, d2] => { results := [.lit (.bool true)], args := [d1, d2] }
  | _ => none }
def noteBackRow : OpenClaim := { program := "ytpiboaoifcajdaa", sum := "0a99d1e9802e5df5edce5ddb3d6003153625a7453efb02ecea4d465ec144e24f", func := "quadrat/quadratlaw09.NoteBack", spec := "noteBack", unfollowed := true, recurses := true, plainKeys := false, apart := false }
def NoteBackSaid : Prop := noteBackRow.holds Try.pinned (OpenSpec.ofChange noteBackSpec)

/-- ITS FALSE NEIGHBOUR: 'it returns false'. Refute it at one input. -/
def noteBackWrong : ChangeSpec := { name := "noteBack", fn := fun _ => fun
  | [d1, d2] => { results := [.lit (.bool false)], args := [d1, d2] }
  | _ => none }
def NoteBackWrongFalsely : Prop := noteBackRow.holds Try.pinned (OpenSpec.ofChange noteBackWrong)

/-- 'quadratlaw09.NoteLast': WHATEVER THE INPUT: true; the input reads as it did. -/
def noteLastSpec : ChangeSpec := { name := "noteLast", fn := fun _ => fun
  | [d1, d2, d3, d4] => { results := [.lit (.bool true)], args := [d1, d2, d3, d4] }
  | _ => none }
def noteLastRow : OpenClaim := { program := "ytpiboaoifcajdaa", sum := "0a99d1e9802e5df5edce5ddb3d6003153625a7453efb02ecea4d465ec144e24f", func := "quadrat/quadratlaw09.NoteLast", spec := "noteLast", unfollowed := true, recurses := true, plainKeys := false, apart := false }
def NoteLastSaid : Prop := noteLastRow.holds Try.pinned (OpenSpec.ofChange noteLastSpec)

/-- ITS FALSE NEIGHBOUR: 'it returns false'. Refute it at one input. -/
def noteLastWrong : ChangeSpec := { name := "noteLast", fn := fun _ => fun
  | [d1, d2, d3, d4] => { results := [.lit (.bool false)], args := [d1, d2, d3, d4] }
  | _ => none }
def NoteLastWrongFalsely : Prop := noteLastRow.holds Try.pinned (OpenSpec.ofChange noteLastWrong)

/-- 'quadratlaw09.NoteLogs': WHATEVER THE INPUT: true; the input reads as it did. -/
def noteLogsSpec : ChangeSpec := { name := "noteLogs", fn := fun _ => fun
  | [d1, d2, d3, d4] => { results := [.lit (.bool true)], args := [d1, d2, d3, d4] }
  | _ => none }
def noteLogsRow : OpenClaim := { program := "ytpiboaoifcajdaa", sum := "0a99d1e9802e5df5edce5ddb3d6003153625a7453efb02ecea4d465ec144e24f", func := "quadrat/quadratlaw09.NoteLogs", spec := "noteLogs", unfollowed := true, recurses := true, plainKeys := false, apart := false }
def NoteLogsSaid : Prop := noteLogsRow.holds Try.pinned (OpenSpec.ofChange noteLogsSpec)

/-- ITS FALSE NEIGHBOUR: 'it returns false'. Refute it at one input. -/
def noteLogsWrong : ChangeSpec := { name := "noteLogs", fn := fun _ => fun
  | [d1, d2, d3, d4] => { results := [.lit (.bool false)], args := [d1, d2, d3, d4] }
  | _ => none }
def NoteLogsWrongFalsely : Prop := noteLogsRow.holds Try.pinned (OpenSpec.ofChange noteLogsWrong)

/-- 'quadratlaw09.NoteNames': WHATEVER THE INPUT: true; the input reads as it did. -/
def noteNamesSpec : ChangeSpec := { name := "noteNames", fn := fun _ => fun
  | [] => { results := [.lit (.bool true)], args := [] }
  | _ => none }
def noteNamesRow : OpenClaim := { program := "ytpiboaoifcajdaa", sum := "0a99d1e9802e5df5edce5ddb3d6003153625a7453efb02ecea4d465ec144e24f", func := "quadrat/quadratlaw09.NoteNames", spec := "noteNames", unfollowed := true, recurses := true, plainKeys := false, apart := false }
def NoteNamesSaid : Prop := noteNamesRow.holds Try.pinned (OpenSpec.ofChange noteNamesSpec)

/-- ITS FALSE NEIGHBOUR: 'it returns false'. Refute it at one input. -/
def noteNamesWrong : ChangeSpec := { name := "noteNames", fn := fun _ => fun
  | [] => { results := [.lit (.bool false)], args := [] }
  | _ => none }
def NoteNamesWrongFalsely : Prop := noteNamesRow.holds Try.pinned (OpenSpec.ofChange noteNamesWrong)

/-- 'quadratlaw09.NoteGrows': WHATEVER THE INPUT: true; the input reads as it did. -/
def noteGrowsSpec : ChangeSpec := { name := "noteGrows", fn := fun _ => fun
  | [d1, d2, d3, d4] => { results := [.lit (.bool true)], args := [d1, d2, d3, d4] }
  | _ => none }
def noteGrowsRow : OpenClaim := { program := "ytpiboaoifcajdaa", sum := "0a99d1e9802e5df5edce5ddb3d6003153625a7453efb02ecea4d465ec144e24f", func := "quadrat/quadratlaw09.NoteGrows", spec := "noteGrows", unfollowed := true, recurses := true, plainKeys := false, apart := false }
def NoteGrowsSaid : Prop := noteGrowsRow.holds Try.pinned (OpenSpec.ofChange noteGrowsSpec)

/-- ITS FALSE NEIGHBOUR: 'it returns false'. Refute it at one input. -/
def noteGrowsWrong : ChangeSpec := { name := "noteGrows", fn := fun _ => fun
  | [d1, d2, d3, d4] => { results := [.lit (.bool false)], args := [d1, d2, d3, d4] }
  | _ => none }
def NoteGrowsWrongFalsely : Prop := noteGrowsRow.holds Try.pinned (OpenSpec.ofChange noteGrowsWrong)

/- THE SECOND FORM. 'bulk': how many values and letters a reading holds, each counted each time it is reached (what is shared counts as often as it is met; a slice's spare places count too). A statement '..UptoSaid' is the law's where the arguments, and the package variables that the reading takes, are together of bulk at most 1048576: NARROWER than '..Said'. Prove '..Said' where nothing that the law and all that it calls make is longer than what came in: it says more and counts as full. Else prove '..UptoSaid'. A law counts once. -/
mutual
def uptoBulk {H : Type} : DataW H → Nat
  | .lit (.string bytes) => bytes.length + 1
  | .lit _ => 1
  | .nil => 1
  | .ptr d => uptoBulk d + 1
  | .slice elems spare => uptoBulkAll elems + uptoBulkAll spare + 1
  | .agg parts => uptoBulkAll parts + 1
  | .iface _ d => uptoBulk d + 1
  | .map entries => uptoBulkEntries entries + 1
  | .held _ => 1
def uptoBulkAll {H : Type} : List (DataW H) → Nat
  | [] => 0
  | d :: r => uptoBulk d + uptoBulkAll r
def uptoBulkEntries {H : Type} : List (Lit × DataW H) → Nat
  | [] => 0
  | x :: r => uptoBulkEntry x + uptoBulkEntries r
def uptoBulkEntry {H : Type} : Lit × DataW H → Nat
  | (.string bytes, d) => bytes.length + uptoBulk d + 1
  | (_, d) => uptoBulk d + 1
 end
def uptoSmall : (H : Type) → List (DataW H) → Bool := fun _ ds => decide (uptoBulkAll ds ≤ 1048576)
def OpenSpec.upto (s : _root_.Go.ChangeSpec) : _root_.Go.OpenSpec := { _root_.Go.OpenSpec.ofChange s with cond := some uptoSmall }

/-- 'quadratlaw09.NoteForms', WHERE WHAT IT READS IS OF BULK AT MOST 1048576: true; the input reads as it did. -/
def noteFormsUptoRow : OpenClaim := { program := "ytpiboaoifcajdaa", sum := "0a99d1e9802e5df5edce5ddb3d6003153625a7453efb02ecea4d465ec144e24f", func := "quadrat/quadratlaw09.NoteForms", spec := "noteForms", unfollowed := true, recurses := true, plainKeys := false, apart := false, narrowed := true }
def NoteFormsUptoSaid : Prop := noteFormsUptoRow.holds Try.pinned (OpenSpec.upto noteFormsSpec)

/-- 'quadratlaw09.NoteBack', WHERE WHAT IT READS IS OF BULK AT MOST 1048576: true; the input reads as it did. -/
def noteBackUptoRow : OpenClaim := { program := "ytpiboaoifcajdaa", sum := "0a99d1e9802e5df5edce5ddb3d6003153625a7453efb02ecea4d465ec144e24f", func := "quadrat/quadratlaw09.NoteBack", spec := "noteBack", unfollowed := true, recurses := true, plainKeys := false, apart := false, narrowed := true }
def NoteBackUptoSaid : Prop := noteBackUptoRow.holds Try.pinned (OpenSpec.upto noteBackSpec)

/-- 'quadratlaw09.NoteLast', WHERE WHAT IT READS IS OF BULK AT MOST 1048576: true; the input reads as it did. -/
def noteLastUptoRow : OpenClaim := { program := "ytpiboaoifcajdaa", sum := "0a99d1e9802e5df5edce5ddb3d6003153625a7453efb02ecea4d465ec144e24f", func := "quadrat/quadratlaw09.NoteLast", spec := "noteLast", unfollowed := true, recurses := true, plainKeys := false, apart := false, narrowed := true }
def NoteLastUptoSaid : Prop := noteLastUptoRow.holds Try.pinned (OpenSpec.upto noteLastSpec)

/-- 'quadratlaw09.NoteLogs', WHERE WHAT IT READS IS OF BULK AT MOST 1048576: true; the input reads as it did. -/
def noteLogsUptoRow : OpenClaim := { program := "ytpiboaoifcajdaa", sum := "0a99d1e9802e5df5edce5ddb3d6003153625a7453efb02ecea4d465ec144e24f", func := "quadrat/quadratlaw09.NoteLogs", spec := "noteLogs", unfollowed := true, recurses := true, plainKeys := false, apart := false, narrowed := true }
def NoteLogsUptoSaid : Prop := noteLogsUptoRow.holds Try.pinned (OpenSpec.upto noteLogsSpec)

/-- 'quadratlaw09.NoteNames', WHERE WHAT IT READS IS OF BULK AT MOST 1048576: true; the input reads as it did. -/
def noteNamesUptoRow : OpenClaim := { program := "ytpiboaoifcajdaa", sum := "0a99d1e9802e5df5edce5ddb3d6003153625a7453efb02ecea4d465ec144e24f", func := "quadrat/quadratlaw09.NoteNames", spec := "noteNames", unfollowed := true, recurses := true, plainKeys := false, apart := false, narrowed := true }
def NoteNamesUptoSaid : Prop := noteNamesUptoRow.holds Try.pinned (OpenSpec.upto noteNamesSpec)

/-- 'quadratlaw09.NoteGrows', WHERE WHAT IT READS IS OF BULK AT MOST 1048576: true; the input reads as it did. -/
def noteGrowsUptoRow : OpenClaim := { program := "ytpiboaoifcajdaa", sum := "0a99d1e9802e5df5edce5ddb3d6003153625a7453efb02ecea4d465ec144e24f", func := "quadrat/quadratlaw09.NoteGrows", spec := "noteGrows", unfollowed := true, recurses := true, plainKeys := false, apart := false, narrowed := true }
def NoteGrowsUptoSaid : Prop := noteGrowsUptoRow.holds Try.pinned (OpenSpec.upto noteGrowsSpec)

end Rows
end Go.Proofs.Ytpiboaoifcajdaa
