/-
  No cell of these rows narrows 'for every input' (looked for: loops, veiled, ifaces, maps, wideKeys, modest, calm, conditions, laid).
  DERIVED. THE GIVEN ROWS OF THIS SEAT. 8 by the template 'for every input the law returns true; each argument reads behind the call as it read before'; 0 by the template 'total and deterministic' (their statements: YtceooipljhjpaaaTotals.lean).
  GIVEN WITH THE SEED: the statements are not yours to turn. If you find one false, say at which input.
  Laid BY PROGRAM, IN A SANDBOX (cutbox-rows.mjs): the forced cells as the released guide's own fill.sh prints them over the translation 07ce7762419bc6fe… (all of the seat's roots in one cut). By AI agents, Wed Nov 11 2026. No macro, syntax, notation, axiom, sorry.
-/
import Derived.Test.YtceooipljhjpaaaChecked
import GoSem.Claim
import GoSem.ClaimJoined
import GoSem.ClaimMapViews
import Derived.JoinedTies
import Derived.KernelRfl
namespace Go.Proofs.Ytceooipljhjpaaa
/- THE CELL 'sum', in the pinned program and in every row, IS THE sha256 OF THE DUMP (.gsa) THAT YtceooipljhjpaaaProg.lean LOADS. Nothing in Lean hashes anything: it is a label: what it is worth is what the hold of that sum in a sandbox is worth. -/
noncomputable def Try.pinned : Pinned := { name := "ytceooipljhjpaaa", sum := "07ce7762419bc6fe362cbf6af6e83669c5d66282b6fb32952a726094b531a706", checked := Try.checked }
namespace Rows
def none {H : Type} : Left H := { results := [], args := [] }

/-- 'quadratlaw13.MoldWays': WHATEVER THE INPUT: true; the input reads as it did. -/
def moldWaysSpec : ChangeSpec := { name := "moldWays", fn := fun _ => fun
  | [d1, d2, d3] => { results := [.lit (.bool true)], args := [d1, d2, d3] }
  | _ => none }
def moldWaysRow : OpenClaim := { program := "ytceooipljhjpaaa", sum := "07ce7762419bc6fe362cbf6af6e83669c5d66282b6fb32952a726094b531a706", func := "quadrat/quadratlaw13.MoldWays", spec := "moldWays", unfollowed := true, recurses := true, apart := false }
def MoldWaysSaid : Prop := moldWaysRow.holds Try.pinned (OpenSpec.ofChange moldWaysSpec)

/-- ITS FALSE NEIGHBOUR: 'it returns false'. Refute it at one input. -/
def moldWaysWrong : ChangeSpec := { name := "moldWays", fn := fun _ => fun
  | [d1, d2, d3] => { results := [.lit (.bool false)], args := [d1, d2, d3] }
  | _ => none }
def MoldWaysWrongFalsely : Prop := moldWaysRow.holds Try.pinned (OpenSpec.ofChange moldWaysWrong)

/-- 'quadratlaw13.MoldParts': WHATEVER THE INPUT: true; the input reads as it did. -/
def moldPartsSpec : ChangeSpec := { name := "moldParts", fn := fun _ => fun
  | [d1, d2, d3, d4] => { results := [.lit (.bool true)], args := [d1, d2, d3, d4] }
  | _ => none }
def moldPartsRow : OpenClaim := { program := "ytceooipljhjpaaa", sum := "07ce7762419bc6fe362cbf6af6e83669c5d66282b6fb32952a726094b531a706", func := "quadrat/quadratlaw13.MoldParts", spec := "moldParts", unfollowed := true, recurses := true, apart := false }
def MoldPartsSaid : Prop := moldPartsRow.holds Try.pinned (OpenSpec.ofChange moldPartsSpec)

/-- ITS FALSE NEIGHBOUR: 'it returns false'. Refute it at one input. -/
def moldPartsWrong : ChangeSpec := { name := "moldParts", fn := fun _ => fun
  | [d1, d2, d3, d4] => { results := [.lit (.bool false)], args := [d1, d2, d3, d4] }
  | _ => none }
def MoldPartsWrongFalsely : Prop := moldPartsRow.holds Try.pinned (OpenSpec.ofChange moldPartsWrong)

/-- 'quadratlaw13.MoldTells': WHATEVER THE INPUT: true; the input reads as it did. -/
def moldTellsSpec : ChangeSpec := { name := "moldTells", fn := fun _ => fun
  | [d1, d2] => { results := [.lit (.bool true)], args := [d1, d2] }
  | _ => none }
def moldTellsRow : OpenClaim := { program := "ytceooipljhjpaaa", sum := "07ce7762419bc6fe362cbf6af6e83669c5d66282b6fb32952a726094b531a706", func := "quadrat/quadratlaw13.MoldTells", spec := "moldTells", unfollowed := true, recurses := true, apart := false }
def MoldTellsSaid : Prop := moldTellsRow.holds Try.pinned (OpenSpec.ofChange moldTellsSpec)

/-- ITS FALSE NEIGHBOUR: 'it returns false'. Refute it at one input. -/
def moldTellsWrong : ChangeSpec := { name := "moldTells", fn := fun _ => fun
  | [d1, d2] => { results := [.lit (.bool false)], args := [d1, d2] }
  | _ => none }
def MoldTellsWrongFalsely : Prop := moldTellsRow.holds Try.pinned (OpenSpec.ofChange moldTellsWrong)

/-- 'quadratlaw13.MoldBack': WHATEVER THE INPUT: true; the input reads as it did. -/
def moldBackSpec : ChangeSpec := { name := "moldBack", fn := fun _ => fun
  | [d1, d2] => { results := [.lit (.bool true)], args := [d1, d2] }
  | _ => none }
def moldBackRow : OpenClaim := { program := "ytceooipljhjpaaa", sum := "07ce7762419bc6fe362cbf6af6e83669c5d66282b6fb32952a726094b531a706", func := "quadrat/quadratlaw13.MoldBack", spec := "moldBack", unfollowed := true, recurses := true, apart := false }
def MoldBackSaid : Prop := moldBackRow.holds Try.pinned (OpenSpec.ofChange moldBackSpec)

/-- ITS FALSE NEIGHBOUR: 'it returns false'. Refute it at one input. -/
def moldBackWrong : ChangeSpec := { name := "moldBack", fn := fun _ => fun
  | [d1, d2] => { results := [.lit (.bool false)], args := [d1, d2] }
  | _ => none }
def MoldBackWrongFalsely : Prop := moldBackRow.holds Try.pinned (OpenSpec.ofChange moldBackWrong)

/-- 'quadratlaw13.MoldCounts': WHATEVER THE INPUT: true; the input reads as it did. -/
def moldCountsSpec : ChangeSpec := { name := "moldCounts", fn := fun _ => fun
  | [d1, d2, d3] => { results := [.lit (.bool true)], args := [d1, d2, d3] }
  | _ => none }
def moldCountsRow : OpenClaim := { program := "ytceooipljhjpaaa", sum := "07ce7762419bc6fe362cbf6af6e83669c5d66282b6fb32952a726094b531a706", func := "quadrat/quadratlaw13.MoldCounts", spec := "moldCounts", unfollowed := true, recurses := true, apart := false }
def MoldCountsSaid : Prop := moldCountsRow.holds Try.pinned (OpenSpec.ofChange moldCountsSpec)

/-- ITS FALSE NEIGHBOUR: 'it returns false'. Refute it at one input. -/
def moldCountsWrong : ChangeSpec := { name := "moldCounts", fn := fun _ => fun
  | [d1, d2, d3] => { results := [.lit (.bool false)], args := [d1, d2, d3] }
  | _ => none }
def MoldCountsWrongFalsely : Prop := moldCountsRow.holds Try.pinned (OpenSpec.ofChange moldCountsWrong)

/-- 'quadratlaw13.MoldIota': WHATEVER THE INPUT: true; the input reads as it did. -/
def moldIotaSpec : ChangeSpec := { name := "moldIota", fn := fun _ => fun
  | [d1, d2] => { results := [.lit (.bool true)], args := [d1, d2] }
  | _ => none }
def moldIotaRow : OpenClaim := { program := "ytceooipljhjpaaa", sum := "07ce7762419bc6fe362cbf6af6e83669c5d66282b6fb32952a726094b531a706", func := "quadrat/quadratlaw13.MoldIota", spec := "moldIota", unfollowed := true, recurses := true, apart := false }
def MoldIotaSaid : Prop := moldIotaRow.holds Try.pinned (OpenSpec.ofChange moldIotaSpec)

/-- ITS FALSE NEIGHBOUR: 'it returns false'. Refute it at one input. -/
def moldIotaWrong : ChangeSpec := { name := "moldIota", fn := fun _ => fun
  | [d1, d2] => { results := [.lit (.bool false)], args := [d1, d2] }
  | _ => none }
def MoldIotaWrongFalsely : Prop := moldIotaRow.holds Try.pinned (OpenSpec.ofChange moldIotaWrong)

/-- 'quadratlaw13.MoldMakes': WHATEVER THE INPUT: true; the input reads as it did. -/
def moldMakesSpec : ChangeSpec := { name := "moldMakes", fn := fun _ => fun
  | [d1, d2] => { results := [.lit (.bool true)], args := [d1, d2] }
  | _ => none }
def moldMakesRow : OpenClaim := { program := "ytceooipljhjpaaa", sum := "07ce7762419bc6fe362cbf6af6e83669c5d66282b6fb32952a726094b531a706", func := "quadrat/quadratlaw13.MoldMakes", spec := "moldMakes", unfollowed := true, recurses := true, apart := false }
def MoldMakesSaid : Prop := moldMakesRow.holds Try.pinned (OpenSpec.ofChange moldMakesSpec)

/-- ITS FALSE NEIGHBOUR: 'it returns false'. Refute it at one input. -/
def moldMakesWrong : ChangeSpec := { name := "moldMakes", fn := fun _ => fun
  | [d1, d2] => { results := [.lit (.bool false)], args := [d1, d2] }
  | _ => none }
def MoldMakesWrongFalsely : Prop := moldMakesRow.holds Try.pinned (OpenSpec.ofChange moldMakesWrong)

/-- 'quadratlaw13.MoldNames': WHATEVER THE INPUT: true; the input reads as it did. -/
def moldNamesSpec : ChangeSpec := { name := "moldNames", fn := fun _ => fun
  | [] => { results := [.lit (.bool true)], args := [] }
  | _ => none }
def moldNamesRow : OpenClaim := { program := "ytceooipljhjpaaa", sum := "07ce7762419bc6fe362cbf6af6e83669c5d66282b6fb32952a726094b531a706", func := "quadrat/quadratlaw13.MoldNames", spec := "moldNames", unfollowed := true, recurses := true, apart := false }
def MoldNamesSaid : Prop := moldNamesRow.holds Try.pinned (OpenSpec.ofChange moldNamesSpec)

/-- ITS FALSE NEIGHBOUR: 'it returns false'. Refute it at one input. -/
def moldNamesWrong : ChangeSpec := { name := "moldNames", fn := fun _ => fun
  | [] => { results := [.lit (.bool false)], args := [] }
  | _ => none }
def MoldNamesWrongFalsely : Prop := moldNamesRow.holds Try.pinned (OpenSpec.ofChange moldNamesWrong)

/- THE SECOND FORM. 'bulk': how many values and letters a reading holds, each counted each time it is reached (what is shared counts as often as it is met; a slice's spare places count too). A statement '..UptoSaid' is the law's where the arguments, and the package variables that the reading takes, are together of bulk at most 1048576: NARROWER than '..Said'. Prove '..Said' where nothing that the law and all that it calls make is longer than what came in: it says more and counts as full. Else prove '..UptoSaid'. A law counts once. -/
mutual
def uptoBulk {H : Type} : DataW H → Nat
  | .lit (.string bytes) => bytes.length + 1
  | .lit _ => 1
  | .nil => 1
  | .ptr d => uptoBulk d + 1
  | .slice elems spare => uptoBulkAll elems + uptoBulkAll spare + 1
  | .agg parts => uptoBulkAll parts + 1
  | .iface _ d => uptoBulk d + 1
  | .map entries => uptoBulkEntries entries + 1
  | .held _ => 1
def uptoBulkAll {H : Type} : List (DataW H) → Nat
  | [] => 0
  | d :: r => uptoBulk d + uptoBulkAll r
def uptoBulkEntries {H : Type} : List (Lit × DataW H) → Nat
  | [] => 0
  | x :: r => uptoBulkEntry x + uptoBulkEntries r
def uptoBulkEntry {H : Type} : Lit × DataW H → Nat
  | (.string bytes, d) => bytes.length + uptoBulk d + 1
  | (_, d) => uptoBulk d + 1
 end
def uptoSmall : (H : Type) → List (DataW H) → Bool := fun _ ds => decide (uptoBulkAll ds ≤ 1048576)
def OpenSpec.upto (s : _root_.Go.ChangeSpec) : _root_.Go.OpenSpec := { _root_.Go.OpenSpec.ofChange s with cond := some uptoSmall }

/-- 'quadratlaw13.MoldWays', WHERE WHAT IT READS IS OF BULK AT MOST 1048576: true; the input reads as it did. -/
def moldWaysUptoRow : OpenClaim := { program := "ytceooipljhjpaaa", sum := "07ce7762419bc6fe362cbf6af6e83669c5d66282b6fb32952a726094b531a706", func := "quadrat/quadratlaw13.MoldWays", spec := "moldWays", unfollowed := true, recurses := true, apart := false, narrowed := true }
def MoldWaysUptoSaid : Prop := moldWaysUptoRow.holds Try.pinned (OpenSpec.upto moldWaysSpec)

/-- 'quadratlaw13.MoldParts', WHERE WHAT IT READS IS OF BULK AT MOST 1048576: true; the input reads as it did. -/
def moldPartsUptoRow : OpenClaim := { program := "ytceooipljhjpaaa", sum := "07ce7762419bc6fe362cbf6af6e83669c5d66282b6fb32952a726094b531a706", func := "quadrat/quadratlaw13.MoldParts", spec := "moldParts", unfollowed := true, recurses := true, apart := false, narrowed := true }
def MoldPartsUptoSaid : Prop := moldPartsUptoRow.holds Try.pinned (OpenSpec.upto moldPartsSpec)

/-- 'quadratlaw13.MoldTells', WHERE WHAT IT READS IS OF BULK AT MOST 1048576: true; the input reads as it did. -/
def moldTellsUptoRow : OpenClaim := { program := "ytceooipljhjpaaa", sum := "07ce7762419bc6fe362cbf6af6e83669c5d66282b6fb32952a726094b531a706", func := "quadrat/quadratlaw13.MoldTells", spec := "moldTells", unfollowed := true, recurses := true, apart := false, narrowed := true }
def MoldTellsUptoSaid : Prop := moldTellsUptoRow.holds Try.pinned (OpenSpec.upto moldTellsSpec)

/-- 'quadratlaw13.MoldBack', WHERE WHAT IT READS IS OF BULK AT MOST 1048576: true; the input reads as it did. -/
def moldBackUptoRow : OpenClaim := { program := "ytceooipljhjpaaa", sum := "07ce7762419bc6fe362cbf6af6e83669c5d66282b6fb32952a726094b531a706", func := "quadrat/quadratlaw13.MoldBack", spec := "moldBack", unfollowed := true, recurses := true, apart := false, narrowed := true }
def MoldBackUptoSaid : Prop := moldBackUptoRow.holds Try.pinned (OpenSpec.upto moldBackSpec)

/-- 'quadratlaw13.MoldCounts', WHERE WHAT IT READS IS OF BULK AT MOST 1048576: true; the input reads as it did. -/
def moldCountsUptoRow : OpenClaim := { program := "ytceooipljhjpaaa", sum := "07ce7762419bc6fe362cbf6af6e83669c5d66282b6fb32952a726094b531a706", func := "quadrat/quadratlaw13.MoldCounts", spec := "moldCounts", unfollowed := true, recurses := true, apart := false, narrowed := true }
def MoldCountsUptoSaid : Prop := moldCountsUptoRow.holds Try.pinned (OpenSpec.upto moldCountsSpec)

/-- 'quadratlaw13.MoldIota', WHERE WHAT IT READS IS OF BULK AT MOST 1048576: true; the input reads as it did. -/
def moldIotaUptoRow : OpenClaim := { program := "ytceooipljhjpaaa", sum := "07ce7762419bc6fe362cbf6af6e83669c5d66282b6fb32952a726094b531a706", func := "quadrat/quadratlaw13.MoldIota", spec := "moldIota", unfollowed := true, recurses := true, apart := false, narrowed := true }
def MoldIotaUptoSaid : Prop := moldIotaUptoRow.holds Try.pinned (OpenSpec.upto moldIotaSpec)

/-- 'quadratlaw13.MoldMakes', WHERE WHAT IT READS IS OF BULK AT MOST 1048576: true; the input reads as it did. -/
def moldMakesUptoRow : OpenClaim := { program := "ytceooipljhjpaaa", sum := "07ce7762419bc6fe362cbf6af6e83669c5d66282b6fb32952a726094b531a706", func := "quadrat/quadratlaw13.MoldMakes", spec := "moldMakes", unfollowed := true, recurses := true, apart := false, narrowed := true }
def MoldMakesUptoSaid : Prop := moldMakesUptoRow.holds Try.pinned (OpenSpec.upto moldMakesSpec)

/-- 'quadratlaw13.MoldNames', WHERE WHAT IT READS IS OF BULK AT MOST 1048576: true; the input reads as it did. -/
def moldNamesUptoRow : OpenClaim := { program := "ytceooipljhjpaaa", sum := "07ce7762419bc6fe362cbf6af6e83669c5d66282b6fb32952a726094b531a706", func := "quadrat/quadratlaw13.MoldNames", spec := "moldNames", unfollowed := true, recurses := true, apart := false, narrowed := true }
def MoldNamesUptoSaid : Prop := moldNamesUptoRow.holds Try.pinned (OpenSpec.upto moldNamesSpec)

end Rows
end Go.Proofs.Ytceooipljhjpaaa
