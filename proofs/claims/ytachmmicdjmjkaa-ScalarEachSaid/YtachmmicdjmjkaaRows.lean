/-
  No cell of these rows narrows 'for every input' (looked for: loops, veiled, ifaces, maps, wideKeys, modest, calm, conditions, laid).
  DERIVED. THE GIVEN ROWS OF THIS SEAT. 8 by the template 'for every input the law returns true; each argument reads behind the call as it read before'; 0 by the template 'total and deterministic' (their statements: YtachmmicdjmjkaaTotals.lean).
  GIVEN WITH THE SEED: the statements are not yours to turn. If you find one false, say at which input.
  Laid BY PROGRAM, IN A SANDBOX (cutbox-rows.mjs): the forced cells as the released guide's own fill.sh prints them over the translation 30dcc53f641ac5fc… (all of the seat's roots in one cut). By AI agents, Wed Nov 11 2026. No macro, syntax, notation, axiom, sorry.
-/
import Derived.Test.YtachmmicdjmjkaaChecked
import GoSem.Claim
import GoSem.ClaimJoined
import GoSem.ClaimMapViews
import Derived.JoinedTies
import Derived.KernelRfl
namespace Go.Proofs.Ytachmmicdjmjkaa
/- THE CELL 'sum', in the pinned program and in every row, IS THE sha256 OF THE DUMP (.gsa) THAT YtachmmicdjmjkaaProg.lean LOADS. Nothing in Lean hashes anything: it is a label: what it is worth is what the hold of that sum in a sandbox is worth. -/
noncomputable def Try.pinned : Pinned := { name := "ytachmmicdjmjkaa", sum := "30dcc53f641ac5fcff2282fba956a05eef6c04c85bd5ff1ef6726da8715fd0b8", checked := Try.checked }
namespace Rows
def none {H : Type} : Left H := { results := [], args := [] }

/-- 'quadratlaw12.ScalarPowers': WHATEVER THE INPUT: true; the input reads as it did. -/
def scalarPowersSpec : ChangeSpec := { name := "scalarPowers", fn := fun _ => fun
  | [d1, d2] => { results := [.lit (.bool true)], args := [d1, d2] }
  | _ => none }
def scalarPowersRow : OpenClaim := { program := "ytachmmicdjmjkaa", sum := "30dcc53f641ac5fcff2282fba956a05eef6c04c85bd5ff1ef6726da8715fd0b8", func := "quadrat/quadratlaw12.ScalarPowers", spec := "scalarPowers", unfollowed := true, recurses := true, apart := false }
def ScalarPowersSaid : Prop := scalarPowersRow.holds Try.pinned (OpenSpec.ofChange scalarPowersSpec)

/-- ITS FALSE NEIGHBOUR: 'it returns false'. Refute it at one input. -/
def scalarPowersWrong : ChangeSpec := { name := "scalarPowers", fn := fun _ => fun
  | [d1, d2] => { results := [.lit (.bool false)], args := [d1, d2] }
  | _ => none }
def ScalarPowersWrongFalsely : Prop := scalarPowersRow.holds Try.pinned (OpenSpec.ofChange scalarPowersWrong)

/-- 'quadratlaw12.ScalarOrder': WHATEVER THE INPUT: true; the input reads as it did. -/
def scalarOrderSpec : ChangeSpec := { name := "scalarOrder", fn := fun _ => fun
  | [d1, d2] => { results := [.lit (.bool true)], args := [d1, d2] }
  | _ => none }
def scalarOrderRow : OpenClaim := { program := "ytachmmicdjmjkaa", sum := "30dcc53f641ac5fcff2282fba956a05eef6c04c85bd5ff1ef6726da8715fd0b8", func := "quadrat/quadratlaw12.ScalarOrder", spec := "scalarOrder", unfollowed := true, recurses := true, apart := false }
def ScalarOrderSaid : Prop := scalarOrderRow.holds Try.pinned (OpenSpec.ofChange scalarOrderSpec)

/-- ITS FALSE NEIGHBOUR: 'it returns false'. Refute it at one input. -/
def scalarOrderWrong : ChangeSpec := { name := "scalarOrder", fn := fun _ => fun
  | [d1, d2] => { results := [.lit (.bool false)], args := [d1, d2] }
  | _ => none }
def ScalarOrderWrongFalsely : Prop := scalarOrderRow.holds Try.pinned (OpenSpec.ofChange scalarOrderWrong)

/-- 'quadratlaw12.ScalarRest': WHATEVER THE INPUT: true; the input reads as it did. -/
def scalarRestSpec : ChangeSpec := { name := "scalarRest", fn := fun _ => fun
  | [d1, d2, d3] => { results := [.lit (.bool true)], args := [d1, d2, d3] }
  | _ => none }
def scalarRestRow : OpenClaim := { program := "ytachmmicdjmjkaa", sum := "30dcc53f641ac5fcff2282fba956a05eef6c04c85bd5ff1ef6726da8715fd0b8", func := "quadrat/quadratlaw12.ScalarRest", spec := "scalarRest", unfollowed := true, recurses := true, apart := false }
def ScalarRestSaid : Prop := scalarRestRow.holds Try.pinned (OpenSpec.ofChange scalarRestSpec)

/-- ITS FALSE NEIGHBOUR: 'it returns false'. Refute it at one input. -/
def scalarRestWrong : ChangeSpec := { name := "scalarRest", fn := fun _ => fun
  | [d1, d2, d3] => { results := [.lit (.bool false)], args := [d1, d2, d3] }
  | _ => none }
def ScalarRestWrongFalsely : Prop := scalarRestRow.holds Try.pinned (OpenSpec.ofChange scalarRestWrong)

/-- 'quadratlaw12.ScalarWhole': WHATEVER THE INPUT: true; the input reads as it did. -/
def scalarWholeSpec : ChangeSpec := { name := "scalarWhole", fn := fun _ => fun
  | [d1, d2] => { results := [.lit (.bool true)], args := [d1, d2] }
  | _ => none }
def scalarWholeRow : OpenClaim := { program := "ytachmmicdjmjkaa", sum := "30dcc53f641ac5fcff2282fba956a05eef6c04c85bd5ff1ef6726da8715fd0b8", func := "quadrat/quadratlaw12.ScalarWhole", spec := "scalarWhole", inPlace := ["math/bits.Add64"], unfollowed := true, recurses := true, apart := false }
def ScalarWholeSaid : Prop := scalarWholeRow.holds Try.pinned (OpenSpec.ofChange scalarWholeSpec)

/-- ITS FALSE NEIGHBOUR: 'it returns false'. Refute it at one input. -/
def scalarWholeWrong : ChangeSpec := { name := "scalarWhole", fn := fun _ => fun
  | [d1, d2] => { results := [.lit (.bool false)], args := [d1, d2] }
  | _ => none }
def ScalarWholeWrongFalsely : Prop := scalarWholeRow.holds Try.pinned (OpenSpec.ofChange scalarWholeWrong)

/-- 'quadratlaw12.ScalarSigns': WHATEVER THE INPUT: true; the input reads as it did. -/
def scalarSignsSpec : ChangeSpec := { name := "scalarSigns", fn := fun _ => fun
  | [d1, d2] => { results := [.lit (.bool true)], args := [d1, d2] }
  | _ => none }
def scalarSignsRow : OpenClaim := { program := "ytachmmicdjmjkaa", sum := "30dcc53f641ac5fcff2282fba956a05eef6c04c85bd5ff1ef6726da8715fd0b8", func := "quadrat/quadratlaw12.ScalarSigns", spec := "scalarSigns", unfollowed := true, recurses := true, apart := false }
def ScalarSignsSaid : Prop := scalarSignsRow.holds Try.pinned (OpenSpec.ofChange scalarSignsSpec)

/-- ITS FALSE NEIGHBOUR: 'it returns false'. Refute it at one input. -/
def scalarSignsWrong : ChangeSpec := { name := "scalarSigns", fn := fun _ => fun
  | [d1, d2] => { results := [.lit (.bool false)], args := [d1, d2] }
  | _ => none }
def ScalarSignsWrongFalsely : Prop := scalarSignsRow.holds Try.pinned (OpenSpec.ofChange scalarSignsWrong)

/-- 'quadratlaw12.ScalarTruths': WHATEVER THE INPUT: true; the input reads as it did. -/
def scalarTruthsSpec : ChangeSpec := { name := "scalarTruths", fn := fun _ => fun
  | [d1, d2] => { results := [.lit (.bool true)], args := [d1, d2] }
  | _ => none }
def scalarTruthsRow : OpenClaim := { program := "ytachmmicdjmjkaa", sum := "30dcc53f641ac5fcff2282fba956a05eef6c04c85bd5ff1ef6726da8715fd0b8", func := "quadrat/quadratlaw12.ScalarTruths", spec := "scalarTruths", unfollowed := true, recurses := true, apart := false }
def ScalarTruthsSaid : Prop := scalarTruthsRow.holds Try.pinned (OpenSpec.ofChange scalarTruthsSpec)

/-- ITS FALSE NEIGHBOUR: 'it returns false'. Refute it at one input. -/
def scalarTruthsWrong : ChangeSpec := { name := "scalarTruths", fn := fun _ => fun
  | [d1, d2] => { results := [.lit (.bool false)], args := [d1, d2] }
  | _ => none }
def ScalarTruthsWrongFalsely : Prop := scalarTruthsRow.holds Try.pinned (OpenSpec.ofChange scalarTruthsWrong)

/-- 'quadratlaw12.ScalarEach': WHATEVER THE INPUT: true; the input reads as it did. -/
def scalarEachSpec : ChangeSpec := { name := "scalarEach", fn := fun _ => fun
  | [d1, d2, d3] => { results := [.lit (.bool true)], args := [d1, d2, d3] }
  | _ => none }
def scalarEachRow : OpenClaim := { program := "ytachmmicdjmjkaa", sum := "30dcc53f641ac5fcff2282fba956a05eef6c04c85bd5ff1ef6726da8715fd0b8", func := "quadrat/quadratlaw12.ScalarEach", spec := "scalarEach", unfollowed := true, recurses := true, apart := false }
def ScalarEachSaid : Prop := scalarEachRow.holds Try.pinned (OpenSpec.ofChange scalarEachSpec)

/-- ITS FALSE NEIGHBOUR: 'it returns false'. Refute it at one input. -/
def scalarEachWrong : ChangeSpec := { name := "scalarEach", fn := fun _ => fun
  | [d1, d2, d3] => { results := [.lit (.bool false)], args := [d1, d2, d3] }
  | _ => none }
def ScalarEachWrongFalsely : Prop := scalarEachRow.holds Try.pinned (OpenSpec.ofChange scalarEachWrong)

/-- 'quadratlaw12.ScalarMaps': WHATEVER THE INPUT: true; the input reads as it did. -/
def scalarMapsSpec : ChangeSpec := { name := "scalarMaps", fn := fun _ => fun
  | [d1, d2, d3] => { results := [.lit (.bool true)], args := [d1, d2, d3] }
  | _ => none }
def scalarMapsRow : OpenClaim := { program := "ytachmmicdjmjkaa", sum := "30dcc53f641ac5fcff2282fba956a05eef6c04c85bd5ff1ef6726da8715fd0b8", func := "quadrat/quadratlaw12.ScalarMaps", spec := "scalarMaps", unfollowed := true, recurses := true, apart := false }
def ScalarMapsSaid : Prop := scalarMapsRow.holds Try.pinned (OpenSpec.ofChange scalarMapsSpec)

/-- ITS FALSE NEIGHBOUR: 'it returns false'. Refute it at one input. -/
def scalarMapsWrong : ChangeSpec := { name := "scalarMaps", fn := fun _ => fun
  | [d1, d2, d3] => { results := [.lit (.bool false)], args := [d1, d2, d3] }
  | _ => none }
def ScalarMapsWrongFalsely : Prop := scalarMapsRow.holds Try.pinned (OpenSpec.ofChange scalarMapsWrong)

/- THE SECOND FORM. 'bulk': how many values and letters a reading holds, each counted each time it is reached (what is shared counts as often as it is met; a slice's spare places count too). A statement '..UptoSaid' is the law's where the arguments, and the package variables that the reading takes, are together of bulk at most 1048576: NARROWER than '..Said'. Prove '..Said' where nothing that the law and all that it calls make is longer than what came in: it says more and counts as full. Else prove '..UptoSaid'. A law counts once. -/
mutual
def uptoBulk {H : Type} : DataW H → Nat
  | .lit (.string bytes) => bytes.length + 1
  | .lit _ => 1
  | .nil => 1
  | .ptr d => uptoBulk d + 1
  | .slice elems spare => uptoBulkAll elems + uptoBulkAll spare + 1
  | .agg parts => uptoBulkAll parts + 1
  | .iface _ d => uptoBulk d + 1
  | .map entries => uptoBulkEntries entries + 1
  | .held _ => 1
def uptoBulkAll {H : Type} : List (DataW H) → Nat
  | [] => 0
  | d :: r => uptoBulk d + uptoBulkAll r
def uptoBulkEntries {H : Type} : List (Lit × DataW H) → Nat
  | [] => 0
  | x :: r => uptoBulkEntry x + uptoBulkEntries r
def uptoBulkEntry {H : Type} : Lit × DataW H → Nat
  | (.string bytes, d) => bytes.length + uptoBulk d + 1
  | (_, d) => uptoBulk d + 1
 end
def uptoSmall : (H : Type) → List (DataW H) → Bool := fun _ ds => decide (uptoBulkAll ds ≤ 1048576)
def OpenSpec.upto (s : _root_.Go.ChangeSpec) : _root_.Go.OpenSpec := { _root_.Go.OpenSpec.ofChange s with cond := some uptoSmall }

/-- 'quadratlaw12.ScalarPowers', WHERE WHAT IT READS IS OF BULK AT MOST 1048576: true; the input reads as it did. -/
def scalarPowersUptoRow : OpenClaim := { program := "ytachmmicdjmjkaa", sum := "30dcc53f641ac5fcff2282fba956a05eef6c04c85bd5ff1ef6726da8715fd0b8", func := "quadrat/quadratlaw12.ScalarPowers", spec := "scalarPowers", unfollowed := true, recurses := true, apart := false, narrowed := true }
def ScalarPowersUptoSaid : Prop := scalarPowersUptoRow.holds Try.pinned (OpenSpec.upto scalarPowersSpec)

/-- 'quadratlaw12.ScalarOrder', WHERE WHAT IT READS IS OF BULK AT MOST 1048576: true; the input reads as it did. -/
def scalarOrderUptoRow : OpenClaim := { program := "ytachmmicdjmjkaa", sum := "30dcc53f641ac5fcff2282fba956a05eef6c04c85bd5ff1ef6726da8715fd0b8", func := "quadrat/quadratlaw12.ScalarOrder", spec := "scalarOrder", unfollowed := true, recurses := true, apart := false, narrowed := true }
def ScalarOrderUptoSaid : Prop := scalarOrderUptoRow.holds Try.pinned (OpenSpec.upto scalarOrderSpec)

/-- 'quadratlaw12.ScalarRest', WHERE WHAT IT READS IS OF BULK AT MOST 1048576: true; the input reads as it did. -/
def scalarRestUptoRow : OpenClaim := { program := "ytachmmicdjmjkaa", sum := "30dcc53f641ac5fcff2282fba956a05eef6c04c85bd5ff1ef6726da8715fd0b8", func := "quadrat/quadratlaw12.ScalarRest", spec := "scalarRest", unfollowed := true, recurses := true, apart := false, narrowed := true }
def ScalarRestUptoSaid : Prop := scalarRestUptoRow.holds Try.pinned (OpenSpec.upto scalarRestSpec)

/-- 'quadratlaw12.ScalarWhole', WHERE WHAT IT READS IS OF BULK AT MOST 1048576: true; the input reads as it did. -/
def scalarWholeUptoRow : OpenClaim := { program := "ytachmmicdjmjkaa", sum := "30dcc53f641ac5fcff2282fba956a05eef6c04c85bd5ff1ef6726da8715fd0b8", func := "quadrat/quadratlaw12.ScalarWhole", spec := "scalarWhole", inPlace := ["math/bits.Add64"], unfollowed := true, recurses := true, apart := false, narrowed := true }
def ScalarWholeUptoSaid : Prop := scalarWholeUptoRow.holds Try.pinned (OpenSpec.upto scalarWholeSpec)

/-- 'quadratlaw12.ScalarSigns', WHERE WHAT IT READS IS OF BULK AT MOST 1048576: true; the input reads as it did. -/
def scalarSignsUptoRow : OpenClaim := { program := "ytachmmicdjmjkaa", sum := "30dcc53f641ac5fcff2282fba956a05eef6c04c85bd5ff1ef6726da8715fd0b8", func := "quadrat/quadratlaw12.ScalarSigns", spec := "scalarSigns", unfollowed := true, recurses := true, apart := false, narrowed := true }
def ScalarSignsUptoSaid : Prop := scalarSignsUptoRow.holds Try.pinned (OpenSpec.upto scalarSignsSpec)

/-- 'quadratlaw12.ScalarTruths', WHERE WHAT IT READS IS OF BULK AT MOST 1048576: true; the input reads as it did. -/
def scalarTruthsUptoRow : OpenClaim := { program := "ytachmmicdjmjkaa", sum := "30dcc53f641ac5fcff2282fba956a05eef6c04c85bd5ff1ef6726da8715fd0b8", func := "quadrat/quadratlaw12.ScalarTruths", spec := "scalarTruths", unfollowed := true, recurses := true, apart := false, narrowed := true }
def ScalarTruthsUptoSaid : Prop := scalarTruthsUptoRow.holds Try.pinned (OpenSpec.upto scalarTruthsSpec)

/-- 'quadratlaw12.ScalarEach', WHERE WHAT IT READS IS OF BULK AT MOST 1048576: true; the input reads as it did. -/
def scalarEachUptoRow : OpenClaim := { program := "ytachmmicdjmjkaa", sum := "30dcc53f641ac5fcff2282fba956a05eef6c04c85bd5ff1ef6726da8715fd0b8", func := "quadrat/quadratlaw12.ScalarEach", spec := "scalarEach", unfollowed := true, recurses := true, apart := false, narrowed := true }
def ScalarEachUptoSaid : Prop := scalarEachUptoRow.holds Try.pinned (OpenSpec.upto scalarEachSpec)

/-- 'quadratlaw12.ScalarMaps', WHERE WHAT IT READS IS OF BULK AT MOST 1048576: true; the input reads as it did. -/
def scalarMapsUptoRow : OpenClaim := { program := "ytachmmicdjmjkaa", sum := "30dcc53f641ac5fcff2282fba956a05eef6c04c85bd5ff1ef6726da8715fd0b8", func := "quadrat/quadratlaw12.ScalarMaps", spec := "scalarMaps", unfollowed := true, recurses := true, apart := false, narrowed := true }
def ScalarMapsUptoSaid : Prop := scalarMapsUptoRow.holds Try.pinned (OpenSpec.upto scalarMapsSpec)

end Rows
end Go.Proofs.Ytachmmicdjmjkaa
