/-
  No cell of these rows narrows 'for every input' (looked for: loops, veiled, ifaces, maps, wideKeys, modest, calm, conditions, laid).
  DERIVED. THE GIVEN ROWS OF THIS SEAT. 5 by the template 'for every input the law returns true; each argument reads behind the call as it read before'; 0 by the template 'total and deterministic' (their statements: YteiahfpnjjdkoaaTotals.lean).
  GIVEN WITH THE SEED: the statements are not yours to turn. If you find one false, say at which input.
  Laid BY PROGRAM, IN A SANDBOX (cutbox-rows.mjs): the forced cells as the released guide's own fill.sh prints them over the translation 9669f72bdb9994ee… (all of the seat's roots in one cut). By AI agents, Wed Nov 11 2026. No macro, syntax, notation, axiom, sorry.
-/
import Derived.Test.YteiahfpnjjdkoaaChecked
import GoSem.Claim
import GoSem.ClaimJoined
import GoSem.ClaimMapViews
import Derived.JoinedTies
import Derived.KernelRfl
namespace Go.Proofs.Yteiahfpnjjdkoaa
/- THE CELL 'sum', in the pinned program and in every row, IS THE sha256 OF THE DUMP (.gsa) THAT YteiahfpnjjdkoaaProg.lean LOADS. Nothing in Lean hashes anything: it is a label: what it is worth is what the hold of that sum in a sandbox is worth. -/
noncomputable def Try.pinned : Pinned := { name := "yteiahfpnjjdkoaa", sum := "9669f72bdb9994ee2c5fd1bd71080dc8b83e5bcfc7230cca2670a377f114f996", checked := Try.checked }
namespace Rows
def none {H : Type} : Left H := { results := [], args := [] }

/-- 'carryoverlaw15.LaxChecks': WHATEVER THE INPUT: true; the input reads as it did. -/
def laxChecksSpec : ChangeSpec := { name := "laxChecks", fn := fun _ => fun
  | [d1, d2, d3, d4, d5] => { results := [.lit (.bool true)], args := [d1, d2, d3, d4, d5] }
  | _ => none }
def laxChecksRow : OpenClaim := { program := "yteiahfpnjjdkoaa", sum := "9669f72bdb9994ee2c5fd1bd71080dc8b83e5bcfc7230cca2670a377f114f996", func := "carryover/carryoverlaw15.LaxChecks", spec := "laxChecks", inPlace := ["math.Float64frombits", "math.Float64bits"], unfollowed := true, recurses := true, apart := false }
def LaxChecksSaid : Prop := laxChecksRow.holds Try.pinned (OpenSpec.ofChange laxChecksSpec)

/-- ITS FALSE NEIGHBOUR: 'it returns false'. Refute it at one input. -/
def laxChecksWrong : ChangeSpec := { name := "laxChecks", fn := fun _ => fun
  | [d1, d2, d3, d4, d5] => { results := [.lit (.bool false)], args := [d1, d2, d3, d4, d5] }
  | _ => none }
def LaxChecksWrongFalsely : Prop := laxChecksRow.holds Try.pinned (OpenSpec.ofChange laxChecksWrong)

/-- 'carryoverlaw15.LaxErrors': WHATEVER THE INPUT: true; the input reads as it did. -/
def laxErrorsSpec : ChangeSpec := { name := "laxErrors", fn := fun _ => fun
  | [d1, d2, d3, d4, d5] => { results := [.lit (.bool true)], args := [d1, d2, d3, d4, d5] }
  | _ => none }
def laxErrorsRow : OpenClaim := { program := "yteiahfpnjjdkoaa", sum := "9669f72bdb9994ee2c5fd1bd71080dc8b83e5bcfc7230cca2670a377f114f996", func := "carryover/carryoverlaw15.LaxErrors", spec := "laxErrors", inPlace := ["math.Float64frombits", "math.Float64bits"], unfollowed := true, recurses := true, apart := false }
def LaxErrorsSaid : Prop := laxErrorsRow.holds Try.pinned (OpenSpec.ofChange laxErrorsSpec)

/-- ITS FALSE NEIGHBOUR: 'it returns false'. Refute it at one input. -/
def laxErrorsWrong : ChangeSpec := { name := "laxErrors", fn := fun _ => fun
  | [d1, d2, d3, d4, d5] => { results := [.lit (.bool false)], args := [d1, d2, d3, d4, d5] }
  | _ => none }
def LaxErrorsWrongFalsely : Prop := laxErrorsRow.holds Try.pinned (OpenSpec.ofChange laxErrorsWrong)

/-- 'carryoverlaw16.ScanGate': WHATEVER THE INPUT: true; the input reads as it did. -/
def scanGateSpec : ChangeSpec := { name := "scanGate", fn := fun _ => fun
  | [d1, d2, d3] => { results := [.lit (.bool true)], args := [d1, d2, d3] }
  | _ => none }
def scanGateRow : OpenClaim := { program := "yteiahfpnjjdkoaa", sum := "9669f72bdb9994ee2c5fd1bd71080dc8b83e5bcfc7230cca2670a377f114f996", func := "carryover/carryoverlaw16.ScanGate", spec := "scanGate", inPlace := ["math.Float64frombits"], unfollowed := true, recurses := true, apart := false }
def ScanGateSaid : Prop := scanGateRow.holds Try.pinned (OpenSpec.ofChange scanGateSpec)

/-- ITS FALSE NEIGHBOUR: 'it returns false'. Refute it at one input. -/
def scanGateWrong : ChangeSpec := { name := "scanGate", fn := fun _ => fun
  | [d1, d2, d3] => { results := [.lit (.bool false)], args := [d1, d2, d3] }
  | _ => none }
def ScanGateWrongFalsely : Prop := scanGateRow.holds Try.pinned (OpenSpec.ofChange scanGateWrong)

/-- 'carryoverlaw15.LaxTells': WHATEVER THE INPUT: true; the input reads as it did. -/
def laxTellsSpec : ChangeSpec := { name := "laxTells", fn := fun _ => fun
  | [d1, d2, d3, d4] => { results := [.lit (.bool true)], args := [d1, d2, d3, d4] }
  | _ => none }
def laxTellsRow : OpenClaim := { program := "yteiahfpnjjdkoaa", sum := "9669f72bdb9994ee2c5fd1bd71080dc8b83e5bcfc7230cca2670a377f114f996", func := "carryover/carryoverlaw15.LaxTells", spec := "laxTells", inPlace := ["math.Float64frombits", "math.Float64bits"], unfollowed := true, recurses := true, apart := false }
def LaxTellsSaid : Prop := laxTellsRow.holds Try.pinned (OpenSpec.ofChange laxTellsSpec)

/-- ITS FALSE NEIGHBOUR: 'it returns false'. Refute it at one input. -/
def laxTellsWrong : ChangeSpec := { name := "laxTells", fn := fun _ => fun
  | [d1, d2, d3, d4] => { results := [.lit (.bool false)], args := [d1, d2, d3, d4] }
  | _ => none }
def LaxTellsWrongFalsely : Prop := laxTellsRow.holds Try.pinned (OpenSpec.ofChange laxTellsWrong)

/-- 'carryoverlaw15.LaxPrefix': WHATEVER THE INPUT: true; the input reads as it did. -/
def laxPrefixSpec : ChangeSpec := { name := "laxPrefix", fn := fun _ => fun
  | [d1, d2, d3, d4] => { results := [.lit (.bool true)], args := [d1, d2, d3, d4] }
  | _ => none }
def laxPrefixRow : OpenClaim := { program := "yteiahfpnjjdkoaa", sum := "9669f72bdb9994ee2c5fd1bd71080dc8b83e5bcfc7230cca2670a377f114f996", func := "carryover/carryoverlaw15.LaxPrefix", spec := "laxPrefix", inPlace := ["math.Float64frombits", "math.Float64bits"], unfollowed := true, recurses := true, apart := false }
def LaxPrefixSaid : Prop := laxPrefixRow.holds Try.pinned (OpenSpec.ofChange laxPrefixSpec)

/-- ITS FALSE NEIGHBOUR: 'it returns false'. Refute it at one input. -/
def laxPrefixWrong : ChangeSpec := { name := "laxPrefix", fn := fun _ => fun
  | [d1, d2, d3, d4] => { results := [.lit (.bool false)], args := [d1, d2, d3, d4] }
  | _ => none }
def LaxPrefixWrongFalsely : Prop := laxPrefixRow.holds Try.pinned (OpenSpec.ofChange laxPrefixWrong)

/- THE SECOND FORM. 'bulk': how many values and letters a reading holds, each counted each time it is reached (what is shared counts as often as it is met; a slice's spare places count too). A statement '..UptoSaid' is the law's where the arguments, and the package variables that the reading takes, are together of bulk at most 1048576: NARROWER than '..Said'. Prove '..Said' where nothing that the law and all that it calls make is longer than what came in: it says more and counts as full. Else prove '..UptoSaid'. A law counts once. -/
mutual
def uptoBulk {H : Type} : DataW H → Nat
  | .lit (.string bytes) => bytes.length + 1
  | .lit _ => 1
  | .nil => 1
  | .ptr d => uptoBulk d + 1
  | .slice elems spare => uptoBulkAll elems + uptoBulkAll spare + 1
  | .agg parts => uptoBulkAll parts + 1
  | .iface _ d => uptoBulk d + 1
  | .map entries => uptoBulkEntries entries + 1
  | .held _ => 1
def uptoBulkAll {H : Type} : List (DataW H) → Nat
  | [] => 0
  | d :: r => uptoBulk d + uptoBulkAll r
def uptoBulkEntries {H : Type} : List (Lit × DataW H) → Nat
  | [] => 0
  | x :: r => uptoBulkEntry x + uptoBulkEntries r
def uptoBulkEntry {H : Type} : Lit × DataW H → Nat
  | (.string bytes, d) => bytes.length + uptoBulk d + 1
  | (_, d) => uptoBulk d + 1
 end
def uptoSmall : (H : Type) → List (DataW H) → Bool := fun _ ds => decide (uptoBulkAll ds ≤ 1048576)
def OpenSpec.upto (s : _root_.Go.ChangeSpec) : _root_.Go.OpenSpec := { _root_.Go.OpenSpec.ofChange s with cond := some uptoSmall }

/-- 'carryoverlaw15.LaxChecks', WHERE WHAT IT READS IS OF BULK AT MOST 1048576: true; the input reads as it did. -/
def laxChecksUptoRow : OpenClaim := { program := "yteiahfpnjjdkoaa", sum := "9669f72bdb9994ee2c5fd1bd71080dc8b83e5bcfc7230cca2670a377f114f996", func := "carryover/carryoverlaw15.LaxChecks", spec := "laxChecks", inPlace := ["math.Float64frombits", "math.Float64bits"], unfollowed := true, recurses := true, apart := false, narrowed := true }
def LaxChecksUptoSaid : Prop := laxChecksUptoRow.holds Try.pinned (OpenSpec.upto laxChecksSpec)

/-- 'carryoverlaw15.LaxErrors', WHERE WHAT IT READS IS OF BULK AT MOST 1048576: true; the input reads as it did. -/
def laxErrorsUptoRow : OpenClaim := { program := "yteiahfpnjjdkoaa", sum := "9669f72bdb9994ee2c5fd1bd71080dc8b83e5bcfc7230cca2670a377f114f996", func := "carryover/carryoverlaw15.LaxErrors", spec := "laxErrors", inPlace := ["math.Float64frombits", "math.Float64bits"], unfollowed := true, recurses := true, apart := false, narrowed := true }
def LaxErrorsUptoSaid : Prop := laxErrorsUptoRow.holds Try.pinned (OpenSpec.upto laxErrorsSpec)

/-- 'carryoverlaw16.ScanGate', WHERE WHAT IT READS IS OF BULK AT MOST 1048576: true; the input reads as it did. -/
def scanGateUptoRow : OpenClaim := { program := "yteiahfpnjjdkoaa", sum := "9669f72bdb9994ee2c5fd1bd71080dc8b83e5bcfc7230cca2670a377f114f996", func := "carryover/carryoverlaw16.ScanGate", spec := "scanGate", inPlace := ["math.Float64frombits"], unfollowed := true, recurses := true, apart := false, narrowed := true }
def ScanGateUptoSaid : Prop := scanGateUptoRow.holds Try.pinned (OpenSpec.upto scanGateSpec)

/-- 'carryoverlaw15.LaxTells', WHERE WHAT IT READS IS OF BULK AT MOST 1048576: true; the input reads as it did. -/
def laxTellsUptoRow : OpenClaim := { program := "yteiahfpnjjdkoaa", sum := "9669f72bdb9994ee2c5fd1bd71080dc8b83e5bcfc7230cca2670a377f114f996", func := "carryover/carryoverlaw15.LaxTells", spec := "laxTells", inPlace := ["math.Float64frombits", "math.Float64bits"], unfollowed := true, recurses := true, apart := false, narrowed := true }
def LaxTellsUptoSaid : Prop := laxTellsUptoRow.holds Try.pinned (OpenSpec.upto laxTellsSpec)

/-- 'carryoverlaw15.LaxPrefix', WHERE WHAT IT READS IS OF BULK AT MOST 1048576: true; the input reads as it did. -/
def laxPrefixUptoRow : OpenClaim := { program := "yteiahfpnjjdkoaa", sum := "9669f72bdb9994ee2c5fd1bd71080dc8b83e5bcfc7230cca2670a377f114f996", func := "carryover/carryoverlaw15.LaxPrefix", spec := "laxPrefix", inPlace := ["math.Float64frombits", "math.Float64bits"], unfollowed := true, recurses := true, apart := false, narrowed := true }
def LaxPrefixUptoSaid : Prop := laxPrefixUptoRow.holds Try.pinned (OpenSpec.upto laxPrefixSpec)

end Rows
end Go.Proofs.Yteiahfpnjjdkoaa
