/-
  No cell of these rows narrows 'for every input' (looked for: loops, veiled, ifaces, maps, wideKeys, modest, calm, conditions, laid).
  DERIVED. THE GIVEN ROWS OF THIS SEAT. 6 by the template 'for every input the law returns true; each argument reads behind the call as it read before'; 0 by the template 'total and deterministic' (their statements: YtjlaafdldgmndaaTotals.lean).
  GIVEN WITH THE SEED: the statements are not yours to turn. If you find one false, say at which input.
  Laid BY PROGRAM, IN A SANDBOX (cutbox-rows.mjs): the forced cells as the released guide's own fill.sh prints them over the translation f97c8ec92b5c3136… (all of the seat's roots in one cut). By AI agents, Wed Nov 11 2026. No macro, syntax, notation, axiom, sorry.
-/
import Derived.Test.YtjlaafdldgmndaaChecked
import GoSem.Claim
import GoSem.ClaimJoined
import GoSem.ClaimMapViews
import Derived.JoinedTies
import Derived.KernelRfl
namespace Go.Proofs.Ytjlaafdldgmndaa
/- THE CELL 'sum', in the pinned program and in every row, IS THE sha256 OF THE DUMP (.gsa) THAT YtjlaafdldgmndaaProg.lean LOADS. Nothing in Lean hashes anything: it is a label: what it is worth is what the hold of that sum in a sandbox is worth. -/
noncomputable def Try.pinned : Pinned := { name := "ytjlaafdldgmndaa", sum := "f97c8ec92b5c313602eaaefe3da70c206ae008b43b2ccd6d2be75f4ddda70024", checked := Try.checked }
namespace Rows
def none {H : Type} : Left H := { results := [], args := [] }

/-- 'carryoverlaw12.ValueAfter': WHATEVER THE INPUT: true; the input reads as it did. -/
def valueAfterSpec : ChangeSpec := { name := "valueAfter", fn := fun _ => fun
  | [d1, d2, d3, d4, d5, d6, d7] => { results := [.lit (.bool true)], args := [d1, d2, d3, d4, d5, d6, d7] }
  | _ => none }
def valueAfterRow : OpenClaim := { program := "ytjlaafdldgmndaa", sum := "f97c8ec92b5c313602eaaefe3da70c206ae008b43b2ccd6d2be75f4ddda70024", func := "carryover/carryoverlaw12.ValueAfter", spec := "valueAfter", inPlace := ["math.Float64frombits", "math.Float64bits"], unfollowed := true, recurses := true, apart := false }
def ValueAfterSaid : Prop := valueAfterRow.holds Try.pinned (OpenSpec.ofChange valueAfterSpec)

/-- ITS FALSE NEIGHBOUR: 'it returns false'. Refute it at one input. -/
def valueAfterWrong : ChangeSpec := { name := "valueAfter", fn := fun _ => fun
  | [d1, d2, d3, d4, d5, d6, d7] => { results := [.lit (.bool false)], args := [d1, d2, d3, d4, d5, d6, d7] }
  | _ => none }
def ValueAfterWrongFalsely : Prop := valueAfterRow.holds Try.pinned (OpenSpec.ofChange valueAfterWrong)

/-- 'carryoverlaw12.ValueKinds': WHATEVER THE INPUT: true; the input reads as it did. -/
def valueKindsSpec : ChangeSpec := { name := "valueKinds", fn := fun _ => fun
  | [d1, d2, d3, d4, d5, d6] => { results := [.lit (.bool true)], args := [d1, d2, d3, d4, d5, d6] }
  | _ => none }
def valueKindsRow : OpenClaim := { program := "ytjlaafdldgmndaa", sum := "f97c8ec92b5c313602eaaefe3da70c206ae008b43b2ccd6d2be75f4ddda70024", func := "carryover/carryoverlaw12.ValueKinds", spec := "valueKinds", inPlace := ["math.Float64frombits", "math.Float64bits"], unfollowed := true, recurses := true, apart := false }
def ValueKindsSaid : Prop := valueKindsRow.holds Try.pinned (OpenSpec.ofChange valueKindsSpec)

/-- ITS FALSE NEIGHBOUR: 'it returns false'. Refute it at one input. -/
def valueKindsWrong : ChangeSpec := { name := "valueKinds", fn := fun _ => fun
  | [d1, d2, d3, d4, d5, d6] => { results := [.lit (.bool false)], args := [d1, d2, d3, d4, d5, d6] }
  | _ => none }
def ValueKindsWrongFalsely : Prop := valueKindsRow.holds Try.pinned (OpenSpec.ofChange valueKindsWrong)

/-- 'carryoverlaw18.SpreadKept': WHATEVER THE INPUT: true; the input reads as it did. -/
def spreadKeptSpec : ChangeSpec := { name := "spreadKept", fn := fun _ => fun
  | [d1, d2] => { results := [.lit (.bool true)], args := [d1, d2] }
  | _ => none }
def spreadKeptRow : OpenClaim := { program := "ytjlaafdldgmndaa", sum := "f97c8ec92b5c313602eaaefe3da70c206ae008b43b2ccd6d2be75f4ddda70024", func := "carryover/carryoverlaw18.SpreadKept", spec := "spreadKept", inPlace := ["math.Float64frombits", "math.Float64bits"], unfollowed := true, recurses := true, apart := false }
def SpreadKeptSaid : Prop := spreadKeptRow.holds Try.pinned (OpenSpec.ofChange spreadKeptSpec)

/-- ITS FALSE NEIGHBOUR: 'it returns false'. Refute it at one input. -/
def spreadKeptWrong : ChangeSpec := { name := "spreadKept", fn := fun _ => fun
  | [d1, d2] => { results := [.lit (.bool false)], args := [d1, d2] }
  | _ => none }
def SpreadKeptWrongFalsely : Prop := spreadKeptRow.holds Try.pinned (OpenSpec.ofChange spreadKeptWrong)

/-- 'carryoverlaw13.EngineErrors': WHATEVER THE INPUT: true; the input reads as it did. -/
def engineErrorsSpec : ChangeSpec := { name := "engineErrors", fn := fun _ => fun
  | [d1, d2, d3, d4, d5, d6, d7] => { results := [.lit (.bool true)], args := [d1, d2, d3, d4, d5, d6, d7] }
  | _ => none }
def engineErrorsRow : OpenClaim := { program := "ytjlaafdldgmndaa", sum := "f97c8ec92b5c313602eaaefe3da70c206ae008b43b2ccd6d2be75f4ddda70024", func := "carryover/carryoverlaw13.EngineErrors", spec := "engineErrors", unfollowed := true, recurses := true, apart := false }
def EngineErrorsSaid : Prop := engineErrorsRow.holds Try.pinned (OpenSpec.ofChange engineErrorsSpec)

/-- ITS FALSE NEIGHBOUR: 'it returns false'. Refute it at one input. -/
def engineErrorsWrong : ChangeSpec := { name := "engineErrors", fn := fun _ => fun
  | [d1, d2, d3, d4, d5, d6, d7] => { results := [.lit (.bool false)], args := [d1, d2, d3, d4, d5, d6, d7] }
  | _ => none }
def EngineErrorsWrongFalsely : Prop := engineErrorsRow.holds Try.pinned (OpenSpec.ofChange engineErrorsWrong)

/-- 'carryoverlaw13.EngineEnds': WHATEVER THE INPUT: true; the input reads as it did. -/
def engineEndsSpec : ChangeSpec := { name := "engineEnds", fn := fun _ => fun
  | [d1, d2, d3, d4] => { results := [.lit (.bool true)], args := [d1, d2, d3, d4] }
  | _ => none }
def engineEndsRow : OpenClaim := { program := "ytjlaafdldgmndaa", sum := "f97c8ec92b5c313602eaaefe3da70c206ae008b43b2ccd6d2be75f4ddda70024", func := "carryover/carryoverlaw13.EngineEnds", spec := "engineEnds", inPlace := ["math.Float64frombits"], unfollowed := true, recurses := true, apart := false }
def EngineEndsSaid : Prop := engineEndsRow.holds Try.pinned (OpenSpec.ofChange engineEndsSpec)

/-- ITS FALSE NEIGHBOUR: 'it returns false'. Refute it at one input. -/
def engineEndsWrong : ChangeSpec := { name := "engineEnds", fn := fun _ => fun
  | [d1, d2, d3, d4] => { results := [.lit (.bool false)], args := [d1, d2, d3, d4] }
  | _ => none }
def EngineEndsWrongFalsely : Prop := engineEndsRow.holds Try.pinned (OpenSpec.ofChange engineEndsWrong)

/-- 'carryoverlaw13.EngineWith': WHATEVER THE INPUT: true; the input reads as it did. -/
def engineWithSpec : ChangeSpec := { name := "engineWith", fn := fun _ => fun
  | [d1, d2] => { results := [.lit (.bool true)], args := [d1, d2] }
  | _ => none }
def engineWithRow : OpenClaim := { program := "ytjlaafdldgmndaa", sum := "f97c8ec92b5c313602eaaefe3da70c206ae008b43b2ccd6d2be75f4ddda70024", func := "carryover/carryoverlaw13.EngineWith", spec := "engineWith", inPlace := ["math.Float64frombits", "math.Float64bits"], unfollowed := true, recurses := true, apart := false }
def EngineWithSaid : Prop := engineWithRow.holds Try.pinned (OpenSpec.ofChange engineWithSpec)

/-- ITS FALSE NEIGHBOUR: 'it returns false'. Refute it at one input. -/
def engineWithWrong : ChangeSpec := { name := "engineWith", fn := fun _ => fun
  | [d1, d2] => { results := [.lit (.bool false)], args := [d1, d2] }
  | _ => none }
def EngineWithWrongFalsely : Prop := engineWithRow.holds Try.pinned (OpenSpec.ofChange engineWithWrong)

/- THE SECOND FORM. 'bulk': how many values and letters a reading holds, each counted each time it is reached (what is shared counts as often as it is met; a slice's spare places count too). A statement '..UptoSaid' is the law's where the arguments, and the package variables that the reading takes, are together of bulk at most 1048576: NARROWER than '..Said'. Prove '..Said' where nothing that the law and all that it calls make is longer than what came in: it says more and counts as full. Else prove '..UptoSaid'. A law counts once. -/
mutual
def uptoBulk {H : Type} : DataW H → Nat
  | .lit (.string bytes) => bytes.length + 1
  | .lit _ => 1
  | .nil => 1
  | .ptr d => uptoBulk d + 1
  | .slice elems spare => uptoBulkAll elems + uptoBulkAll spare + 1
  | .agg parts => uptoBulkAll parts + 1
  | .iface _ d => uptoBulk d + 1
  | .map entries => uptoBulkEntries entries + 1
  | .held _ => 1
def uptoBulkAll {H : Type} : List (DataW H) → Nat
  | [] => 0
  | d :: r => uptoBulk d + uptoBulkAll r
def uptoBulkEntries {H : Type} : List (Lit × DataW H) → Nat
  | [] => 0
  | x :: r => uptoBulkEntry x + uptoBulkEntries r
def uptoBulkEntry {H : Type} : Lit × DataW H → Nat
  | (.string bytes, d) => bytes.length + uptoBulk d + 1
  | (_, d) => uptoBulk d + 1
 end
def uptoSmall : (H : Type) → List (DataW H) → Bool := fun _ ds => decide (uptoBulkAll ds ≤ 1048576)
def OpenSpec.upto (s : _root_.Go.ChangeSpec) : _root_.Go.OpenSpec := { _root_.Go.OpenSpec.ofChange s with cond := some uptoSmall }

/-- 'carryoverlaw12.ValueAfter', WHERE WHAT IT READS IS OF BULK AT MOST 1048576: true; the input reads as it did. -/
def valueAfterUptoRow : OpenClaim := { program := "ytjlaafdldgmndaa", sum := "f97c8ec92b5c313602eaaefe3da70c206ae008b43b2ccd6d2be75f4ddda70024", func := "carryover/carryoverlaw12.ValueAfter", spec := "valueAfter", inPlace := ["math.Float64frombits", "math.Float64bits"], unfollowed := true, recurses := true, apart := false, narrowed := true }
def ValueAfterUptoSaid : Prop := valueAfterUptoRow.holds Try.pinned (OpenSpec.upto valueAfterSpec)

/-- 'carryoverlaw12.ValueKinds', WHERE WHAT IT READS IS OF BULK AT MOST 1048576: true; the input reads as it did. -/
def valueKindsUptoRow : OpenClaim := { program := "ytjlaafdldgmndaa", sum := "f97c8ec92b5c313602eaaefe3da70c206ae008b43b2ccd6d2be75f4ddda70024", func := "carryover/carryoverlaw12.ValueKinds", spec := "valueKinds", inPlace := ["math.Float64frombits", "math.Float64bits"], unfollowed := true, recurses := true, apart := false, narrowed := true }
def ValueKindsUptoSaid : Prop := valueKindsUptoRow.holds Try.pinned (OpenSpec.upto valueKindsSpec)

/-- 'carryoverlaw18.SpreadKept', WHERE WHAT IT READS IS OF BULK AT MOST 1048576: true; the input reads as it did. -/
def spreadKeptUptoRow : OpenClaim := { program := "ytjlaafdldgmndaa", sum := "f97c8ec92b5c313602eaaefe3da70c206ae008b43b2ccd6d2be75f4ddda70024", func := "carryover/carryoverlaw18.SpreadKept", spec := "spreadKept", inPlace := ["math.Float64frombits", "math.Float64bits"], unfollowed := true, recurses := true, apart := false, narrowed := true }
def SpreadKeptUptoSaid : Prop := spreadKeptUptoRow.holds Try.pinned (OpenSpec.upto spreadKeptSpec)

/-- 'carryoverlaw13.EngineErrors', WHERE WHAT IT READS IS OF BULK AT MOST 1048576: true; the input reads as it did. -/
def engineErrorsUptoRow : OpenClaim := { program := "ytjlaafdldgmndaa", sum := "f97c8ec92b5c313602eaaefe3da70c206ae008b43b2ccd6d2be75f4ddda70024", func := "carryover/carryoverlaw13.EngineErrors", spec := "engineErrors", unfollowed := true, recurses := true, apart := false, narrowed := true }
def EngineErrorsUptoSaid : Prop := engineErrorsUptoRow.holds Try.pinned (OpenSpec.upto engineErrorsSpec)

/-- 'carryoverlaw13.EngineEnds', WHERE WHAT IT READS IS OF BULK AT MOST 1048576: true; the input reads as it did. -/
def engineEndsUptoRow : OpenClaim := { program := "ytjlaafdldgmndaa", sum := "f97c8ec92b5c313602eaaefe3da70c206ae008b43b2ccd6d2be75f4ddda70024", func := "carryover/carryoverlaw13.EngineEnds", spec := "engineEnds", inPlace := ["math.Float64frombits"], unfollowed := true, recurses := true, apart := false, narrowed := true }
def EngineEndsUptoSaid : Prop := engineEndsUptoRow.holds Try.pinned (OpenSpec.upto engineEndsSpec)

/-- 'carryoverlaw13.EngineWith', WHERE WHAT IT READS IS OF BULK AT MOST 1048576: true; the input reads as it did. -/
def engineWithUptoRow : OpenClaim := { program := "ytjlaafdldgmndaa", sum := "f97c8ec92b5c313602eaaefe3da70c206ae008b43b2ccd6d2be75f4ddda70024", func := "carryover/carryoverlaw13.EngineWith", spec := "engineWith", inPlace := ["math.Float64frombits", "math.Float64bits"], unfollowed := true, recurses := true, apart := false, narrowed := true }
def EngineWithUptoSaid : Prop := engineWithUptoRow.holds Try.pinned (OpenSpec.upto engineWithSpec)

end Rows
end Go.Proofs.Ytjlaafdldgmndaa
