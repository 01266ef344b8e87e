/-
  No cell of these rows narrows 'for every input' (looked for: loops, veiled, ifaces, maps, wideKeys, modest, calm, conditions, laid).
  DERIVED. THE GIVEN ROWS OF THIS SEAT. 6 by the template 'for every input the law returns true; each argument reads behind the call as it read before'; 0 by the template 'total and deterministic' (their statements: YtpgengahgdmhmaaTotals.lean).
  GIVEN WITH THE SEED: the statements are not yours to turn. If you find one false, say at which input.
  Laid BY PROGRAM, IN A SANDBOX (cutbox-rows.mjs): the forced cells as the released guide's own fill.sh prints them over the translation 7417c2fe3de8d468… (all of the seat's roots in one cut). By AI agents, Wed Nov 11 2026. No macro, syntax, notation, axiom, sorry.
-/
import Derived.Test.YtpgengahgdmhmaaChecked
import GoSem.Claim
import GoSem.ClaimJoined
import GoSem.ClaimMapViews
import Derived.JoinedTies
import Derived.KernelRfl
namespace Go.Proofs.Ytpgengahgdmhmaa
/- THE CELL 'sum', in the pinned program and in every row, IS THE sha256 OF THE DUMP (.gsa) THAT YtpgengahgdmhmaaProg.lean LOADS. Nothing in Lean hashes anything: it is a label: what it is worth is what the hold of that sum in a sandbox is worth. -/
noncomputable def Try.pinned : Pinned := { name := "ytpgengahgdmhmaa", sum := "7417c2fe3de8d46800306fe943177258a00ef6db20b1f9e7ebe6b046cb88cf11", checked := Try.checked }
namespace Rows
def none {H : Type} : Left H := { results := [], args := [] }

/-- 'carryoverlaw18.SpreadDeals': WHATEVER THE INPUT: true; the input reads as it did. -/
def spreadDealsSpec : ChangeSpec := { name := "spreadDeals", fn := fun _ => fun
  | [d1, d2] => { results := [.lit (.bool true)], args := [d1, d2] }
  | _ => none }
def spreadDealsRow : OpenClaim := { program := "ytpgengahgdmhmaa", sum := "7417c2fe3de8d46800306fe943177258a00ef6db20b1f9e7ebe6b046cb88cf11", func := "carryover/carryoverlaw18.SpreadDeals", spec := "spreadDeals", inPlace := ["math.Float64frombits", "math.Float64bits"], unfollowed := true, recurses := true, apart := false }
def SpreadDealsSaid : Prop := spreadDealsRow.holds Try.pinned (OpenSpec.ofChange spreadDealsSpec)

/-- ITS FALSE NEIGHBOUR: 'it returns false'. Refute it at one input. -/
def spreadDealsWrong : ChangeSpec := { name := "spreadDeals", fn := fun _ => fun
  | [d1, d2] => { results := [.lit (.bool false)], args := [d1, d2] }
  | _ => none }
def SpreadDealsWrongFalsely : Prop := spreadDealsRow.holds Try.pinned (OpenSpec.ofChange spreadDealsWrong)

/-- 'carryoverlaw18.SpreadLays': WHATEVER THE INPUT: true; the input reads as it did. -/
def spreadLaysSpec : ChangeSpec := { name := "spreadLays", fn := fun _ => fun
  | [d1, d2] => { results := [.lit (.bool true)], args := [d1, d2] }
  | _ => none }
def spreadLaysRow : OpenClaim := { program := "ytpgengahgdmhmaa", sum := "7417c2fe3de8d46800306fe943177258a00ef6db20b1f9e7ebe6b046cb88cf11", func := "carryover/carryoverlaw18.SpreadLays", spec := "spreadLays", inPlace := ["math.Float64frombits", "math.Float64bits"], unfollowed := true, recurses := true, apart := false }
def SpreadLaysSaid : Prop := spreadLaysRow.holds Try.pinned (OpenSpec.ofChange spreadLaysSpec)

/-- ITS FALSE NEIGHBOUR: 'it returns false'. Refute it at one input. -/
def spreadLaysWrong : ChangeSpec := { name := "spreadLays", fn := fun _ => fun
  | [d1, d2] => { results := [.lit (.bool false)], args := [d1, d2] }
  | _ => none }
def SpreadLaysWrongFalsely : Prop := spreadLaysRow.holds Try.pinned (OpenSpec.ofChange spreadLaysWrong)

/-- 'carryoverlaw18.SpreadTo': WHATEVER THE INPUT: true; the input reads as it did. -/
def spreadToSpec : ChangeSpec := { name := "spreadTo", fn := fun _ => fun
  | [d1, d2, d3] => { results := [.lit (.bool true)], args := [d1, d2, d3] }
  | _ => none }
def spreadToRow : OpenClaim := { program := "ytpgengahgdmhmaa", sum := "7417c2fe3de8d46800306fe943177258a00ef6db20b1f9e7ebe6b046cb88cf11", func := "carryover/carryoverlaw18.SpreadTo", spec := "spreadTo", inPlace := ["math.Float64frombits", "math.Float64bits"], unfollowed := true, recurses := true, apart := false }
def SpreadToSaid : Prop := spreadToRow.holds Try.pinned (OpenSpec.ofChange spreadToSpec)

/-- ITS FALSE NEIGHBOUR: 'it returns false'. Refute it at one input. -/
def spreadToWrong : ChangeSpec := { name := "spreadTo", fn := fun _ => fun
  | [d1, d2, d3] => { results := [.lit (.bool false)], args := [d1, d2, d3] }
  | _ => none }
def SpreadToWrongFalsely : Prop := spreadToRow.holds Try.pinned (OpenSpec.ofChange spreadToWrong)

/-- 'carryoverlaw18.SpreadKept': WHATEVER THE INPUT: true; the input reads as it did. -/
def spreadKeptSpec : ChangeSpec := { name := "spreadKept", fn := fun _ => fun
  | [d1, d2] => { results := [.lit (.bool true)], args := [d1, d2] }
  | _ => none }
def spreadKeptRow : OpenClaim := { program := "ytpgengahgdmhmaa", sum := "7417c2fe3de8d46800306fe943177258a00ef6db20b1f9e7ebe6b046cb88cf11", func := "carryover/carryoverlaw18.SpreadKept", spec := "spreadKept", inPlace := ["math.Float64frombits", "math.Float64bits"], unfollowed := true, recurses := true, apart := false }
def SpreadKeptSaid : Prop := spreadKeptRow.holds Try.pinned (OpenSpec.ofChange spreadKeptSpec)

/-- ITS FALSE NEIGHBOUR: 'it returns false'. Refute it at one input. -/
def spreadKeptWrong : ChangeSpec := { name := "spreadKept", fn := fun _ => fun
  | [d1, d2] => { results := [.lit (.bool false)], args := [d1, d2] }
  | _ => none }
def SpreadKeptWrongFalsely : Prop := spreadKeptRow.holds Try.pinned (OpenSpec.ofChange spreadKeptWrong)

/-- 'carryoverlaw12.ValueAfter': WHATEVER THE INPUT: true; the input reads as it did. -/
def valueAfterSpec : ChangeSpec := { name := "valueAfter", fn := fun _ => fun
  | [d1, d2, d3, d4, d5, d6, d7] => { results := [.lit (.bool true)], args := [d1, d2, d3, d4, d5, d6, d7] }
  | _ => none }
def valueAfterRow : OpenClaim := { program := "ytpgengahgdmhmaa", sum := "7417c2fe3de8d46800306fe943177258a00ef6db20b1f9e7ebe6b046cb88cf11", func := "carryover/carryoverlaw12.ValueAfter", spec := "valueAfter", inPlace := ["math.Float64frombits", "math.Float64bits"], unfollowed := true, recurses := true, apart := false }
def ValueAfterSaid : Prop := valueAfterRow.holds Try.pinned (OpenSpec.ofChange valueAfterSpec)

/-- ITS FALSE NEIGHBOUR: 'it returns false'. Refute it at one input. -/
def valueAfterWrong : ChangeSpec := { name := "valueAfter", fn := fun _ => fun
  | [d1, d2, d3, d4, d5, d6, d7] => { results := [.lit (.bool false)], args := [d1, d2, d3, d4, d5, d6, d7] }
  | _ => none }
def ValueAfterWrongFalsely : Prop := valueAfterRow.holds Try.pinned (OpenSpec.ofChange valueAfterWrong)

/-- 'carryoverlaw12.ValueKinds': WHATEVER THE INPUT: true; the input reads as it did. -/
def valueKindsSpec : ChangeSpec := { name := "valueKinds", fn := fun _ => fun
  | [d1, d2, d3, d4, d5, d6] => { results := [.lit (.bool true)], args := [d1, d2, d3, d4, d5, d6] }
  | _ => none }
def valueKindsRow : OpenClaim := { program := "ytpgengahgdmhmaa", sum := "7417c2fe3de8d46800306fe943177258a00ef6db20b1f9e7ebe6b046cb88cf11", func := "carryover/carryoverlaw12.ValueKinds", spec := "valueKinds", inPlace := ["math.Float64frombits", "math.Float64bits"], unfollowed := true, recurses := true, apart := false }
def ValueKindsSaid : Prop := valueKindsRow.holds Try.pinned (OpenSpec.ofChange valueKindsSpec)

/-- ITS FALSE NEIGHBOUR: 'it returns false'. Refute it at one input. -/
def valueKindsWrong : ChangeSpec := { name := "valueKinds", fn := fun _ => fun
  | [d1, d2, d3, d4, d5, d6] => { results := [.lit (.bool false)], args := [d1, d2, d3, d4, d5, d6] }
  | _ => none }
def ValueKindsWrongFalsely : Prop := valueKindsRow.holds Try.pinned (OpenSpec.ofChange valueKindsWrong)

/- THE SECOND FORM. 'bulk': how many values and letters a reading holds, each counted each time it is reached (what is shared counts as often as it is met; a slice's spare places count too). A statement '..UptoSaid' is the law's where the arguments, and the package variables that the reading takes, are together of bulk at most 1048576: NARROWER than '..Said'. Prove '..Said' where nothing that the law and all that it calls make is longer than what came in: it says more and counts as full. Else prove '..UptoSaid'. A law counts once. -/
mutual
def uptoBulk {H : Type} : DataW H → Nat
  | .lit (.string bytes) => bytes.length + 1
  | .lit _ => 1
  | .nil => 1
  | .ptr d => uptoBulk d + 1
  | .slice elems spare => uptoBulkAll elems + uptoBulkAll spare + 1
  | .agg parts => uptoBulkAll parts + 1
  | .iface _ d => uptoBulk d + 1
  | .map entries => uptoBulkEntries entries + 1
  | .held _ => 1
def uptoBulkAll {H : Type} : List (DataW H) → Nat
  | [] => 0
  | d :: r => uptoBulk d + uptoBulkAll r
def uptoBulkEntries {H : Type} : List (Lit × DataW H) → Nat
  | [] => 0
  | x :: r => uptoBulkEntry x + uptoBulkEntries r
def uptoBulkEntry {H : Type} : Lit × DataW H → Nat
  | (.string bytes, d) => bytes.length + uptoBulk d + 1
  | (_, d) => uptoBulk d + 1
 end
def uptoSmall : (H : Type) → List (DataW H) → Bool := fun _ ds => decide (uptoBulkAll ds ≤ 1048576)
def OpenSpec.upto (s : _root_.Go.ChangeSpec) : _root_.Go.OpenSpec := { _root_.Go.OpenSpec.ofChange s with cond := some uptoSmall }

/-- 'carryoverlaw18.SpreadDeals', WHERE WHAT IT READS IS OF BULK AT MOST 1048576: true; the input reads as it did. -/
def spreadDealsUptoRow : OpenClaim := { program := "ytpgengahgdmhmaa", sum := "7417c2fe3de8d46800306fe943177258a00ef6db20b1f9e7ebe6b046cb88cf11", func := "carryover/carryoverlaw18.SpreadDeals", spec := "spreadDeals", inPlace := ["math.Float64frombits", "math.Float64bits"], unfollowed := true, recurses := true, apart := false, narrowed := true }
def SpreadDealsUptoSaid : Prop := spreadDealsUptoRow.holds Try.pinned (OpenSpec.upto spreadDealsSpec)

/-- 'carryoverlaw18.SpreadLays', WHERE WHAT IT READS IS OF BULK AT MOST 1048576: true; the input reads as it did. -/
def spreadLaysUptoRow : OpenClaim := { program := "ytpgengahgdmhmaa", sum := "7417c2fe3de8d46800306fe943177258a00ef6db20b1f9e7ebe6b046cb88cf11", func := "carryover/carryoverlaw18.SpreadLays", spec := "spreadLays", inPlace := ["math.Float64frombits", "math.Float64bits"], unfollowed := true, recurses := true, apart := false, narrowed := true }
def SpreadLaysUptoSaid : Prop := spreadLaysUptoRow.holds Try.pinned (OpenSpec.upto spreadLaysSpec)

/-- 'carryoverlaw18.SpreadTo', WHERE WHAT IT READS IS OF BULK AT MOST 1048576: true; the input reads as it did. -/
def spreadToUptoRow : OpenClaim := { program := "ytpgengahgdmhmaa", sum := "7417c2fe3de8d46800306fe943177258a00ef6db20b1f9e7ebe6b046cb88cf11", func := "carryover/carryoverlaw18.SpreadTo", spec := "spreadTo", inPlace := ["math.Float64frombits", "math.Float64bits"], unfollowed := true, recurses := true, apart := false, narrowed := true }
def SpreadToUptoSaid : Prop := spreadToUptoRow.holds Try.pinned (OpenSpec.upto spreadToSpec)

/-- 'carryoverlaw18.SpreadKept', WHERE WHAT IT READS IS OF BULK AT MOST 1048576: true; the input reads as it did. -/
def spreadKeptUptoRow : OpenClaim := { program := "ytpgengahgdmhmaa", sum := "7417c2fe3de8d46800306fe943177258a00ef6db20b1f9e7ebe6b046cb88cf11", func := "carryover/carryoverlaw18.SpreadKept", spec := "spreadKept", inPlace := ["math.Float64frombits", "math.Float64bits"], unfollowed := true, recurses := true, apart := false, narrowed := true }
def SpreadKeptUptoSaid : Prop := spreadKeptUptoRow.holds Try.pinned (OpenSpec.upto spreadKeptSpec)

/-- 'carryoverlaw12.ValueAfter', WHERE WHAT IT READS IS OF BULK AT MOST 1048576: true; the input reads as it did. -/
def valueAfterUptoRow : OpenClaim := { program := "ytpgengahgdmhmaa", sum := "7417c2fe3de8d46800306fe943177258a00ef6db20b1f9e7ebe6b046cb88cf11", func := "carryover/carryoverlaw12.ValueAfter", spec := "valueAfter", inPlace := ["math.Float64frombits", "math.Float64bits"], unfollowed := true, recurses := true, apart := false, narrowed := true }
def ValueAfterUptoSaid : Prop := valueAfterUptoRow.holds Try.pinned (OpenSpec.upto valueAfterSpec)

/-- 'carryoverlaw12.ValueKinds', WHERE WHAT IT READS IS OF BULK AT MOST 1048576: true; the input reads as it did. -/
def valueKindsUptoRow : OpenClaim := { program := "ytpgengahgdmhmaa", sum := "7417c2fe3de8d46800306fe943177258a00ef6db20b1f9e7ebe6b046cb88cf11", func := "carryover/carryoverlaw12.ValueKinds", spec := "valueKinds", inPlace := ["math.Float64frombits", "math.Float64bits"], unfollowed := true, recurses := true, apart := false, narrowed := true }
def ValueKindsUptoSaid : Prop := valueKindsUptoRow.holds Try.pinned (OpenSpec.upto valueKindsSpec)

end Rows
end Go.Proofs.Ytpgengahgdmhmaa
