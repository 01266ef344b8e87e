/-
  No cell of these rows narrows 'for every input' (looked for: loops, veiled, ifaces, maps, wideKeys, modest, calm, conditions, laid).
  DERIVED. THE GIVEN ROWS OF THIS SEAT. 6 by the template 'for every input the law returns true; each argument reads behind the call as it read before'; 0 by the template 'total and deterministic' (their statements: YtjlaafdldgmndaaGreatTotals.lean).
  GIVEN WITH THE SEED: the statements are not yours to turn. If you find one false, say at which input.
  Laid BY PROGRAM, IN A SANDBOX (cutbox-rows.mjs): the forced cells as the released guide's own fill.sh prints them over the translation 8399f804c09358d6… (all of the seat's roots in one cut). By AI agents, Wed Nov 11 2026. No macro, syntax, notation, axiom, sorry.
-/
import Derived.Test.YtjlaafdldgmndaaGreatChecked
import GoSem.Claim
import GoSem.ClaimJoined
import GoSem.ClaimMapViews
import Derived.JoinedTies
import Derived.KernelRfl
namespace Go.Proofs.YtjlaafdldgmndaaGreat
/- THE CELL 'sum', in the pinned program and in every row, IS THE sha256 OF THE DUMP (.gsa) THAT YtjlaafdldgmndaaGreatProg.lean LOADS. Nothing in Lean hashes anything: it is a label: what it is worth is what the hold of that sum in a sandbox is worth. -/
noncomputable def Tryz.pinned : Pinned := { name := "ytjlaafdldgmndaagreat", sum := "8399f804c09358d6d2a9fdce6ef8a85002155b15f91007da6a563ee2116c66c9", checked := Tryz.checked }
namespace Rows
def none {H : Type} : Left H := { results := [], args := [] }

/-- 'carryoverlaw12.ValueOf': WHATEVER THE INPUT: true; the input reads as it did. -/
def valueOfSpec : ChangeSpec := { name := "valueOf", fn := fun _ => fun
  | [d1, d2, d3, d4] => { results := [.lit (.bool true)], args := [d1, d2, d3, d4] }
  | _ => none }
def valueOfRow : OpenClaim := { program := "ytjlaafdldgmndaagreat", sum := "8399f804c09358d6d2a9fdce6ef8a85002155b15f91007da6a563ee2116c66c9", func := "carryover/carryoverlaw12.ValueOf", spec := "valueOf", inPlace := ["math.Float64frombits", "math.Float64bits"], unfollowed := true, recurses := true, apart := false }
def ValueOfSaid : Prop := valueOfRow.holds Tryz.pinned (OpenSpec.ofChange valueOfSpec)

/-- ITS FALSE NEIGHBOUR: 'it returns false'. Refute it at one input. -/
def valueOfWrong : ChangeSpec := { name := "valueOf", fn := fun _ => fun
  | [d1, d2, d3, d4] => { results := [.lit (.bool false)], args := [d1, d2, d3, d4] }
  | _ => none }
def ValueOfWrongFalsely : Prop := valueOfRow.holds Tryz.pinned (OpenSpec.ofChange valueOfWrong)

/-- 'carryoverlaw12.ValueSteps': WHATEVER THE INPUT: true; the input reads as it did. -/
def valueStepsSpec : ChangeSpec := { name := "valueSteps", fn := fun _ => fun
  | [d1, d2, d3, d4] => { results := [.lit (.bool true)], args := [d1, d2, d3, d4] }
  | _ => none }
def valueStepsRow : OpenClaim := { program := "ytjlaafdldgmndaagreat", sum := "8399f804c09358d6d2a9fdce6ef8a85002155b15f91007da6a563ee2116c66c9", func := "carryover/carryoverlaw12.ValueSteps", spec := "valueSteps", inPlace := ["math.Float64frombits", "math.Float64bits"], unfollowed := true, recurses := true, apart := false }
def ValueStepsSaid : Prop := valueStepsRow.holds Tryz.pinned (OpenSpec.ofChange valueStepsSpec)

/-- ITS FALSE NEIGHBOUR: 'it returns false'. Refute it at one input. -/
def valueStepsWrong : ChangeSpec := { name := "valueSteps", fn := fun _ => fun
  | [d1, d2, d3, d4] => { results := [.lit (.bool false)], args := [d1, d2, d3, d4] }
  | _ => none }
def ValueStepsWrongFalsely : Prop := valueStepsRow.holds Tryz.pinned (OpenSpec.ofChange valueStepsWrong)

/-- 'carryoverlaw18.SpreadBound': WHATEVER THE INPUT: true; the input reads as it did. -/
def spreadBoundSpec : ChangeSpec := { name := "spreadBound", fn := fun _ => fun
  | [d1, d2, d3] => { results := [.lit (.bool true)], args := [d1, d2, d3] }
  | _ => none }
def spreadBoundRow : OpenClaim := { program := "ytjlaafdldgmndaagreat", sum := "8399f804c09358d6d2a9fdce6ef8a85002155b15f91007da6a563ee2116c66c9", func := "carryover/carryoverlaw18.SpreadBound", spec := "spreadBound", inPlace := ["math.Float64frombits", "math.Float64bits"], unfollowed := true, recurses := true, apart := false }
def SpreadBoundSaid : Prop := spreadBoundRow.holds Tryz.pinned (OpenSpec.ofChange spreadBoundSpec)

/-- ITS FALSE NEIGHBOUR: 'it returns false'. Refute it at one input. -/
def spreadBoundWrong : ChangeSpec := { name := "spreadBound", fn := fun _ => fun
  | [d1, d2, d3] => { results := [.lit (.bool false)], args := [d1, d2, d3] }
  | _ => none }
def SpreadBoundWrongFalsely : Prop := spreadBoundRow.holds Tryz.pinned (OpenSpec.ofChange spreadBoundWrong)

/-- 'carryoverlaw13.EnginePlays': WHATEVER THE INPUT: true; the input reads as it did. -/
def enginePlaysSpec : ChangeSpec := { name := "enginePlays", fn := fun _ => fun
  | [d1, d2, d3] => { results := [.lit (.bool true)], args := [d1, d2, d3] }
  | _ => none }
def enginePlaysRow : OpenClaim := { program := "ytjlaafdldgmndaagreat", sum := "8399f804c09358d6d2a9fdce6ef8a85002155b15f91007da6a563ee2116c66c9", func := "carryover/carryoverlaw13.EnginePlays", spec := "enginePlays", inPlace := ["math.Float64frombits", "math.Float64bits"], unfollowed := true, recurses := true, apart := false }
def EnginePlaysSaid : Prop := enginePlaysRow.holds Tryz.pinned (OpenSpec.ofChange enginePlaysSpec)

/-- ITS FALSE NEIGHBOUR: 'it returns false'. Refute it at one input. -/
def enginePlaysWrong : ChangeSpec := { name := "enginePlays", fn := fun _ => fun
  | [d1, d2, d3] => { results := [.lit (.bool false)], args := [d1, d2, d3] }
  | _ => none }
def EnginePlaysWrongFalsely : Prop := enginePlaysRow.holds Tryz.pinned (OpenSpec.ofChange enginePlaysWrong)

/-- 'carryoverlaw13.EngineSame': WHATEVER THE INPUT: true; the input reads as it did. -/
def engineSameSpec : ChangeSpec := { name := "engineSame", fn := fun _ => fun
  | [d1, d2, d3] => { results := [.lit (.bool true)], args := [d1, d2, d3] }
  | _ => none }
def engineSameRow : OpenClaim := { program := "ytjlaafdldgmndaagreat", sum := "8399f804c09358d6d2a9fdce6ef8a85002155b15f91007da6a563ee2116c66c9", func := "carryover/carryoverlaw13.EngineSame", spec := "engineSame", inPlace := ["math.Float64frombits", "math.Float64bits"], unfollowed := true, recurses := true, apart := false }
def EngineSameSaid : Prop := engineSameRow.holds Tryz.pinned (OpenSpec.ofChange engineSameSpec)

/-- ITS FALSE NEIGHBOUR: 'it returns false'. Refute it at one input. -/
def engineSameWrong : ChangeSpec := { name := "engineSame", fn := fun _ => fun
  | [d1, d2, d3] => { results := [.lit (.bool false)], args := [d1, d2, d3] }
  | _ => none }
def EngineSameWrongFalsely : Prop := engineSameRow.holds Tryz.pinned (OpenSpec.ofChange engineSameWrong)

/-- 'carryoverlaw17.ImageShots': WHATEVER THE INPUT: true; the input reads as it did. -/
def imageShotsSpec : ChangeSpec := { name := "imageShots", fn := fun _ => fun
  | [d1, d2, d3] => { results := [.lit (.bool true)], args := [d1, d2, d3] }
  | _ => none }
def imageShotsRow : OpenClaim := { program := "ytjlaafdldgmndaagreat", sum := "8399f804c09358d6d2a9fdce6ef8a85002155b15f91007da6a563ee2116c66c9", func := "carryover/carryoverlaw17.ImageShots", spec := "imageShots", inPlace := ["math.Float64frombits", "math.Float64bits"], unfollowed := true, recurses := true, apart := false }
def ImageShotsSaid : Prop := imageShotsRow.holds Tryz.pinned (OpenSpec.ofChange imageShotsSpec)

/-- ITS FALSE NEIGHBOUR: 'it returns false'. Refute it at one input. -/
def imageShotsWrong : ChangeSpec := { name := "imageShots", fn := fun _ => fun
  | [d1, d2, d3] => { results := [.lit (.bool false)], args := [d1, d2, d3] }
  | _ => none }
def ImageShotsWrongFalsely : Prop := imageShotsRow.holds Tryz.pinned (OpenSpec.ofChange imageShotsWrong)

/- THE SECOND FORM. 'bulk': how many values and letters a reading holds, each counted each time it is reached (what is shared counts as often as it is met; a slice's spare places count too). A statement '..UptoSaid' is the law's where the arguments, and the package variables that the reading takes, are together of bulk at most 1048576: NARROWER than '..Said'. Prove '..Said' where nothing that the law and all that it calls make is longer than what came in: it says more and counts as full. Else prove '..UptoSaid'. A law counts once. -/
mutual
def uptoBulk {H : Type} : DataW H → Nat
  | .lit (.string bytes) => bytes.length + 1
  | .lit _ => 1
  | .nil => 1
  | .ptr d => uptoBulk d + 1
  | .slice elems spare => uptoBulkAll elems + uptoBulkAll spare + 1
  | .agg parts => uptoBulkAll parts + 1
  | .iface _ d => uptoBulk d + 1
  | .map entries => uptoBulkEntries entries + 1
  | .held _ => 1
def uptoBulkAll {H : Type} : List (DataW H) → Nat
  | [] => 0
  | d :: r => uptoBulk d + uptoBulkAll r
def uptoBulkEntries {H : Type} : List (Lit × DataW H) → Nat
  | [] => 0
  | x :: r => uptoBulkEntry x + uptoBulkEntries r
def uptoBulkEntry {H : Type} : Lit × DataW H → Nat
  | (.string bytes, d) => bytes.length + uptoBulk d + 1
  | (_, d) => uptoBulk d + 1
 end
def uptoSmall : (H : Type) → List (DataW H) → Bool := fun _ ds => decide (uptoBulkAll ds ≤ 1048576)
def OpenSpec.upto (s : _root_.Go.ChangeSpec) : _root_.Go.OpenSpec := { _root_.Go.OpenSpec.ofChange s with cond := some uptoSmall }

/-- 'carryoverlaw12.ValueOf', WHERE WHAT IT READS IS OF BULK AT MOST 1048576: true; the input reads as it did. -/
def valueOfUptoRow : OpenClaim := { program := "ytjlaafdldgmndaagreat", sum := "8399f804c09358d6d2a9fdce6ef8a85002155b15f91007da6a563ee2116c66c9", func := "carryover/carryoverlaw12.ValueOf", spec := "valueOf", inPlace := ["math.Float64frombits", "math.Float64bits"], unfollowed := true, recurses := true, apart := false, narrowed := true }
def ValueOfUptoSaid : Prop := valueOfUptoRow.holds Tryz.pinned (OpenSpec.upto valueOfSpec)

/-- 'carryoverlaw12.ValueSteps', WHERE WHAT IT READS IS OF BULK AT MOST 1048576: true; the input reads as it did. -/
def valueStepsUptoRow : OpenClaim := { program := "ytjlaafdldgmndaagreat", sum := "8399f804c09358d6d2a9fdce6ef8a85002155b15f91007da6a563ee2116c66c9", func := "carryover/carryoverlaw12.ValueSteps", spec := "valueSteps", inPlace := ["math.Float64frombits", "math.Float64bits"], unfollowed := true, recurses := true, apart := false, narrowed := true }
def ValueStepsUptoSaid : Prop := valueStepsUptoRow.holds Tryz.pinned (OpenSpec.upto valueStepsSpec)

/-- 'carryoverlaw18.SpreadBound', WHERE WHAT IT READS IS OF BULK AT MOST 1048576: true; the input reads as it did. -/
def spreadBoundUptoRow : OpenClaim := { program := "ytjlaafdldgmndaagreat", sum := "8399f804c09358d6d2a9fdce6ef8a85002155b15f91007da6a563ee2116c66c9", func := "carryover/carryoverlaw18.SpreadBound", spec := "spreadBound", inPlace := ["math.Float64frombits", "math.Float64bits"], unfollowed := true, recurses := true, apart := false, narrowed := true }
def SpreadBoundUptoSaid : Prop := spreadBoundUptoRow.holds Tryz.pinned (OpenSpec.upto spreadBoundSpec)

/-- 'carryoverlaw13.EnginePlays', WHERE WHAT IT READS IS OF BULK AT MOST 1048576: true; the input reads as it did. -/
def enginePlaysUptoRow : OpenClaim := { program := "ytjlaafdldgmndaagreat", sum := "8399f804c09358d6d2a9fdce6ef8a85002155b15f91007da6a563ee2116c66c9", func := "carryover/carryoverlaw13.EnginePlays", spec := "enginePlays", inPlace := ["math.Float64frombits", "math.Float64bits"], unfollowed := true, recurses := true, apart := false, narrowed := true }
def EnginePlaysUptoSaid : Prop := enginePlaysUptoRow.holds Tryz.pinned (OpenSpec.upto enginePlaysSpec)

/-- 'carryoverlaw13.EngineSame', WHERE WHAT IT READS IS OF BULK AT MOST 1048576: true; the input reads as it did. -/
def engineSameUptoRow : OpenClaim := { program := "ytjlaafdldgmndaagreat", sum := "8399f804c09358d6d2a9fdce6ef8a85002155b15f91007da6a563ee2116c66c9", func := "carryover/carryoverlaw13.EngineSame", spec := "engineSame", inPlace := ["math.Float64frombits", "math.Float64bits"], unfollowed := true, recurses := true, apart := false, narrowed := true }
def EngineSameUptoSaid : Prop := engineSameUptoRow.holds Tryz.pinned (OpenSpec.upto engineSameSpec)

/-- 'carryoverlaw17.ImageShots', WHERE WHAT IT READS IS OF BULK AT MOST 1048576: true; the input reads as it did. -/
def imageShotsUptoRow : OpenClaim := { program := "ytjlaafdldgmndaagreat", sum := "8399f804c09358d6d2a9fdce6ef8a85002155b15f91007da6a563ee2116c66c9", func := "carryover/carryoverlaw17.ImageShots", spec := "imageShots", inPlace := ["math.Float64frombits", "math.Float64bits"], unfollowed := true, recurses := true, apart := false, narrowed := true }
def ImageShotsUptoSaid : Prop := imageShotsUptoRow.holds Tryz.pinned (OpenSpec.upto imageShotsSpec)

end Rows
end Go.Proofs.YtjlaafdldgmndaaGreat
