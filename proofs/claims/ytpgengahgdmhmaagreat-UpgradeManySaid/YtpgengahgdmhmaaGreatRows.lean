/-
  No cell of these rows narrows 'for every input' (looked for: loops, veiled, ifaces, maps, wideKeys, modest, calm, conditions, laid).
  DERIVED. THE GIVEN ROWS OF THIS SEAT. 6 by the template 'for every input the law returns true; each argument reads behind the call as it read before'; 0 by the template 'total and deterministic' (their statements: YtpgengahgdmhmaaGreatTotals.lean).
  GIVEN WITH THE SEED: the statements are not yours to turn. If you find one false, say at which input.
  Laid BY PROGRAM, IN A SANDBOX (cutbox-rows.mjs): the forced cells as the released guide's own fill.sh prints them over the translation 015e6f591d46b85b… (all of the seat's roots in one cut). By AI agents, Wed Nov 11 2026. No macro, syntax, notation, axiom, sorry.
-/
import Derived.Test.YtpgengahgdmhmaaGreatChecked
import GoSem.Claim
import GoSem.ClaimJoined
import GoSem.ClaimMapViews
import Derived.JoinedTies
import Derived.KernelRfl
namespace Go.Proofs.YtpgengahgdmhmaaGreat
/- THE CELL 'sum', in the pinned program and in every row, IS THE sha256 OF THE DUMP (.gsa) THAT YtpgengahgdmhmaaGreatProg.lean LOADS. Nothing in Lean hashes anything: it is a label: what it is worth is what the hold of that sum in a sandbox is worth. -/
noncomputable def Tryz.pinned : Pinned := { name := "ytpgengahgdmhmaagreat", sum := "015e6f591d46b85bbb43fa39f6eed7c169234caf2a14cbf2667f7384186596ce", checked := Tryz.checked }
namespace Rows
def none {H : Type} : Left H := { results := [], args := [] }

/-- 'carryoverlaw21.ElderSpoilt': WHATEVER THE INPUT: true; the input reads as it did. -/
def elderSpoiltSpec : ChangeSpec := { name := "elderSpoilt", fn := fun _ => fun
  | [d1, d2, d3, d4, d5, d6, d7] => { results := [.lit (.bool true)], args := [d1, d2, d3, d4, d5, d6, d7] }
  | _ => none }
def elderSpoiltRow : OpenClaim := { program := "ytpgengahgdmhmaagreat", sum := "015e6f591d46b85bbb43fa39f6eed7c169234caf2a14cbf2667f7384186596ce", func := "carryover/carryoverlaw21.ElderSpoilt", spec := "elderSpoilt", inPlace := ["math.Float64frombits", "math.Float64bits"], unfollowed := true, recurses := true, apart := false }
def ElderSpoiltSaid : Prop := elderSpoiltRow.holds Tryz.pinned (OpenSpec.ofChange elderSpoiltSpec)

/-- ITS FALSE NEIGHBOUR: 'it returns false'. Refute it at one input. -/
def elderSpoiltWrong : ChangeSpec := { name := "elderSpoilt", fn := fun _ => fun
  | [d1, d2, d3, d4, d5, d6, d7] => { results := [.lit (.bool false)], args := [d1, d2, d3, d4, d5, d6, d7] }
  | _ => none }
def ElderSpoiltWrongFalsely : Prop := elderSpoiltRow.holds Tryz.pinned (OpenSpec.ofChange elderSpoiltWrong)

/-- 'carryoverlaw21.ElderBursts': WHATEVER THE INPUT: true; the input reads as it did. -/
def elderBurstsSpec : ChangeSpec := { name := "elderBursts", fn := fun _ => fun
  | [d1, d2, d3, d4, d5] => { results := [.lit (.bool true)], args := [d1, d2, d3, d4, d5] }
  | _ => none }
def elderBurstsRow : OpenClaim := { program := "ytpgengahgdmhmaagreat", sum := "015e6f591d46b85bbb43fa39f6eed7c169234caf2a14cbf2667f7384186596ce", func := "carryover/carryoverlaw21.ElderBursts", spec := "elderBursts", inPlace := ["math.Float64frombits", "math.Float64bits"], unfollowed := true, recurses := true, apart := false }
def ElderBurstsSaid : Prop := elderBurstsRow.holds Tryz.pinned (OpenSpec.ofChange elderBurstsSpec)

/-- ITS FALSE NEIGHBOUR: 'it returns false'. Refute it at one input. -/
def elderBurstsWrong : ChangeSpec := { name := "elderBursts", fn := fun _ => fun
  | [d1, d2, d3, d4, d5] => { results := [.lit (.bool false)], args := [d1, d2, d3, d4, d5] }
  | _ => none }
def ElderBurstsWrongFalsely : Prop := elderBurstsRow.holds Tryz.pinned (OpenSpec.ofChange elderBurstsWrong)

/-- 'carryoverlaw21.ElderBack': WHATEVER THE INPUT: true; the input reads as it did. -/
def elderBackSpec : ChangeSpec := { name := "elderBack", fn := fun _ => fun
  | [d1, d2] => { results := [.lit (.bool true)], args := [d1, d2] }
  | _ => none }
def elderBackRow : OpenClaim := { program := "ytpgengahgdmhmaagreat", sum := "015e6f591d46b85bbb43fa39f6eed7c169234caf2a14cbf2667f7384186596ce", func := "carryover/carryoverlaw21.ElderBack", spec := "elderBack", inPlace := ["math.Float64frombits", "math.Float64bits"], unfollowed := true, recurses := true, apart := false }
def ElderBackSaid : Prop := elderBackRow.holds Tryz.pinned (OpenSpec.ofChange elderBackSpec)

/-- ITS FALSE NEIGHBOUR: 'it returns false'. Refute it at one input. -/
def elderBackWrong : ChangeSpec := { name := "elderBack", fn := fun _ => fun
  | [d1, d2] => { results := [.lit (.bool false)], args := [d1, d2] }
  | _ => none }
def ElderBackWrongFalsely : Prop := elderBackRow.holds Tryz.pinned (OpenSpec.ofChange elderBackWrong)

/-- 'carryoverlaw22.UpgradeSteps': WHATEVER THE INPUT: true; the input reads as it did. -/
def upgradeStepsSpec : ChangeSpec := { name := "upgradeSteps", fn := fun _ => fun
  | [d1, d2] => { results := [.lit (.bool true)], args := [d1, d2] }
  | _ => none }
def upgradeStepsRow : OpenClaim := { program := "ytpgengahgdmhmaagreat", sum := "015e6f591d46b85bbb43fa39f6eed7c169234caf2a14cbf2667f7384186596ce", func := "carryover/carryoverlaw22.UpgradeSteps", spec := "upgradeSteps", inPlace := ["math.Float64frombits", "math.Float64bits"], unfollowed := true, recurses := true, apart := false }
def UpgradeStepsSaid : Prop := upgradeStepsRow.holds Tryz.pinned (OpenSpec.ofChange upgradeStepsSpec)

/-- ITS FALSE NEIGHBOUR: 'it returns false'. Refute it at one input. -/
def upgradeStepsWrong : ChangeSpec := { name := "upgradeSteps", fn := fun _ => fun
  | [d1, d2] => { results := [.lit (.bool false)], args := [d1, d2] }
  | _ => none }
def UpgradeStepsWrongFalsely : Prop := upgradeStepsRow.holds Tryz.pinned (OpenSpec.ofChange upgradeStepsWrong)

/-- 'carryoverlaw22.UpgradeMany': WHATEVER THE INPUT: true; the input reads as it did. -/
def upgradeManySpec : ChangeSpec := { name := "upgradeMany", fn := fun _ => fun
  | [d1, d2, d3, d4] => { results := [.lit (.bool true)], args := [d1, d2, d3, d4] }
  | _ => none }
def upgradeManyRow : OpenClaim := { program := "ytpgengahgdmhmaagreat", sum := "015e6f591d46b85bbb43fa39f6eed7c169234caf2a14cbf2667f7384186596ce", func := "carryover/carryoverlaw22.UpgradeMany", spec := "upgradeMany", inPlace := ["math.Float64frombits", "math.Float64bits"], unfollowed := true, recurses := true, apart := false }
def UpgradeManySaid : Prop := upgradeManyRow.holds Tryz.pinned (OpenSpec.ofChange upgradeManySpec)

/-- ITS FALSE NEIGHBOUR: 'it returns false'. Refute it at one input. -/
def upgradeManyWrong : ChangeSpec := { name := "upgradeMany", fn := fun _ => fun
  | [d1, d2, d3, d4] => { results := [.lit (.bool false)], args := [d1, d2, d3, d4] }
  | _ => none }
def UpgradeManyWrongFalsely : Prop := upgradeManyRow.holds Tryz.pinned (OpenSpec.ofChange upgradeManyWrong)

/-- 'carryoverlaw22.UpgradeSame': WHATEVER THE INPUT: true; the input reads as it did. -/
def upgradeSameSpec : ChangeSpec := { name := "upgradeSame", fn := fun _ => fun
  | [d1, d2] => { results := [.lit (.bool true)], args := [d1, d2] }
  | _ => none }
def upgradeSameRow : OpenClaim := { program := "ytpgengahgdmhmaagreat", sum := "015e6f591d46b85bbb43fa39f6eed7c169234caf2a14cbf2667f7384186596ce", func := "carryover/carryoverlaw22.UpgradeSame", spec := "upgradeSame", inPlace := ["math.Float64frombits", "math.Float64bits"], unfollowed := true, recurses := true, apart := false }
def UpgradeSameSaid : Prop := upgradeSameRow.holds Tryz.pinned (OpenSpec.ofChange upgradeSameSpec)

/-- ITS FALSE NEIGHBOUR: 'it returns false'. Refute it at one input. -/
def upgradeSameWrong : ChangeSpec := { name := "upgradeSame", fn := fun _ => fun
  | [d1, d2] => { results := [.lit (.bool false)], args := [d1, d2] }
  | _ => none }
def UpgradeSameWrongFalsely : Prop := upgradeSameRow.holds Tryz.pinned (OpenSpec.ofChange upgradeSameWrong)

/- THE SECOND FORM. 'bulk': how many values and letters a reading holds, each counted each time it is reached (what is shared counts as often as it is met; a slice's spare places count too). A statement '..UptoSaid' is the law's where the arguments, and the package variables that the reading takes, are together of bulk at most 1048576: NARROWER than '..Said'. Prove '..Said' where nothing that the law and all that it calls make is longer than what came in: it says more and counts as full. Else prove '..UptoSaid'. A law counts once. -/
mutual
def uptoBulk {H : Type} : DataW H → Nat
  | .lit (.string bytes) => bytes.length + 1
  | .lit _ => 1
  | .nil => 1
  | .ptr d => uptoBulk d + 1
  | .slice elems spare => uptoBulkAll elems + uptoBulkAll spare + 1
  | .agg parts => uptoBulkAll parts + 1
  | .iface _ d => uptoBulk d + 1
  | .map entries => uptoBulkEntries entries + 1
  | .held _ => 1
def uptoBulkAll {H : Type} : List (DataW H) → Nat
  | [] => 0
  | d :: r => uptoBulk d + uptoBulkAll r
def uptoBulkEntries {H : Type} : List (Lit × DataW H) → Nat
  | [] => 0
  | x :: r => uptoBulkEntry x + uptoBulkEntries r
def uptoBulkEntry {H : Type} : Lit × DataW H → Nat
  | (.string bytes, d) => bytes.length + uptoBulk d + 1
  | (_, d) => uptoBulk d + 1
 end
def uptoSmall : (H : Type) → List (DataW H) → Bool := fun _ ds => decide (uptoBulkAll ds ≤ 1048576)
def OpenSpec.upto (s : _root_.Go.ChangeSpec) : _root_.Go.OpenSpec := { _root_.Go.OpenSpec.ofChange s with cond := some uptoSmall }

/-- 'carryoverlaw21.ElderSpoilt', WHERE WHAT IT READS IS OF BULK AT MOST 1048576: true; the input reads as it did. -/
def elderSpoiltUptoRow : OpenClaim := { program := "ytpgengahgdmhmaagreat", sum := "015e6f591d46b85bbb43fa39f6eed7c169234caf2a14cbf2667f7384186596ce", func := "carryover/carryoverlaw21.ElderSpoilt", spec := "elderSpoilt", inPlace := ["math.Float64frombits", "math.Float64bits"], unfollowed := true, recurses := true, apart := false, narrowed := true }
def ElderSpoiltUptoSaid : Prop := elderSpoiltUptoRow.holds Tryz.pinned (OpenSpec.upto elderSpoiltSpec)

/-- 'carryoverlaw21.ElderBursts', WHERE WHAT IT READS IS OF BULK AT MOST 1048576: true; the input reads as it did. -/
def elderBurstsUptoRow : OpenClaim := { program := "ytpgengahgdmhmaagreat", sum := "015e6f591d46b85bbb43fa39f6eed7c169234caf2a14cbf2667f7384186596ce", func := "carryover/carryoverlaw21.ElderBursts", spec := "elderBursts", inPlace := ["math.Float64frombits", "math.Float64bits"], unfollowed := true, recurses := true, apart := false, narrowed := true }
def ElderBurstsUptoSaid : Prop := elderBurstsUptoRow.holds Tryz.pinned (OpenSpec.upto elderBurstsSpec)

/-- 'carryoverlaw21.ElderBack', WHERE WHAT IT READS IS OF BULK AT MOST 1048576: true; the input reads as it did. -/
def elderBackUptoRow : OpenClaim := { program := "ytpgengahgdmhmaagreat", sum := "015e6f591d46b85bbb43fa39f6eed7c169234caf2a14cbf2667f7384186596ce", func := "carryover/carryoverlaw21.ElderBack", spec := "elderBack", inPlace := ["math.Float64frombits", "math.Float64bits"], unfollowed := true, recurses := true, apart := false, narrowed := true }
def ElderBackUptoSaid : Prop := elderBackUptoRow.holds Tryz.pinned (OpenSpec.upto elderBackSpec)

/-- 'carryoverlaw22.UpgradeSteps', WHERE WHAT IT READS IS OF BULK AT MOST 1048576: true; the input reads as it did. -/
def upgradeStepsUptoRow : OpenClaim := { program := "ytpgengahgdmhmaagreat", sum := "015e6f591d46b85bbb43fa39f6eed7c169234caf2a14cbf2667f7384186596ce", func := "carryover/carryoverlaw22.UpgradeSteps", spec := "upgradeSteps", inPlace := ["math.Float64frombits", "math.Float64bits"], unfollowed := true, recurses := true, apart := false, narrowed := true }
def UpgradeStepsUptoSaid : Prop := upgradeStepsUptoRow.holds Tryz.pinned (OpenSpec.upto upgradeStepsSpec)

/-- 'carryoverlaw22.UpgradeMany', WHERE WHAT IT READS IS OF BULK AT MOST 1048576: true; the input reads as it did. -/
def upgradeManyUptoRow : OpenClaim := { program := "ytpgengahgdmhmaagreat", sum := "015e6f591d46b85bbb43fa39f6eed7c169234caf2a14cbf2667f7384186596ce", func := "carryover/carryoverlaw22.UpgradeMany", spec := "upgradeMany", inPlace := ["math.Float64frombits", "math.Float64bits"], unfollowed := true, recurses := true, apart := false, narrowed := true }
def UpgradeManyUptoSaid : Prop := upgradeManyUptoRow.holds Tryz.pinned (OpenSpec.upto upgradeManySpec)

/-- 'carryoverlaw22.UpgradeSame', WHERE WHAT IT READS IS OF BULK AT MOST 1048576: true; the input reads as it did. -/
def upgradeSameUptoRow : OpenClaim := { program := "ytpgengahgdmhmaagreat", sum := "015e6f591d46b85bbb43fa39f6eed7c169234caf2a14cbf2667f7384186596ce", func := "carryover/carryoverlaw22.UpgradeSame", spec := "upgradeSame", inPlace := ["math.Float64frombits", "math.Float64bits"], unfollowed := true, recurses := true, apart := false, narrowed := true }
def UpgradeSameUptoSaid : Prop := upgradeSameUptoRow.holds Tryz.pinned (OpenSpec.upto upgradeSameSpec)

end Rows
end Go.Proofs.YtpgengahgdmhmaaGreat
