/-
  No cell of these rows narrows 'for every input' (looked for: loops, veiled, ifaces, maps, wideKeys, modest, calm, conditions, laid).
  DERIVED. THE GIVEN ROWS OF THIS SEAT. 7 by the template 'for every input the law returns true; each argument reads behind the call as it read before'; 0 by the template 'total and deterministic' (their statements: YteiahfpnjjdkoaaGreatTotals.lean).
  GIVEN WITH THE SEED: the statements are not yours to turn. If you find one false, say at which input.
  Laid BY PROGRAM, IN A SANDBOX (cutbox-rows.mjs): the forced cells as the released guide's own fill.sh prints them over the translation 0a69535b3b5eaa47… (all of the seat's roots in one cut). By AI agents, Wed Nov 11 2026. No macro, syntax, notation, axiom, sorry.
-/
import Derived.Test.YteiahfpnjjdkoaaGreatChecked
import GoSem.Claim
import GoSem.ClaimJoined
import GoSem.ClaimMapViews
import Derived.JoinedTies
import Derived.KernelRfl
namespace Go.Proofs.YteiahfpnjjdkoaaGreat
/- THE CELL 'sum', in the pinned program and in every row, IS THE sha256 OF THE DUMP (.gsa) THAT YteiahfpnjjdkoaaGreatProg.lean LOADS. Nothing in Lean hashes anything: it is a label: what it is worth is what the hold of that sum in a sandbox is worth. -/
noncomputable def Tryz.pinned : Pinned := { name := "yteiahfpnjjdkoaagreat", sum := "0a69535b3b5eaa478b8dff15d4cd6a1562815a8842417689b10a06efa51ed0c7", checked := Tryz.checked }
namespace Rows
def none {H : Type} : Left H := { results := [], args := [] }

/-- 'carryovertop.CarryoverNext': WHATEVER THE INPUT: true; the input reads as it did. -/
def carryoverNextSpec : ChangeSpec := { name := "carryoverNext", fn := fun _ => fun
  | [d1, d2, d3, d4] => { results := [.lit (.bool true)], args := [d1, d2, d3, d4] }
  | _ => none }
def carryoverNextRow : OpenClaim := { program := "yteiahfpnjjdkoaagreat", sum := "0a69535b3b5eaa478b8dff15d4cd6a1562815a8842417689b10a06efa51ed0c7", func := "carryover/carryovertop.CarryoverNext", spec := "carryoverNext", inPlace := ["math.Float64frombits", "math.Float64bits"], unfollowed := true, recurses := true, apart := false }
def CarryoverNextSaid : Prop := carryoverNextRow.holds Tryz.pinned (OpenSpec.ofChange carryoverNextSpec)

/-- ITS FALSE NEIGHBOUR: 'it returns false'. Refute it at one input. -/
def carryoverNextWrong : ChangeSpec := { name := "carryoverNext", fn := fun _ => fun
  | [d1, d2, d3, d4] => { results := [.lit (.bool false)], args := [d1, d2, d3, d4] }
  | _ => none }
def CarryoverNextWrongFalsely : Prop := carryoverNextRow.holds Tryz.pinned (OpenSpec.ofChange carryoverNextWrong)

/-- 'carryovertop.CarryoverOrder': WHATEVER THE INPUT: true; the input reads as it did. -/
def carryoverOrderSpec : ChangeSpec := { name := "carryoverOrder", fn := fun _ => fun
  | [d1, d2, d3] => { results := [.lit (.bool true)], args := [d1, d2, d3] }
  | _ => none }
def carryoverOrderRow : OpenClaim := { program := "yteiahfpnjjdkoaagreat", sum := "0a69535b3b5eaa478b8dff15d4cd6a1562815a8842417689b10a06efa51ed0c7", func := "carryover/carryovertop.CarryoverOrder", spec := "carryoverOrder", inPlace := ["math.Float64frombits", "math.Float64bits"], unfollowed := true, recurses := true, apart := false }
def CarryoverOrderSaid : Prop := carryoverOrderRow.holds Tryz.pinned (OpenSpec.ofChange carryoverOrderSpec)

/-- ITS FALSE NEIGHBOUR: 'it returns false'. Refute it at one input. -/
def carryoverOrderWrong : ChangeSpec := { name := "carryoverOrder", fn := fun _ => fun
  | [d1, d2, d3] => { results := [.lit (.bool false)], args := [d1, d2, d3] }
  | _ => none }
def CarryoverOrderWrongFalsely : Prop := carryoverOrderRow.holds Tryz.pinned (OpenSpec.ofChange carryoverOrderWrong)

/-- 'carryoverlaw16.ScanPlays': WHATEVER THE INPUT: true; the input reads as it did. -/
def scanPlaysSpec : ChangeSpec := { name := "scanPlays", fn := fun _ => fun
  | [d1, d2, d3] => { results := [.lit (.bool true)], args := [d1, d2, d3] }
  | _ => none }
def scanPlaysRow : OpenClaim := { program := "yteiahfpnjjdkoaagreat", sum := "0a69535b3b5eaa478b8dff15d4cd6a1562815a8842417689b10a06efa51ed0c7", func := "carryover/carryoverlaw16.ScanPlays", spec := "scanPlays", inPlace := ["math.Float64frombits", "math.Float64bits"], unfollowed := true, recurses := true, apart := false }
def ScanPlaysSaid : Prop := scanPlaysRow.holds Tryz.pinned (OpenSpec.ofChange scanPlaysSpec)

/-- ITS FALSE NEIGHBOUR: 'it returns false'. Refute it at one input. -/
def scanPlaysWrong : ChangeSpec := { name := "scanPlays", fn := fun _ => fun
  | [d1, d2, d3] => { results := [.lit (.bool false)], args := [d1, d2, d3] }
  | _ => none }
def ScanPlaysWrongFalsely : Prop := scanPlaysRow.holds Tryz.pinned (OpenSpec.ofChange scanPlaysWrong)

/-- 'carryoverlaw16.ScanEnds': WHATEVER THE INPUT: true; the input reads as it did. -/
def scanEndsSpec : ChangeSpec := { name := "scanEnds", fn := fun _ => fun
  | [d1, d2, d3, d4, d5] => { results := [.lit (.bool true)], args := [d1, d2, d3, d4, d5] }
  | _ => none }
def scanEndsRow : OpenClaim := { program := "yteiahfpnjjdkoaagreat", sum := "0a69535b3b5eaa478b8dff15d4cd6a1562815a8842417689b10a06efa51ed0c7", func := "carryover/carryoverlaw16.ScanEnds", spec := "scanEnds", inPlace := ["math.Float64frombits"], unfollowed := true, recurses := true, apart := false }
def ScanEndsSaid : Prop := scanEndsRow.holds Tryz.pinned (OpenSpec.ofChange scanEndsSpec)

/-- ITS FALSE NEIGHBOUR: 'it returns false'. Refute it at one input. -/
def scanEndsWrong : ChangeSpec := { name := "scanEnds", fn := fun _ => fun
  | [d1, d2, d3, d4, d5] => { results := [.lit (.bool false)], args := [d1, d2, d3, d4, d5] }
  | _ => none }
def ScanEndsWrongFalsely : Prop := scanEndsRow.holds Tryz.pinned (OpenSpec.ofChange scanEndsWrong)

/-- 'carryoverlaw15.LaxHolds': WHATEVER THE INPUT: true; the input reads as it did. -/
def laxHoldsSpec : ChangeSpec := { name := "laxHolds", fn := fun _ => fun
  | [d1, d2, d3] => { results := [.lit (.bool true)], args := [d1, d2, d3] }
  | _ => none }
def laxHoldsRow : OpenClaim := { program := "yteiahfpnjjdkoaagreat", sum := "0a69535b3b5eaa478b8dff15d4cd6a1562815a8842417689b10a06efa51ed0c7", func := "carryover/carryoverlaw15.LaxHolds", spec := "laxHolds", inPlace := ["math.Float64frombits", "math.Float64bits"], unfollowed := true, recurses := true, apart := false }
def LaxHoldsSaid : Prop := laxHoldsRow.holds Tryz.pinned (OpenSpec.ofChange laxHoldsSpec)

/-- ITS FALSE NEIGHBOUR: 'it returns false'. Refute it at one input. -/
def laxHoldsWrong : ChangeSpec := { name := "laxHolds", fn := fun _ => fun
  | [d1, d2, d3] => { results := [.lit (.bool false)], args := [d1, d2, d3] }
  | _ => none }
def LaxHoldsWrongFalsely : Prop := laxHoldsRow.holds Tryz.pinned (OpenSpec.ofChange laxHoldsWrong)

/-- 'carryoverlaw16.ScanStill': WHATEVER THE INPUT: true; the input reads as it did. -/
def scanStillSpec : ChangeSpec := { name := "scanStill", fn := fun _ => fun
  | [d1, d2, d3] => { results := [.lit (.bool true)], args := [d1, d2, d3] }
  | _ => none }
def scanStillRow : OpenClaim := { program := "yteiahfpnjjdkoaagreat", sum := "0a69535b3b5eaa478b8dff15d4cd6a1562815a8842417689b10a06efa51ed0c7", func := "carryover/carryoverlaw16.ScanStill", spec := "scanStill", inPlace := ["math.Float64frombits", "math.Float64bits"], unfollowed := true, recurses := true, apart := false }
def ScanStillSaid : Prop := scanStillRow.holds Tryz.pinned (OpenSpec.ofChange scanStillSpec)

/-- ITS FALSE NEIGHBOUR: 'it returns false'. Refute it at one input. -/
def scanStillWrong : ChangeSpec := { name := "scanStill", fn := fun _ => fun
  | [d1, d2, d3] => { results := [.lit (.bool false)], args := [d1, d2, d3] }
  | _ => none }
def ScanStillWrongFalsely : Prop := scanStillRow.holds Tryz.pinned (OpenSpec.ofChange scanStillWrong)

/-- 'carryoverlaw16.ScanTrue': WHATEVER THE INPUT: true; the input reads as it did. -/
def scanTrueSpec : ChangeSpec := { name := "scanTrue", fn := fun _ => fun
  | [d1, d2, d3] => { results := [.lit (.bool true)], args := [d1, d2, d3] }
  | _ => none }
def scanTrueRow : OpenClaim := { program := "yteiahfpnjjdkoaagreat", sum := "0a69535b3b5eaa478b8dff15d4cd6a1562815a8842417689b10a06efa51ed0c7", func := "carryover/carryoverlaw16.ScanTrue", spec := "scanTrue", inPlace := ["math.Float64frombits", "math.Float64bits"], unfollowed := true, recurses := true, apart := false }
def ScanTrueSaid : Prop := scanTrueRow.holds Tryz.pinned (OpenSpec.ofChange scanTrueSpec)

/-- ITS FALSE NEIGHBOUR: 'it returns false'. Refute it at one input. -/
def scanTrueWrong : ChangeSpec := { name := "scanTrue", fn := fun _ => fun
  | [d1, d2, d3] => { results := [.lit (.bool false)], args := [d1, d2, d3] }
  | _ => none }
def ScanTrueWrongFalsely : Prop := scanTrueRow.holds Tryz.pinned (OpenSpec.ofChange scanTrueWrong)

/- THE SECOND FORM. 'bulk': how many values and letters a reading holds, each counted each time it is reached (what is shared counts as often as it is met; a slice's spare places count too). A statement '..UptoSaid' is the law's where the arguments, and the package variables that the reading takes, are together of bulk at most 1048576: NARROWER than '..Said'. Prove '..Said' where nothing that the law and all that it calls make is longer than what came in: it says more and counts as full. Else prove '..UptoSaid'. A law counts once. -/
mutual
def uptoBulk {H : Type} : DataW H → Nat
  | .lit (.string bytes) => bytes.length + 1
  | .lit _ => 1
  | .nil => 1
  | .ptr d => uptoBulk d + 1
  | .slice elems spare => uptoBulkAll elems + uptoBulkAll spare + 1
  | .agg parts => uptoBulkAll parts + 1
  | .iface _ d => uptoBulk d + 1
  | .map entries => uptoBulkEntries entries + 1
  | .held _ => 1
def uptoBulkAll {H : Type} : List (DataW H) → Nat
  | [] => 0
  | d :: r => uptoBulk d + uptoBulkAll r
def uptoBulkEntries {H : Type} : List (Lit × DataW H) → Nat
  | [] => 0
  | x :: r => uptoBulkEntry x + uptoBulkEntries r
def uptoBulkEntry {H : Type} : Lit × DataW H → Nat
  | (.string bytes, d) => bytes.length + uptoBulk d + 1
  | (_, d) => uptoBulk d + 1
 end
def uptoSmall : (H : Type) → List (DataW H) → Bool := fun _ ds => decide (uptoBulkAll ds ≤ 1048576)
def OpenSpec.upto (s : _root_.Go.ChangeSpec) : _root_.Go.OpenSpec := { _root_.Go.OpenSpec.ofChange s with cond := some uptoSmall }

/-- 'carryovertop.CarryoverNext', WHERE WHAT IT READS IS OF BULK AT MOST 1048576: true; the input reads as it did. -/
def carryoverNextUptoRow : OpenClaim := { program := "yteiahfpnjjdkoaagreat", sum := "0a69535b3b5eaa478b8dff15d4cd6a1562815a8842417689b10a06efa51ed0c7", func := "carryover/carryovertop.CarryoverNext", spec := "carryoverNext", inPlace := ["math.Float64frombits", "math.Float64bits"], unfollowed := true, recurses := true, apart := false, narrowed := true }
def CarryoverNextUptoSaid : Prop := carryoverNextUptoRow.holds Tryz.pinned (OpenSpec.upto carryoverNextSpec)

/-- 'carryovertop.CarryoverOrder', WHERE WHAT IT READS IS OF BULK AT MOST 1048576: true; the input reads as it did. -/
def carryoverOrderUptoRow : OpenClaim := { program := "yteiahfpnjjdkoaagreat", sum := "0a69535b3b5eaa478b8dff15d4cd6a1562815a8842417689b10a06efa51ed0c7", func := "carryover/carryovertop.CarryoverOrder", spec := "carryoverOrder", inPlace := ["math.Float64frombits", "math.Float64bits"], unfollowed := true, recurses := true, apart := false, narrowed := true }
def CarryoverOrderUptoSaid : Prop := carryoverOrderUptoRow.holds Tryz.pinned (OpenSpec.upto carryoverOrderSpec)

/-- 'carryoverlaw16.ScanPlays', WHERE WHAT IT READS IS OF BULK AT MOST 1048576: true; the input reads as it did. -/
def scanPlaysUptoRow : OpenClaim := { program := "yteiahfpnjjdkoaagreat", sum := "0a69535b3b5eaa478b8dff15d4cd6a1562815a8842417689b10a06efa51ed0c7", func := "carryover/carryoverlaw16.ScanPlays", spec := "scanPlays", inPlace := ["math.Float64frombits", "math.Float64bits"], unfollowed := true, recurses := true, apart := false, narrowed := true }
def ScanPlaysUptoSaid : Prop := scanPlaysUptoRow.holds Tryz.pinned (OpenSpec.upto scanPlaysSpec)

/-- 'carryoverlaw16.ScanEnds', WHERE WHAT IT READS IS OF BULK AT MOST 1048576: true; the input reads as it did. -/
def scanEndsUptoRow : OpenClaim := { program := "yteiahfpnjjdkoaagreat", sum := "0a69535b3b5eaa478b8dff15d4cd6a1562815a8842417689b10a06efa51ed0c7", func := "carryover/carryoverlaw16.ScanEnds", spec := "scanEnds", inPlace := ["math.Float64frombits"], unfollowed := true, recurses := true, apart := false, narrowed := true }
def ScanEndsUptoSaid : Prop := scanEndsUptoRow.holds Tryz.pinned (OpenSpec.upto scanEndsSpec)

/-- 'carryoverlaw15.LaxHolds', WHERE WHAT IT READS IS OF BULK AT MOST 1048576: true; the input reads as it did. -/
def laxHoldsUptoRow : OpenClaim := { program := "yteiahfpnjjdkoaagreat", sum := "0a69535b3b5eaa478b8dff15d4cd6a1562815a8842417689b10a06efa51ed0c7", func := "carryover/carryoverlaw15.LaxHolds", spec := "laxHolds", inPlace := ["math.Float64frombits", "math.Float64bits"], unfollowed := true, recurses := true, apart := false, narrowed := true }
def LaxHoldsUptoSaid : Prop := laxHoldsUptoRow.holds Tryz.pinned (OpenSpec.upto laxHoldsSpec)

/-- 'carryoverlaw16.ScanStill', WHERE WHAT IT READS IS OF BULK AT MOST 1048576: true; the input reads as it did. -/
def scanStillUptoRow : OpenClaim := { program := "yteiahfpnjjdkoaagreat", sum := "0a69535b3b5eaa478b8dff15d4cd6a1562815a8842417689b10a06efa51ed0c7", func := "carryover/carryoverlaw16.ScanStill", spec := "scanStill", inPlace := ["math.Float64frombits", "math.Float64bits"], unfollowed := true, recurses := true, apart := false, narrowed := true }
def ScanStillUptoSaid : Prop := scanStillUptoRow.holds Tryz.pinned (OpenSpec.upto scanStillSpec)

/-- 'carryoverlaw16.ScanTrue', WHERE WHAT IT READS IS OF BULK AT MOST 1048576: true; the input reads as it did. -/
def scanTrueUptoRow : OpenClaim := { program := "yteiahfpnjjdkoaagreat", sum := "0a69535b3b5eaa478b8dff15d4cd6a1562815a8842417689b10a06efa51ed0c7", func := "carryover/carryoverlaw16.ScanTrue", spec := "scanTrue", inPlace := ["math.Float64frombits", "math.Float64bits"], unfollowed := true, recurses := true, apart := false, narrowed := true }
def ScanTrueUptoSaid : Prop := scanTrueUptoRow.holds Tryz.pinned (OpenSpec.upto scanTrueSpec)

end Rows
end Go.Proofs.YteiahfpnjjdkoaaGreat
