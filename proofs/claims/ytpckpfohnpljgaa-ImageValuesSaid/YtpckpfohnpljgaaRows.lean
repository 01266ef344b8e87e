/-
  No cell of these rows narrows 'for every input' (looked for: loops, veiled, ifaces, maps, wideKeys, modest, calm, conditions, laid).
  DERIVED. THE GIVEN ROWS OF THIS SEAT. 12 by the template 'for every input the law returns true; each argument reads behind the call as it read before'; 0 by the template 'total and deterministic' (their statements: YtpckpfohnpljgaaTotals.lean).
  GIVEN WITH THE SEED: the statements are not yours to turn. If you find one false, say at which input.
  Laid BY PROGRAM, IN A SANDBOX (cutbox-rows.mjs): the forced cells as the released guide's own fill.sh prints them over the translation 0a8df7cd12a54fc6… (all of the seat's roots in one cut). By AI agents, Wed Nov 11 2026. No macro, syntax, notation, axiom, sorry.
-/
import Derived.Test.YtpckpfohnpljgaaChecked
import GoSem.Claim
import GoSem.ClaimJoined
import GoSem.ClaimMapViews
import Derived.JoinedTies
import Derived.KernelRfl
namespace Go.Proofs.Ytpckpfohnpljgaa
/- THE CELL 'sum', in the pinned program and in every row, IS THE sha256 OF THE DUMP (.gsa) THAT YtpckpfohnpljgaaProg.lean LOADS. Nothing in Lean hashes anything: it is a label: what it is worth is what the hold of that sum in a sandbox is worth. -/
noncomputable def Try.pinned : Pinned := { name := "ytpckpfohnpljgaa", sum := "0a8df7cd12a54fc6f6a348e4df013926533141257ad6b47085bc0e8fc6c42456", checked := Try.checked }
namespace Rows
def none {H : Type} : Left H := { results := [], args := [] }

/-- 'carryoverlaw17.ImageChecks': WHATEVER THE INPUT: true; the input reads as it did. -/
def imageChecksSpec : ChangeSpec := { name := "imageChecks", fn := fun _ => fun
  | [d1, d2] => { results := [.lit (.bool true)], args := [d1, d2] }
  | _ => none }
def imageChecksRow : OpenClaim := { program := "ytpckpfohnpljgaa", sum := "0a8df7cd12a54fc6f6a348e4df013926533141257ad6b47085bc0e8fc6c42456", func := "carryover/carryoverlaw17.ImageChecks", spec := "imageChecks", inPlace := ["math.Float64frombits", "math.Float64bits"], unfollowed := true, recurses := true, apart := false }
def ImageChecksSaid : Prop := imageChecksRow.holds Try.pinned (OpenSpec.ofChange imageChecksSpec)

/-- ITS FALSE NEIGHBOUR: 'it returns false'. Refute it at one input. -/
def imageChecksWrong : ChangeSpec := { name := "imageChecks", fn := fun _ => fun
  | [d1, d2] => { results := [.lit (.bool false)], args := [d1, d2] }
  | _ => none }
def ImageChecksWrongFalsely : Prop := imageChecksRow.holds Try.pinned (OpenSpec.ofChange imageChecksWrong)

/-- 'carryoverlaw17.ImageShapes': WHATEVER THE INPUT: true; the input reads as it did. -/
def imageShapesSpec : ChangeSpec := { name := "imageShapes", fn := fun _ => fun
  | [d1, d2, d3] => { results := [.lit (.bool true)], args := [d1, d2, d3] }
  | _ => none }
def imageShapesRow : OpenClaim := { program := "ytpckpfohnpljgaa", sum := "0a8df7cd12a54fc6f6a348e4df013926533141257ad6b47085bc0e8fc6c42456", func := "carryover/carryoverlaw17.ImageShapes", spec := "imageShapes", inPlace := ["math.Float64frombits", "math.Float64bits"], unfollowed := true, recurses := true, apart := false }
def ImageShapesSaid : Prop := imageShapesRow.holds Try.pinned (OpenSpec.ofChange imageShapesSpec)

/-- ITS FALSE NEIGHBOUR: 'it returns false'. Refute it at one input. -/
def imageShapesWrong : ChangeSpec := { name := "imageShapes", fn := fun _ => fun
  | [d1, d2, d3] => { results := [.lit (.bool false)], args := [d1, d2, d3] }
  | _ => none }
def ImageShapesWrongFalsely : Prop := imageShapesRow.holds Try.pinned (OpenSpec.ofChange imageShapesWrong)

/-- 'carryoverlaw19.SectionReads': WHATEVER THE INPUT: true; the input reads as it did. -/
def sectionReadsSpec : ChangeSpec := { name := "sectionReads", fn := fun _ => fun
  | [d1, d2, d3] => { results := [.lit (.bool true)], args := [d1, d2, d3] }
  | _ => none }
def sectionReadsRow : OpenClaim := { program := "ytpckpfohnpljgaa", sum := "0a8df7cd12a54fc6f6a348e4df013926533141257ad6b47085bc0e8fc6c42456", func := "carryover/carryoverlaw19.SectionReads", spec := "sectionReads", inPlace := ["math.Float64frombits", "math.Float64bits"], apart := false }
def SectionReadsSaid : Prop := sectionReadsRow.holds Try.pinned (OpenSpec.ofChange sectionReadsSpec)

/-- ITS FALSE NEIGHBOUR: 'it returns false'. Refute it at one input. -/
def sectionReadsWrong : ChangeSpec := { name := "sectionReads", fn := fun _ => fun
  | [d1, d2, d3] => { results := [.lit (.bool false)], args := [d1, d2, d3] }
  | _ => none }
def SectionReadsWrongFalsely : Prop := sectionReadsRow.holds Try.pinned (OpenSpec.ofChange sectionReadsWrong)

/-- 'carryoverlaw19.SectionShapes': WHATEVER THE INPUT: true; the input reads as it did. -/
def sectionShapesSpec : ChangeSpec := { name := "sectionShapes", fn := fun _ => fun
  | [d1, d2, d3, d4] => { results := [.lit (.bool true)], args := [d1, d2, d3, d4] }
  | _ => none }
def sectionShapesRow : OpenClaim := { program := "ytpckpfohnpljgaa", sum := "0a8df7cd12a54fc6f6a348e4df013926533141257ad6b47085bc0e8fc6c42456", func := "carryover/carryoverlaw19.SectionShapes", spec := "sectionShapes", inPlace := ["math.Float64frombits", "math.Float64bits"], apart := false }
def SectionShapesSaid : Prop := sectionShapesRow.holds Try.pinned (OpenSpec.ofChange sectionShapesSpec)

/-- ITS FALSE NEIGHBOUR: 'it returns false'. Refute it at one input. -/
def sectionShapesWrong : ChangeSpec := { name := "sectionShapes", fn := fun _ => fun
  | [d1, d2, d3, d4] => { results := [.lit (.bool false)], args := [d1, d2, d3, d4] }
  | _ => none }
def SectionShapesWrongFalsely : Prop := sectionShapesRow.holds Try.pinned (OpenSpec.ofChange sectionShapesWrong)

/-- 'carryoverlaw17.ImageValues': WHATEVER THE INPUT: true; the input reads as it did. -/
def imageValuesSpec : ChangeSpec := { name := "imageValues", fn := fun _ => fun
  | [d1, d2, d3] => { results := [.lit (.bool true)], args := [d1, d2, d3] }
  | _ => none }
def imageValuesRow : OpenClaim := { program := "ytpckpfohnpljgaa", sum := "0a8df7cd12a54fc6f6a348e4df013926533141257ad6b47085bc0e8fc6c42456", func := "carryover/carryoverlaw17.ImageValues", spec := "imageValues", inPlace := ["math.Float64frombits", "math.Float64bits"], unfollowed := true, recurses := true, apart := false }
def ImageValuesSaid : Prop := imageValuesRow.holds Try.pinned (OpenSpec.ofChange imageValuesSpec)

/-- ITS FALSE NEIGHBOUR: 'it returns false'. Refute it at one input. -/
def imageValuesWrong : ChangeSpec := { name := "imageValues", fn := fun _ => fun
  | [d1, d2, d3] => { results := [.lit (.bool false)], args := [d1, d2, d3] }
  | _ => none }
def ImageValuesWrongFalsely : Prop := imageValuesRow.holds Try.pinned (OpenSpec.ofChange imageValuesWrong)

/-- 'carryoverlaw19.SectionMany': WHATEVER THE INPUT: true; the input reads as it did. -/
def sectionManySpec : ChangeSpec := { name := "sectionMany", fn := fun _ => fun
  | [d1, d2] => { results := [.lit (.bool true)], args := [d1, d2] }
  | _ => none }
def sectionManyRow : OpenClaim := { program := "ytpckpfohnpljgaa", sum := "0a8df7cd12a54fc6f6a348e4df013926533141257ad6b47085bc0e8fc6c42456", func := "carryover/carryoverlaw19.SectionMany", spec := "sectionMany", inPlace := ["math.Float64frombits", "math.Float64bits"], unfollowed := true, recurses := true, apart := false }
def SectionManySaid : Prop := sectionManyRow.holds Try.pinned (OpenSpec.ofChange sectionManySpec)

/-- ITS FALSE NEIGHBOUR: 'it returns false'. Refute it at one input. -/
def sectionManyWrong : ChangeSpec := { name := "sectionMany", fn := fun _ => fun
  | [d1, d2] => { results := [.lit (.bool false)], args := [d1, d2] }
  | _ => none }
def SectionManyWrongFalsely : Prop := sectionManyRow.holds Try.pinned (OpenSpec.ofChange sectionManyWrong)

/-- 'carryoverlaw19.SectionPuts': WHATEVER THE INPUT: true; the input reads as it did. -/
def sectionPutsSpec : ChangeSpec := { name := "sectionPuts", fn := fun _ => fun
  | [d] => { results := [.lit (.bool true)], args := [d] }
  | _ => none }
def sectionPutsRow : OpenClaim := { program := "ytpckpfohnpljgaa", sum := "0a8df7cd12a54fc6f6a348e4df013926533141257ad6b47085bc0e8fc6c42456", func := "carryover/carryoverlaw19.SectionPuts", spec := "sectionPuts", inPlace := ["math.Float64frombits", "math.Float64bits"], unfollowed := true, recurses := true, apart := false }
def SectionPutsSaid : Prop := sectionPutsRow.holds Try.pinned (OpenSpec.ofChange sectionPutsSpec)

/-- ITS FALSE NEIGHBOUR: 'it returns false'. Refute it at one input. -/
def sectionPutsWrong : ChangeSpec := { name := "sectionPuts", fn := fun _ => fun
  | [d] => { results := [.lit (.bool false)], args := [d] }
  | _ => none }
def SectionPutsWrongFalsely : Prop := sectionPutsRow.holds Try.pinned (OpenSpec.ofChange sectionPutsWrong)

/-- 'carryoverlaw21.ElderVersions': WHATEVER THE INPUT: true; the input reads as it did. -/
def elderVersionsSpec : ChangeSpec := { name := "elderVersions", fn := fun _ => fun
  | [d1, d2, d3] => { results := [.lit (.bool true)], args := [d1, d2, d3] }
  | _ => none }
def elderVersionsRow : OpenClaim := { program := "ytpckpfohnpljgaa", sum := "0a8df7cd12a54fc6f6a348e4df013926533141257ad6b47085bc0e8fc6c42456", func := "carryover/carryoverlaw21.ElderVersions", spec := "elderVersions", inPlace := ["math.Float64frombits", "math.Float64bits"], unfollowed := true, recurses := true, apart := false }
def ElderVersionsSaid : Prop := elderVersionsRow.holds Try.pinned (OpenSpec.ofChange elderVersionsSpec)

/-- ITS FALSE NEIGHBOUR: 'it returns false'. Refute it at one input. -/
def elderVersionsWrong : ChangeSpec := { name := "elderVersions", fn := fun _ => fun
  | [d1, d2, d3] => { results := [.lit (.bool false)], args := [d1, d2, d3] }
  | _ => none }
def ElderVersionsWrongFalsely : Prop := elderVersionsRow.holds Try.pinned (OpenSpec.ofChange elderVersionsWrong)

/-- 'carryoverlaw20.FileSpoilt': WHATEVER THE INPUT: true; the input reads as it did. -/
def fileSpoiltSpec : ChangeSpec := { name := "fileSpoilt", fn := fun _ => fun
  | [d1, d2, d3, d4, d5, d6, d7] => { results := [.lit (.bool true)], args := [d1, d2, d3, d4, d5, d6, d7] }
  | _ => none }
def fileSpoiltRow : OpenClaim := { program := "ytpckpfohnpljgaa", sum := "0a8df7cd12a54fc6f6a348e4df013926533141257ad6b47085bc0e8fc6c42456", func := "carryover/carryoverlaw20.FileSpoilt", spec := "fileSpoilt", inPlace := ["math.Float64frombits", "math.Float64bits"], apart := false }
def FileSpoiltSaid : Prop := fileSpoiltRow.holds Try.pinned (OpenSpec.ofChange fileSpoiltSpec)

/-- ITS FALSE NEIGHBOUR: 'it returns false'. Refute it at one input. -/
def fileSpoiltWrong : ChangeSpec := { name := "fileSpoilt", fn := fun _ => fun
  | [d1, d2, d3, d4, d5, d6, d7] => { results := [.lit (.bool false)], args := [d1, d2, d3, d4, d5, d6, d7] }
  | _ => none }
def FileSpoiltWrongFalsely : Prop := fileSpoiltRow.holds Try.pinned (OpenSpec.ofChange fileSpoiltWrong)

/-- 'carryoverlaw20.FilePrefix': WHATEVER THE INPUT: true; the input reads as it did. -/
def filePrefixSpec : ChangeSpec := { name := "filePrefix", fn := fun _ => fun
  | [d1, d2] => { results := [.lit (.bool true)], args := [d1, d2] }
  | _ => none }
def filePrefixRow : OpenClaim := { program := "ytpckpfohnpljgaa", sum := "0a8df7cd12a54fc6f6a348e4df013926533141257ad6b47085bc0e8fc6c42456", func := "carryover/carryoverlaw20.FilePrefix", spec := "filePrefix", inPlace := ["math.Float64frombits", "math.Float64bits"], apart := false }
def FilePrefixSaid : Prop := filePrefixRow.holds Try.pinned (OpenSpec.ofChange filePrefixSpec)

/-- ITS FALSE NEIGHBOUR: 'it returns false'. Refute it at one input. -/
def filePrefixWrong : ChangeSpec := { name := "filePrefix", fn := fun _ => fun
  | [d1, d2] => { results := [.lit (.bool false)], args := [d1, d2] }
  | _ => none }
def FilePrefixWrongFalsely : Prop := filePrefixRow.holds Try.pinned (OpenSpec.ofChange filePrefixWrong)

/-- 'carryoverlaw20.FileBursts': WHATEVER THE INPUT: true; the input reads as it did. -/
def fileBurstsSpec : ChangeSpec := { name := "fileBursts", fn := fun _ => fun
  | [d1, d2, d3, d4] => { results := [.lit (.bool true)], args := [d1, d2, d3, d4] }
  | _ => none }
def fileBurstsRow : OpenClaim := { program := "ytpckpfohnpljgaa", sum := "0a8df7cd12a54fc6f6a348e4df013926533141257ad6b47085bc0e8fc6c42456", func := "carryover/carryoverlaw20.FileBursts", spec := "fileBursts", inPlace := ["math.Float64frombits", "math.Float64bits"], apart := false }
def FileBurstsSaid : Prop := fileBurstsRow.holds Try.pinned (OpenSpec.ofChange fileBurstsSpec)

/-- ITS FALSE NEIGHBOUR: 'it returns false'. Refute it at one input. -/
def fileBurstsWrong : ChangeSpec := { name := "fileBursts", fn := fun _ => fun
  | [d1, d2, d3, d4] => { results := [.lit (.bool false)], args := [d1, d2, d3, d4] }
  | _ => none }
def FileBurstsWrongFalsely : Prop := fileBurstsRow.holds Try.pinned (OpenSpec.ofChange fileBurstsWrong)

/-- 'carryoverlaw20.FilePuts': WHATEVER THE INPUT: true; the input reads as it did. -/
def filePutsSpec : ChangeSpec := { name := "filePuts", fn := fun _ => fun
  | [d1, d2] => { results := [.lit (.bool true)], args := [d1, d2] }
  | _ => none }
def filePutsRow : OpenClaim := { program := "ytpckpfohnpljgaa", sum := "0a8df7cd12a54fc6f6a348e4df013926533141257ad6b47085bc0e8fc6c42456", func := "carryover/carryoverlaw20.FilePuts", spec := "filePuts", inPlace := ["math.Float64frombits", "math.Float64bits"], unfollowed := true, recurses := true, apart := false }
def FilePutsSaid : Prop := filePutsRow.holds Try.pinned (OpenSpec.ofChange filePutsSpec)

/-- ITS FALSE NEIGHBOUR: 'it returns false'. Refute it at one input. -/
def filePutsWrong : ChangeSpec := { name := "filePuts", fn := fun _ => fun
  | [d1, d2] => { results := [.lit (.bool false)], args := [d1, d2] }
  | _ => none }
def FilePutsWrongFalsely : Prop := filePutsRow.holds Try.pinned (OpenSpec.ofChange filePutsWrong)

/- THE SECOND FORM. 'bulk': how many values and letters a reading holds, each counted each time it is reached (what is shared counts as often as it is met; a slice's spare places count too). A statement '..UptoSaid' is the law's where the arguments, and the package variables that the reading takes, are together of bulk at most 1048576: NARROWER than '..Said'. Prove '..Said' where nothing that the law and all that it calls make is longer than what came in: it says more and counts as full. Else prove '..UptoSaid'. A law counts once. -/
mutual
def uptoBulk {H : Type} : DataW H → Nat
  | .lit (.string bytes) => bytes.length + 1
  | .lit _ => 1
  | .nil => 1
  | .ptr d => uptoBulk d + 1
  | .slice elems spare => uptoBulkAll elems + uptoBulkAll spare + 1
  | .agg parts => uptoBulkAll parts + 1
  | .iface _ d => uptoBulk d + 1
  | .map entries => uptoBulkEntries entries + 1
  | .held _ => 1
def uptoBulkAll {H : Type} : List (DataW H) → Nat
  | [] => 0
  | d :: r => uptoBulk d + uptoBulkAll r
def uptoBulkEntries {H : Type} : List (Lit × DataW H) → Nat
  | [] => 0
  | x :: r => uptoBulkEntry x + uptoBulkEntries r
def uptoBulkEntry {H : Type} : Lit × DataW H → Nat
  | (.string bytes, d) => bytes.length + uptoBulk d + 1
  | (_, d) => uptoBulk d + 1
 end
def uptoSmall : (H : Type) → List (DataW H) → Bool := fun _ ds => decide (uptoBulkAll ds ≤ 1048576)
def OpenSpec.upto (s : _root_.Go.ChangeSpec) : _root_.Go.OpenSpec := { _root_.Go.OpenSpec.ofChange s with cond := some uptoSmall }

/-- 'carryoverlaw17.ImageChecks', WHERE WHAT IT READS IS OF BULK AT MOST 1048576: true; the input reads as it did. -/
def imageChecksUptoRow : OpenClaim := { program := "ytpckpfohnpljgaa", sum := "0a8df7cd12a54fc6f6a348e4df013926533141257ad6b47085bc0e8fc6c42456", func := "carryover/carryoverlaw17.ImageChecks", spec := "imageChecks", inPlace := ["math.Float64frombits", "math.Float64bits"], unfollowed := true, recurses := true, apart := false, narrowed := true }
def ImageChecksUptoSaid : Prop := imageChecksUptoRow.holds Try.pinned (OpenSpec.upto imageChecksSpec)

/-- 'carryoverlaw17.ImageShapes', WHERE WHAT IT READS IS OF BULK AT MOST 1048576: true; the input reads as it did. -/
def imageShapesUptoRow : OpenClaim := { program := "ytpckpfohnpljgaa", sum := "0a8df7cd12a54fc6f6a348e4df013926533141257ad6b47085bc0e8fc6c42456", func := "carryover/carryoverlaw17.ImageShapes", spec := "imageShapes", inPlace := ["math.Float64frombits", "math.Float64bits"], unfollowed := true, recurses := true, apart := false, narrowed := true }
def ImageShapesUptoSaid : Prop := imageShapesUptoRow.holds Try.pinned (OpenSpec.upto imageShapesSpec)

/-- 'carryoverlaw19.SectionReads', WHERE WHAT IT READS IS OF BULK AT MOST 1048576: true; the input reads as it did. -/
def sectionReadsUptoRow : OpenClaim := { program := "ytpckpfohnpljgaa", sum := "0a8df7cd12a54fc6f6a348e4df013926533141257ad6b47085bc0e8fc6c42456", func := "carryover/carryoverlaw19.SectionReads", spec := "sectionReads", inPlace := ["math.Float64frombits", "math.Float64bits"], apart := false, narrowed := true }
def SectionReadsUptoSaid : Prop := sectionReadsUptoRow.holds Try.pinned (OpenSpec.upto sectionReadsSpec)

/-- 'carryoverlaw19.SectionShapes', WHERE WHAT IT READS IS OF BULK AT MOST 1048576: true; the input reads as it did. -/
def sectionShapesUptoRow : OpenClaim := { program := "ytpckpfohnpljgaa", sum := "0a8df7cd12a54fc6f6a348e4df013926533141257ad6b47085bc0e8fc6c42456", func := "carryover/carryoverlaw19.SectionShapes", spec := "sectionShapes", inPlace := ["math.Float64frombits", "math.Float64bits"], apart := false, narrowed := true }
def SectionShapesUptoSaid : Prop := sectionShapesUptoRow.holds Try.pinned (OpenSpec.upto sectionShapesSpec)

/-- 'carryoverlaw17.ImageValues', WHERE WHAT IT READS IS OF BULK AT MOST 1048576: true; the input reads as it did. -/
def imageValuesUptoRow : OpenClaim := { program := "ytpckpfohnpljgaa", sum := "0a8df7cd12a54fc6f6a348e4df013926533141257ad6b47085bc0e8fc6c42456", func := "carryover/carryoverlaw17.ImageValues", spec := "imageValues", inPlace := ["math.Float64frombits", "math.Float64bits"], unfollowed := true, recurses := true, apart := false, narrowed := true }
def ImageValuesUptoSaid : Prop := imageValuesUptoRow.holds Try.pinned (OpenSpec.upto imageValuesSpec)

/-- 'carryoverlaw19.SectionMany', WHERE WHAT IT READS IS OF BULK AT MOST 1048576: true; the input reads as it did. -/
def sectionManyUptoRow : OpenClaim := { program := "ytpckpfohnpljgaa", sum := "0a8df7cd12a54fc6f6a348e4df013926533141257ad6b47085bc0e8fc6c42456", func := "carryover/carryoverlaw19.SectionMany", spec := "sectionMany", inPlace := ["math.Float64frombits", "math.Float64bits"], unfollowed := true, recurses := true, apart := false, narrowed := true }
def SectionManyUptoSaid : Prop := sectionManyUptoRow.holds Try.pinned (OpenSpec.upto sectionManySpec)

/-- 'carryoverlaw19.SectionPuts', WHERE WHAT IT READS IS OF BULK AT MOST 1048576: true; the input reads as it did. -/
def sectionPutsUptoRow : OpenClaim := { program := "ytpckpfohnpljgaa", sum := "0a8df7cd12a54fc6f6a348e4df013926533141257ad6b47085bc0e8fc6c42456", func := "carryover/carryoverlaw19.SectionPuts", spec := "sectionPuts", inPlace := ["math.Float64frombits", "math.Float64bits"], unfollowed := true, recurses := true, apart := false, narrowed := true }
def SectionPutsUptoSaid : Prop := sectionPutsUptoRow.holds Try.pinned (OpenSpec.upto sectionPutsSpec)

/-- 'carryoverlaw21.ElderVersions', WHERE WHAT IT READS IS OF BULK AT MOST 1048576: true; the input reads as it did. -/
def elderVersionsUptoRow : OpenClaim := { program := "ytpckpfohnpljgaa", sum := "0a8df7cd12a54fc6f6a348e4df013926533141257ad6b47085bc0e8fc6c42456", func := "carryover/carryoverlaw21.ElderVersions", spec := "elderVersions", inPlace := ["math.Float64frombits", "math.Float64bits"], unfollowed := true, recurses := true, apart := false, narrowed := true }
def ElderVersionsUptoSaid : Prop := elderVersionsUptoRow.holds Try.pinned (OpenSpec.upto elderVersionsSpec)

/-- 'carryoverlaw20.FileSpoilt', WHERE WHAT IT READS IS OF BULK AT MOST 1048576: true; the input reads as it did. -/
def fileSpoiltUptoRow : OpenClaim := { program := "ytpckpfohnpljgaa", sum := "0a8df7cd12a54fc6f6a348e4df013926533141257ad6b47085bc0e8fc6c42456", func := "carryover/carryoverlaw20.FileSpoilt", spec := "fileSpoilt", inPlace := ["math.Float64frombits", "math.Float64bits"], apart := false, narrowed := true }
def FileSpoiltUptoSaid : Prop := fileSpoiltUptoRow.holds Try.pinned (OpenSpec.upto fileSpoiltSpec)

/-- 'carryoverlaw20.FilePrefix', WHERE WHAT IT READS IS OF BULK AT MOST 1048576: true; the input reads as it did. -/
def filePrefixUptoRow : OpenClaim := { program := "ytpckpfohnpljgaa", sum := "0a8df7cd12a54fc6f6a348e4df013926533141257ad6b47085bc0e8fc6c42456", func := "carryover/carryoverlaw20.FilePrefix", spec := "filePrefix", inPlace := ["math.Float64frombits", "math.Float64bits"], apart := false, narrowed := true }
def FilePrefixUptoSaid : Prop := filePrefixUptoRow.holds Try.pinned (OpenSpec.upto filePrefixSpec)

/-- 'carryoverlaw20.FileBursts', WHERE WHAT IT READS IS OF BULK AT MOST 1048576: true; the input reads as it did. -/
def fileBurstsUptoRow : OpenClaim := { program := "ytpckpfohnpljgaa", sum := "0a8df7cd12a54fc6f6a348e4df013926533141257ad6b47085bc0e8fc6c42456", func := "carryover/carryoverlaw20.FileBursts", spec := "fileBursts", inPlace := ["math.Float64frombits", "math.Float64bits"], apart := false, narrowed := true }
def FileBurstsUptoSaid : Prop := fileBurstsUptoRow.holds Try.pinned (OpenSpec.upto fileBurstsSpec)

/-- 'carryoverlaw20.FilePuts', WHERE WHAT IT READS IS OF BULK AT MOST 1048576: true; the input reads as it did. -/
def filePutsUptoRow : OpenClaim := { program := "ytpckpfohnpljgaa", sum := "0a8df7cd12a54fc6f6a348e4df013926533141257ad6b47085bc0e8fc6c42456", func := "carryover/carryoverlaw20.FilePuts", spec := "filePuts", inPlace := ["math.Float64frombits", "math.Float64bits"], unfollowed := true, recurses := true, apart := false, narrowed := true }
def FilePutsUptoSaid : Prop := filePutsUptoRow.holds Try.pinned (OpenSpec.upto filePutsSpec)

end Rows
end Go.Proofs.Ytpckpfohnpljgaa
