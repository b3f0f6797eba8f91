/-
  No cell of these rows narrows 'for every input' (looked for: loops, veiled, ifaces, maps, wideKeys, modest, calm, conditions, laid).
  DERIVED. THE GIVEN ROWS OF THIS SEAT. 13 by the template 'for every input the law returns true; each argument reads behind the call as it read before'; 0 by the template 'total and deterministic' (their statements: YtjpelmjocdodcaaTotals.lean).
  GIVEN WITH THE SEED: the statements are not yours to turn. If you find one false, say at which input.
  Laid BY PROGRAM, IN A SANDBOX (cutbox-rows.mjs): the forced cells as the released guide's own fill.sh prints them over the translation d5f43f86de473b08… (all of the seat's roots in one cut). By AI agents, Wed Nov 11 2026. No macro, syntax, notation, axiom, sorry.
-/
import Derived.Test.YtjpelmjocdodcaaChecked
import GoSem.Claim
import GoSem.ClaimJoined
import GoSem.ClaimMapViews
import Derived.JoinedTies
import Derived.KernelRfl
namespace Go.Proofs.Ytjpelmjocdodcaa
/- THE CELL 'sum', in the pinned program and in every row, IS THE sha256 OF THE DUMP (.gsa) THAT YtjpelmjocdodcaaProg.lean LOADS. Nothing in Lean hashes anything: it is a label: what it is worth is what the hold of that sum in a sandbox is worth. -/
noncomputable def Try.pinned : Pinned := { name := "ytjpelmjocdodcaa", sum := "d5f43f86de473b08312e34f3394c1ce906c1a205af7650f672008ac3ce89874d", checked := Try.checked }
namespace Rows
def none {H : Type} : Left H := { results := [], args := [] }

/-- 'sacristanlaw04.DiskFails': WHATEVER THE INPUT: true; the input reads as it did. -/
def diskFailsSpec : ChangeSpec := { name := "diskFails", fn := fun _ => fun
  | [d1, d2, d3, d4] => { results := [.lit (.bool true)], args := [d1, d2, d3, d4] }
  | _ => none }
def diskFailsRow : OpenClaim := { program := "ytjpelmjocdodcaa", sum := "d5f43f86de473b08312e34f3394c1ce906c1a205af7650f672008ac3ce89874d", func := "sacristan/sacristanlaw04.DiskFails", spec := "diskFails", inPlace := ["internal/abi.NoEscape", "internal/bytealg.MakeNoZero"], unfollowed := true, recurses := true, apart := false }
def DiskFailsSaid : Prop := diskFailsRow.holds Try.pinned (OpenSpec.ofChange diskFailsSpec)

/-- ITS FALSE NEIGHBOUR: 'it returns false'. Refute it at one input. -/
def diskFailsWrong : ChangeSpec := { name := "diskFails", fn := fun _ => fun
  | [d1, d2, d3, d4] => { results := [.lit (.bool false)], args := [d1, d2, d3, d4] }
  | _ => none }
def DiskFailsWrongFalsely : Prop := diskFailsRow.holds Try.pinned (OpenSpec.ofChange diskFailsWrong)

/-- 'sacristanlaw04.DiskBytes': WHATEVER THE INPUT: true; the input reads as it did. -/
def diskBytesSpec : ChangeSpec := { name := "diskBytes", fn := fun _ => fun
  | [d1, d2, d3, d4] => { results := [.lit (.bool true)], args := [d1, d2, d3, d4] }
  | _ => none }
def diskBytesRow : OpenClaim := { program := "ytjpelmjocdodcaa", sum := "d5f43f86de473b08312e34f3394c1ce906c1a205af7650f672008ac3ce89874d", func := "sacristan/sacristanlaw04.DiskBytes", spec := "diskBytes", inPlace := ["internal/abi.NoEscape", "internal/bytealg.MakeNoZero"], unfollowed := true, recurses := true, apart := false }
def DiskBytesSaid : Prop := diskBytesRow.holds Try.pinned (OpenSpec.ofChange diskBytesSpec)

/-- ITS FALSE NEIGHBOUR: 'it returns false'. Refute it at one input. -/
def diskBytesWrong : ChangeSpec := { name := "diskBytes", fn := fun _ => fun
  | [d1, d2, d3, d4] => { results := [.lit (.bool false)], args := [d1, d2, d3, d4] }
  | _ => none }
def DiskBytesWrongFalsely : Prop := diskBytesRow.holds Try.pinned (OpenSpec.ofChange diskBytesWrong)

/-- 'sacristanlaw04.DiskAgain': WHATEVER THE INPUT: true; the input reads as it did. -/
def diskAgainSpec : ChangeSpec := { name := "diskAgain", fn := fun _ => fun
  | [d1, d2, d3, d4, d5] => { results := [.lit (.bool true)], args := [d1, d2, d3, d4, d5] }
  | _ => none }
def diskAgainRow : OpenClaim := { program := "ytjpelmjocdodcaa", sum := "d5f43f86de473b08312e34f3394c1ce906c1a205af7650f672008ac3ce89874d", func := "sacristan/sacristanlaw04.DiskAgain", spec := "diskAgain", inPlace := ["internal/abi.NoEscape", "internal/bytealg.MakeNoZero"], unfollowed := true, recurses := true, apart := false }
def DiskAgainSaid : Prop := diskAgainRow.holds Try.pinned (OpenSpec.ofChange diskAgainSpec)

/-- ITS FALSE NEIGHBOUR: 'it returns false'. Refute it at one input. -/
def diskAgainWrong : ChangeSpec := { name := "diskAgain", fn := fun _ => fun
  | [d1, d2, d3, d4, d5] => { results := [.lit (.bool false)], args := [d1, d2, d3, d4, d5] }
  | _ => none }
def DiskAgainWrongFalsely : Prop := diskAgainRow.holds Try.pinned (OpenSpec.ofChange diskAgainWrong)

/-- 'sacristanlaw04.DiskSynced': WHATEVER THE INPUT: true; the input reads as it did. -/
def diskSyncedSpec : ChangeSpec := { name := "diskSynced", fn := fun _ => fun
  | [d1, d2, d3] => { results := [.lit (.bool true)], args := [d1, d2, d3] }
  | _ => none }
def diskSyncedRow : OpenClaim := { program := "ytjpelmjocdodcaa", sum := "d5f43f86de473b08312e34f3394c1ce906c1a205af7650f672008ac3ce89874d", func := "sacristan/sacristanlaw04.DiskSynced", spec := "diskSynced", inPlace := ["internal/abi.NoEscape", "internal/bytealg.MakeNoZero"], unfollowed := true, recurses := true, apart := false }
def DiskSyncedSaid : Prop := diskSyncedRow.holds Try.pinned (OpenSpec.ofChange diskSyncedSpec)

/-- ITS FALSE NEIGHBOUR: 'it returns false'. Refute it at one input. -/
def diskSyncedWrong : ChangeSpec := { name := "diskSynced", fn := fun _ => fun
  | [d1, d2, d3] => { results := [.lit (.bool false)], args := [d1, d2, d3] }
  | _ => none }
def DiskSyncedWrongFalsely : Prop := diskSyncedRow.holds Try.pinned (OpenSpec.ofChange diskSyncedWrong)

/-- 'sacristanlaw04.DiskExamples': WHATEVER THE INPUT: true; the input reads as it did. -/
def diskExamplesSpec : ChangeSpec := { name := "diskExamples", fn := fun _ => fun
  | [] => { results := [.lit (.bool true)], args := [] }
  | _ => none }
def diskExamplesRow : OpenClaim := { program := "ytjpelmjocdodcaa", sum := "d5f43f86de473b08312e34f3394c1ce906c1a205af7650f672008ac3ce89874d", func := "sacristan/sacristanlaw04.DiskExamples", spec := "diskExamples", inPlace := ["internal/abi.NoEscape", "internal/bytealg.MakeNoZero", "maps.clone"], unfollowed := true, recurses := true, apart := false }
def DiskExamplesSaid : Prop := diskExamplesRow.holds Try.pinned (OpenSpec.ofChange diskExamplesSpec)

/-- ITS FALSE NEIGHBOUR: 'it returns false'. Refute it at one input. -/
def diskExamplesWrong : ChangeSpec := { name := "diskExamples", fn := fun _ => fun
  | [] => { results := [.lit (.bool false)], args := [] }
  | _ => none }
def DiskExamplesWrongFalsely : Prop := diskExamplesRow.holds Try.pinned (OpenSpec.ofChange diskExamplesWrong)

/-- 'sacristanlaw04.DiskDoes': WHATEVER THE INPUT: true; the input reads as it did. -/
def diskDoesSpec : ChangeSpec := { name := "diskDoes", fn := fun _ => fun
  | [d1, d2] => { results := [.lit (.bool true)], args := [d1, d2] }
  | _ => none }
def diskDoesRow : OpenClaim := { program := "ytjpelmjocdodcaa", sum := "d5f43f86de473b08312e34f3394c1ce906c1a205af7650f672008ac3ce89874d", func := "sacristan/sacristanlaw04.DiskDoes", spec := "diskDoes", inPlace := ["internal/abi.NoEscape", "internal/bytealg.MakeNoZero", "maps.clone"], unfollowed := true, recurses := true, apart := false }
def DiskDoesSaid : Prop := diskDoesRow.holds Try.pinned (OpenSpec.ofChange diskDoesSpec)

/-- ITS FALSE NEIGHBOUR: 'it returns false'. Refute it at one input. -/
def diskDoesWrong : ChangeSpec := { name := "diskDoes", fn := fun _ => fun
  | [d1, d2] => { results := [.lit (.bool false)], args := [d1, d2] }
  | _ => none }
def DiskDoesWrongFalsely : Prop := diskDoesRow.holds Try.pinned (OpenSpec.ofChange diskDoesWrong)

/-- 'sacristanlaw06.RecordSectors': WHATEVER THE INPUT: true; the input reads as it did. -/
def recordSectorsSpec : ChangeSpec := { name := "recordSectors", fn := fun _ => fun
  | [d1, d2, d3, d4, d5] => { results := [.lit (.bool true)], args := [d1, d2, d3, d4, d5] }
  | _ => none }
def recordSectorsRow : OpenClaim := { program := "ytjpelmjocdodcaa", sum := "d5f43f86de473b08312e34f3394c1ce906c1a205af7650f672008ac3ce89874d", func := "sacristan/sacristanlaw06.RecordSectors", spec := "recordSectors", inPlace := ["internal/abi.NoEscape", "internal/bytealg.MakeNoZero"], unfollowed := true, recurses := true, apart := false }
def RecordSectorsSaid : Prop := recordSectorsRow.holds Try.pinned (OpenSpec.ofChange recordSectorsSpec)

/-- ITS FALSE NEIGHBOUR: 'it returns false'. Refute it at one input. -/
def recordSectorsWrong : ChangeSpec := { name := "recordSectors", fn := fun _ => fun
  | [d1, d2, d3, d4, d5] => { results := [.lit (.bool false)], args := [d1, d2, d3, d4, d5] }
  | _ => none }
def RecordSectorsWrongFalsely : Prop := recordSectorsRow.holds Try.pinned (OpenSpec.ofChange recordSectorsWrong)

/-- 'sacristanlaw06.RecordBack': WHATEVER THE INPUT: true; the input reads as it did. -/
def recordBackSpec : ChangeSpec := { name := "recordBack", fn := fun _ => fun
  | [d1, d2, d3, d4, d5, d6] => { results := [.lit (.bool true)], args := [d1, d2, d3, d4, d5, d6] }
  | _ => none }
def recordBackRow : OpenClaim := { program := "ytjpelmjocdodcaa", sum := "d5f43f86de473b08312e34f3394c1ce906c1a205af7650f672008ac3ce89874d", func := "sacristan/sacristanlaw06.RecordBack", spec := "recordBack", inPlace := ["internal/abi.NoEscape", "internal/bytealg.MakeNoZero"], unfollowed := true, recurses := true, apart := false }
def RecordBackSaid : Prop := recordBackRow.holds Try.pinned (OpenSpec.ofChange recordBackSpec)

/-- ITS FALSE NEIGHBOUR: 'it returns false'. Refute it at one input. -/
def recordBackWrong : ChangeSpec := { name := "recordBack", fn := fun _ => fun
  | [d1, d2, d3, d4, d5, d6] => { results := [.lit (.bool false)], args := [d1, d2, d3, d4, d5, d6] }
  | _ => none }
def RecordBackWrongFalsely : Prop := recordBackRow.holds Try.pinned (OpenSpec.ofChange recordBackWrong)

/-- 'sacristanlaw06.RecordAlone': WHATEVER THE INPUT: true; the input reads as it did. -/
def recordAloneSpec : ChangeSpec := { name := "recordAlone", fn := fun _ => fun
  | [d1, d2, d3] => { results := [.lit (.bool true)], args := [d1, d2, d3] }
  | _ => none }
def recordAloneRow : OpenClaim := { program := "ytjpelmjocdodcaa", sum := "d5f43f86de473b08312e34f3394c1ce906c1a205af7650f672008ac3ce89874d", func := "sacristan/sacristanlaw06.RecordAlone", spec := "recordAlone", inPlace := ["internal/abi.NoEscape", "internal/bytealg.MakeNoZero"], unfollowed := true, recurses := true, apart := false }
def RecordAloneSaid : Prop := recordAloneRow.holds Try.pinned (OpenSpec.ofChange recordAloneSpec)

/-- ITS FALSE NEIGHBOUR: 'it returns false'. Refute it at one input. -/
def recordAloneWrong : ChangeSpec := { name := "recordAlone", fn := fun _ => fun
  | [d1, d2, d3] => { results := [.lit (.bool false)], args := [d1, d2, d3] }
  | _ => none }
def RecordAloneWrongFalsely : Prop := recordAloneRow.holds Try.pinned (OpenSpec.ofChange recordAloneWrong)

/-- 'sacristanlaw06.RecordRow': WHATEVER THE INPUT: true; the input reads as it did. -/
def recordRowSpec : ChangeSpec := { name := "recordRow", fn := fun _ => fun
  | [d1, d2, d3] => { results := [.lit (.bool true)], args := [d1, d2, d3] }
  | _ => none }
def recordRowRow : OpenClaim := { program := "ytjpelmjocdodcaa", sum := "d5f43f86de473b08312e34f3394c1ce906c1a205af7650f672008ac3ce89874d", func := "sacristan/sacristanlaw06.RecordRow", spec := "recordRow", inPlace := ["internal/abi.NoEscape", "internal/bytealg.MakeNoZero"], unfollowed := true, recurses := true, apart := false }
def RecordRowSaid : Prop := recordRowRow.holds Try.pinned (OpenSpec.ofChange recordRowSpec)

/-- ITS FALSE NEIGHBOUR: 'it returns false'. Refute it at one input. -/
def recordRowWrong : ChangeSpec := { name := "recordRow", fn := fun _ => fun
  | [d1, d2, d3] => { results := [.lit (.bool false)], args := [d1, d2, d3] }
  | _ => none }
def RecordRowWrongFalsely : Prop := recordRowRow.holds Try.pinned (OpenSpec.ofChange recordRowWrong)

/-- 'sacristanlaw06.RecordExamples': WHATEVER THE INPUT: true; the input reads as it did. -/
def recordExamplesSpec : ChangeSpec := { name := "recordExamples", fn := fun _ => fun
  | [] => { results := [.lit (.bool true)], args := [] }
  | _ => none }
def recordExamplesRow : OpenClaim := { program := "ytjpelmjocdodcaa", sum := "d5f43f86de473b08312e34f3394c1ce906c1a205af7650f672008ac3ce89874d", func := "sacristan/sacristanlaw06.RecordExamples", spec := "recordExamples", inPlace := ["internal/abi.NoEscape", "internal/bytealg.MakeNoZero"], unfollowed := true, recurses := true, apart := false }
def RecordExamplesSaid : Prop := recordExamplesRow.holds Try.pinned (OpenSpec.ofChange recordExamplesSpec)

/-- ITS FALSE NEIGHBOUR: 'it returns false'. Refute it at one input. -/
def recordExamplesWrong : ChangeSpec := { name := "recordExamples", fn := fun _ => fun
  | [] => { results := [.lit (.bool false)], args := [] }
  | _ => none }
def RecordExamplesWrongFalsely : Prop := recordExamplesRow.holds Try.pinned (OpenSpec.ofChange recordExamplesWrong)

/-- 'sacristanlaw06.RecordReads': WHATEVER THE INPUT: true; the input reads as it did. -/
def recordReadsSpec : ChangeSpec := { name := "recordReads", fn := fun _ => fun
  | [d1, d2, d3, d4, d5] => { results := [.lit (.bool true)], args := [d1, d2, d3, d4, d5] }
  | _ => none }
def recordReadsRow : OpenClaim := { program := "ytjpelmjocdodcaa", sum := "d5f43f86de473b08312e34f3394c1ce906c1a205af7650f672008ac3ce89874d", func := "sacristan/sacristanlaw06.RecordReads", spec := "recordReads", inPlace := ["internal/abi.NoEscape", "internal/bytealg.MakeNoZero"], unfollowed := true, recurses := true, apart := false }
def RecordReadsSaid : Prop := recordReadsRow.holds Try.pinned (OpenSpec.ofChange recordReadsSpec)

/-- ITS FALSE NEIGHBOUR: 'it returns false'. Refute it at one input. -/
def recordReadsWrong : ChangeSpec := { name := "recordReads", fn := fun _ => fun
  | [d1, d2, d3, d4, d5] => { results := [.lit (.bool false)], args := [d1, d2, d3, d4, d5] }
  | _ => none }
def RecordReadsWrongFalsely : Prop := recordReadsRow.holds Try.pinned (OpenSpec.ofChange recordReadsWrong)

/-- 'sacristanlaw06.RecordTorn': WHATEVER THE INPUT: true; the input reads as it did. -/
def recordTornSpec : ChangeSpec := { name := "recordTorn", fn := fun _ => fun
  | [d1, d2, d3, d4, d5, d6, d7] => { results := [.lit (.bool true)], args := [d1, d2, d3, d4, d5, d6, d7] }
  | _ => none }
def recordTornRow : OpenClaim := { program := "ytjpelmjocdodcaa", sum := "d5f43f86de473b08312e34f3394c1ce906c1a205af7650f672008ac3ce89874d", func := "sacristan/sacristanlaw06.RecordTorn", spec := "recordTorn", inPlace := ["internal/abi.NoEscape", "internal/bytealg.MakeNoZero"], unfollowed := true, recurses := true, apart := false }
def RecordTornSaid : Prop := recordTornRow.holds Try.pinned (OpenSpec.ofChange recordTornSpec)

/-- ITS FALSE NEIGHBOUR: 'it returns false'. Refute it at one input. -/
def recordTornWrong : ChangeSpec := { name := "recordTorn", fn := fun _ => fun
  | [d1, d2, d3, d4, d5, d6, d7] => { results := [.lit (.bool false)], args := [d1, d2, d3, d4, d5, d6, d7] }
  | _ => none }
def RecordTornWrongFalsely : Prop := recordTornRow.holds Try.pinned (OpenSpec.ofChange recordTornWrong)

/- THE SECOND FORM. 'bulk': how many values and letters a reading holds, each counted each time it is reached (what is shared counts as often as it is met; a slice's spare places count too). A statement '..UptoSaid' is the law's where the arguments, and the package variables that the reading takes, are together of bulk at most 1048576: NARROWER than '..Said'. Prove '..Said' where nothing that the law and all that it calls make is longer than what came in: it says more and counts as full. Else prove '..UptoSaid'. A law counts once. -/
mutual
def uptoBulk {H : Type} : DataW H → Nat
  | .lit (.string bytes) => bytes.length + 1
  | .lit _ => 1
  | .nil => 1
  | .ptr d => uptoBulk d + 1
  | .slice elems spare => uptoBulkAll elems + uptoBulkAll spare + 1
  | .agg parts => uptoBulkAll parts + 1
  | .iface _ d => uptoBulk d + 1
  | .map entries => uptoBulkEntries entries + 1
  | .held _ => 1
def uptoBulkAll {H : Type} : List (DataW H) → Nat
  | [] => 0
  | d :: r => uptoBulk d + uptoBulkAll r
def uptoBulkEntries {H : Type} : List (Lit × DataW H) → Nat
  | [] => 0
  | x :: r => uptoBulkEntry x + uptoBulkEntries r
def uptoBulkEntry {H : Type} : Lit × DataW H → Nat
  | (.string bytes, d) => bytes.length + uptoBulk d + 1
  | (_, d) => uptoBulk d + 1
 end
def uptoSmall : (H : Type) → List (DataW H) → Bool := fun _ ds => decide (uptoBulkAll ds ≤ 1048576)
def OpenSpec.upto (s : _root_.Go.ChangeSpec) : _root_.Go.OpenSpec := { _root_.Go.OpenSpec.ofChange s with cond := some uptoSmall }

/-- 'sacristanlaw04.DiskFails', WHERE WHAT IT READS IS OF BULK AT MOST 1048576: true; the input reads as it did. -/
def diskFailsUptoRow : OpenClaim := { program := "ytjpelmjocdodcaa", sum := "d5f43f86de473b08312e34f3394c1ce906c1a205af7650f672008ac3ce89874d", func := "sacristan/sacristanlaw04.DiskFails", spec := "diskFails", inPlace := ["internal/abi.NoEscape", "internal/bytealg.MakeNoZero"], unfollowed := true, recurses := true, apart := false, narrowed := true }
def DiskFailsUptoSaid : Prop := diskFailsUptoRow.holds Try.pinned (OpenSpec.upto diskFailsSpec)

/-- 'sacristanlaw04.DiskBytes', WHERE WHAT IT READS IS OF BULK AT MOST 1048576: true; the input reads as it did. -/
def diskBytesUptoRow : OpenClaim := { program := "ytjpelmjocdodcaa", sum := "d5f43f86de473b08312e34f3394c1ce906c1a205af7650f672008ac3ce89874d", func := "sacristan/sacristanlaw04.DiskBytes", spec := "diskBytes", inPlace := ["internal/abi.NoEscape", "internal/bytealg.MakeNoZero"], unfollowed := true, recurses := true, apart := false, narrowed := true }
def DiskBytesUptoSaid : Prop := diskBytesUptoRow.holds Try.pinned (OpenSpec.upto diskBytesSpec)

/-- 'sacristanlaw04.DiskAgain', WHERE WHAT IT READS IS OF BULK AT MOST 1048576: true; the input reads as it did. -/
def diskAgainUptoRow : OpenClaim := { program := "ytjpelmjocdodcaa", sum := "d5f43f86de473b08312e34f3394c1ce906c1a205af7650f672008ac3ce89874d", func := "sacristan/sacristanlaw04.DiskAgain", spec := "diskAgain", inPlace := ["internal/abi.NoEscape", "internal/bytealg.MakeNoZero"], unfollowed := true, recurses := true, apart := false, narrowed := true }
def DiskAgainUptoSaid : Prop := diskAgainUptoRow.holds Try.pinned (OpenSpec.upto diskAgainSpec)

/-- 'sacristanlaw04.DiskSynced', WHERE WHAT IT READS IS OF BULK AT MOST 1048576: true; the input reads as it did. -/
def diskSyncedUptoRow : OpenClaim := { program := "ytjpelmjocdodcaa", sum := "d5f43f86de473b08312e34f3394c1ce906c1a205af7650f672008ac3ce89874d", func := "sacristan/sacristanlaw04.DiskSynced", spec := "diskSynced", inPlace := ["internal/abi.NoEscape", "internal/bytealg.MakeNoZero"], unfollowed := true, recurses := true, apart := false, narrowed := true }
def DiskSyncedUptoSaid : Prop := diskSyncedUptoRow.holds Try.pinned (OpenSpec.upto diskSyncedSpec)

/-- 'sacristanlaw04.DiskExamples', WHERE WHAT IT READS IS OF BULK AT MOST 1048576: true; the input reads as it did. -/
def diskExamplesUptoRow : OpenClaim := { program := "ytjpelmjocdodcaa", sum := "d5f43f86de473b08312e34f3394c1ce906c1a205af7650f672008ac3ce89874d", func := "sacristan/sacristanlaw04.DiskExamples", spec := "diskExamples", inPlace := ["internal/abi.NoEscape", "internal/bytealg.MakeNoZero", "maps.clone"], unfollowed := true, recurses := true, apart := false, narrowed := true }
def DiskExamplesUptoSaid : Prop := diskExamplesUptoRow.holds Try.pinned (OpenSpec.upto diskExamplesSpec)

/-- 'sacristanlaw04.DiskDoes', WHERE WHAT IT READS IS OF BULK AT MOST 1048576: true; the input reads as it did. -/
def diskDoesUptoRow : OpenClaim := { program := "ytjpelmjocdodcaa", sum := "d5f43f86de473b08312e34f3394c1ce906c1a205af7650f672008ac3ce89874d", func := "sacristan/sacristanlaw04.DiskDoes", spec := "diskDoes", inPlace := ["internal/abi.NoEscape", "internal/bytealg.MakeNoZero", "maps.clone"], unfollowed := true, recurses := true, apart := false, narrowed := true }
def DiskDoesUptoSaid : Prop := diskDoesUptoRow.holds Try.pinned (OpenSpec.upto diskDoesSpec)

/-- 'sacristanlaw06.RecordSectors', WHERE WHAT IT READS IS OF BULK AT MOST 1048576: true; the input reads as it did. -/
def recordSectorsUptoRow : OpenClaim := { program := "ytjpelmjocdodcaa", sum := "d5f43f86de473b08312e34f3394c1ce906c1a205af7650f672008ac3ce89874d", func := "sacristan/sacristanlaw06.RecordSectors", spec := "recordSectors", inPlace := ["internal/abi.NoEscape", "internal/bytealg.MakeNoZero"], unfollowed := true, recurses := true, apart := false, narrowed := true }
def RecordSectorsUptoSaid : Prop := recordSectorsUptoRow.holds Try.pinned (OpenSpec.upto recordSectorsSpec)

/-- 'sacristanlaw06.RecordBack', WHERE WHAT IT READS IS OF BULK AT MOST 1048576: true; the input reads as it did. -/
def recordBackUptoRow : OpenClaim := { program := "ytjpelmjocdodcaa", sum := "d5f43f86de473b08312e34f3394c1ce906c1a205af7650f672008ac3ce89874d", func := "sacristan/sacristanlaw06.RecordBack", spec := "recordBack", inPlace := ["internal/abi.NoEscape", "internal/bytealg.MakeNoZero"], unfollowed := true, recurses := true, apart := false, narrowed := true }
def RecordBackUptoSaid : Prop := recordBackUptoRow.holds Try.pinned (OpenSpec.upto recordBackSpec)

/-- 'sacristanlaw06.RecordAlone', WHERE WHAT IT READS IS OF BULK AT MOST 1048576: true; the input reads as it did. -/
def recordAloneUptoRow : OpenClaim := { program := "ytjpelmjocdodcaa", sum := "d5f43f86de473b08312e34f3394c1ce906c1a205af7650f672008ac3ce89874d", func := "sacristan/sacristanlaw06.RecordAlone", spec := "recordAlone", inPlace := ["internal/abi.NoEscape", "internal/bytealg.MakeNoZero"], unfollowed := true, recurses := true, apart := false, narrowed := true }
def RecordAloneUptoSaid : Prop := recordAloneUptoRow.holds Try.pinned (OpenSpec.upto recordAloneSpec)

/-- 'sacristanlaw06.RecordRow', WHERE WHAT IT READS IS OF BULK AT MOST 1048576: true; the input reads as it did. -/
def recordRowUptoRow : OpenClaim := { program := "ytjpelmjocdodcaa", sum := "d5f43f86de473b08312e34f3394c1ce906c1a205af7650f672008ac3ce89874d", func := "sacristan/sacristanlaw06.RecordRow", spec := "recordRow", inPlace := ["internal/abi.NoEscape", "internal/bytealg.MakeNoZero"], unfollowed := true, recurses := true, apart := false, narrowed := true }
def RecordRowUptoSaid : Prop := recordRowUptoRow.holds Try.pinned (OpenSpec.upto recordRowSpec)

/-- 'sacristanlaw06.RecordExamples', WHERE WHAT IT READS IS OF BULK AT MOST 1048576: true; the input reads as it did. -/
def recordExamplesUptoRow : OpenClaim := { program := "ytjpelmjocdodcaa", sum := "d5f43f86de473b08312e34f3394c1ce906c1a205af7650f672008ac3ce89874d", func := "sacristan/sacristanlaw06.RecordExamples", spec := "recordExamples", inPlace := ["internal/abi.NoEscape", "internal/bytealg.MakeNoZero"], unfollowed := true, recurses := true, apart := false, narrowed := true }
def RecordExamplesUptoSaid : Prop := recordExamplesUptoRow.holds Try.pinned (OpenSpec.upto recordExamplesSpec)

/-- 'sacristanlaw06.RecordReads', WHERE WHAT IT READS IS OF BULK AT MOST 1048576: true; the input reads as it did. -/
def recordReadsUptoRow : OpenClaim := { program := "ytjpelmjocdodcaa", sum := "d5f43f86de473b08312e34f3394c1ce906c1a205af7650f672008ac3ce89874d", func := "sacristan/sacristanlaw06.RecordReads", spec := "recordReads", inPlace := ["internal/abi.NoEscape", "internal/bytealg.MakeNoZero"], unfollowed := true, recurses := true, apart := false, narrowed := true }
def RecordReadsUptoSaid : Prop := recordReadsUptoRow.holds Try.pinned (OpenSpec.upto recordReadsSpec)

/-- 'sacristanlaw06.RecordTorn', WHERE WHAT IT READS IS OF BULK AT MOST 1048576: true; the input reads as it did. -/
def recordTornUptoRow : OpenClaim := { program := "ytjpelmjocdodcaa", sum := "d5f43f86de473b08312e34f3394c1ce906c1a205af7650f672008ac3ce89874d", func := "sacristan/sacristanlaw06.RecordTorn", spec := "recordTorn", inPlace := ["internal/abi.NoEscape", "internal/bytealg.MakeNoZero"], unfollowed := true, recurses := true, apart := false, narrowed := true }
def RecordTornUptoSaid : Prop := recordTornUptoRow.holds Try.pinned (OpenSpec.upto recordTornSpec)

end Rows
end Go.Proofs.Ytjpelmjocdodcaa
