/-
  No cell of these rows narrows 'for every input' (looked for: loops, veiled, ifaces, maps, wideKeys, modest, calm, conditions, laid).
  DERIVED. THE GIVEN ROWS OF THIS SEAT. 38 by the template 'for every input the law returns true; each argument reads behind the call as it read before'; 0 by the template 'total and deterministic' (their statements: YtholdgefpjepfaaTotals.lean).
  GIVEN WITH THE SEED: the statements are not yours to turn. If you find one false, say at which input.
  Laid BY PROGRAM, IN A SANDBOX (cutbox-rows.mjs): the forced cells as the released guide's own fill.sh prints them over the translation b268e0de187eae57… (all of the seat's roots in one cut). By AI agents, Wed Nov 11 2026. No macro, syntax, notation, axiom, sorry.
-/
import Derived.Test.YtholdgefpjepfaaChecked
import GoSem.Claim
import GoSem.ClaimJoined
import GoSem.ClaimMapViews
import Derived.JoinedTies
import Derived.KernelRfl
namespace Go.Proofs.Ytholdgefpjepfaa
/- THE CELL 'sum', in the pinned program and in every row, IS THE sha256 OF THE DUMP (.gsa) THAT YtholdgefpjepfaaProg.lean LOADS. Nothing in Lean hashes anything: it is a label: what it is worth is what the hold of that sum in a sandbox is worth. -/
noncomputable def Try.pinned : Pinned := { name := "ytholdgefpjepfaa", sum := "b268e0de187eae57572fcb22b9d645eb8ef96dcecd25b78358bc1c52fca952df", checked := Try.checked }
namespace Rows
def none {H : Type} : Left H := { results := [], args := [] }

/-- 'sacristanlaw25.RingWhole': WHATEVER THE INPUT: true; the input reads as it did. -/
def ringWholeSpec : ChangeSpec := { name := "ringWhole", fn := fun _ => fun
  | [d1, d2, d3, d4, d5, d6] => { results := [.lit (.bool true)], args := [d1, d2, d3, d4, d5, d6] }
  | _ => none }
def ringWholeRow : OpenClaim := { program := "ytholdgefpjepfaa", sum := "b268e0de187eae57572fcb22b9d645eb8ef96dcecd25b78358bc1c52fca952df", func := "sacristan/sacristanlaw25.RingWhole", spec := "ringWhole", unfollowed := true, recurses := true, apart := false }
def RingWholeSaid : Prop := ringWholeRow.holds Try.pinned (OpenSpec.ofChange ringWholeSpec)

/-- ITS FALSE NEIGHBOUR: 'it returns false'. Refute it at one input. -/
def ringWholeWrong : ChangeSpec := { name := "ringWhole", fn := fun _ => fun
  | [d1, d2, d3, d4, d5, d6] => { results := [.lit (.bool false)], args := [d1, d2, d3, d4, d5, d6] }
  | _ => none }
def RingWholeWrongFalsely : Prop := ringWholeRow.holds Try.pinned (OpenSpec.ofChange ringWholeWrong)

/-- 'sacristanlaw25.RingSynced': WHATEVER THE INPUT: true; the input reads as it did. -/
def ringSyncedSpec : ChangeSpec := { name := "ringSynced", fn := fun _ => fun
  | [d1, d2, d3, d4, d5, d6] => { results := [.lit (.bool true)], args := [d1, d2, d3, d4, d5, d6] }
  | _ => none }
def ringSyncedRow : OpenClaim := { program := "ytholdgefpjepfaa", sum := "b268e0de187eae57572fcb22b9d645eb8ef96dcecd25b78358bc1c52fca952df", func := "sacristan/sacristanlaw25.RingSynced", spec := "ringSynced", unfollowed := true, recurses := true, apart := false }
def RingSyncedSaid : Prop := ringSyncedRow.holds Try.pinned (OpenSpec.ofChange ringSyncedSpec)

/-- ITS FALSE NEIGHBOUR: 'it returns false'. Refute it at one input. -/
def ringSyncedWrong : ChangeSpec := { name := "ringSynced", fn := fun _ => fun
  | [d1, d2, d3, d4, d5, d6] => { results := [.lit (.bool false)], args := [d1, d2, d3, d4, d5, d6] }
  | _ => none }
def RingSyncedWrongFalsely : Prop := ringSyncedRow.holds Try.pinned (OpenSpec.ofChange ringSyncedWrong)

/-- 'sacristanlaw25.RingBounds': WHATEVER THE INPUT: true; the input reads as it did. -/
def ringBoundsSpec : ChangeSpec := { name := "ringBounds", fn := fun _ => fun
  | [d1, d2, d3] => { results := [.lit (.bool true)], args := [d1, d2, d3] }
  | _ => none }
def ringBoundsRow : OpenClaim := { program := "ytholdgefpjepfaa", sum := "b268e0de187eae57572fcb22b9d645eb8ef96dcecd25b78358bc1c52fca952df", func := "sacristan/sacristanlaw25.RingBounds", spec := "ringBounds", unfollowed := true, recurses := true, apart := false }
def RingBoundsSaid : Prop := ringBoundsRow.holds Try.pinned (OpenSpec.ofChange ringBoundsSpec)

/-- ITS FALSE NEIGHBOUR: 'it returns false'. Refute it at one input. -/
def ringBoundsWrong : ChangeSpec := { name := "ringBounds", fn := fun _ => fun
  | [d1, d2, d3] => { results := [.lit (.bool false)], args := [d1, d2, d3] }
  | _ => none }
def RingBoundsWrongFalsely : Prop := ringBoundsRow.holds Try.pinned (OpenSpec.ofChange ringBoundsWrong)

/-- 'sacristanlaw25.RingNumbers': WHATEVER THE INPUT: true; the input reads as it did. -/
def ringNumbersSpec : ChangeSpec := { name := "ringNumbers", fn := fun _ => fun
  | [d1, d2, d3] => { results := [.lit (.bool true)], args := [d1, d2, d3] }
  | _ => none }
def ringNumbersRow : OpenClaim := { program := "ytholdgefpjepfaa", sum := "b268e0de187eae57572fcb22b9d645eb8ef96dcecd25b78358bc1c52fca952df", func := "sacristan/sacristanlaw25.RingNumbers", spec := "ringNumbers", unfollowed := true, recurses := true, apart := false }
def RingNumbersSaid : Prop := ringNumbersRow.holds Try.pinned (OpenSpec.ofChange ringNumbersSpec)

/-- ITS FALSE NEIGHBOUR: 'it returns false'. Refute it at one input. -/
def ringNumbersWrong : ChangeSpec := { name := "ringNumbers", fn := fun _ => fun
  | [d1, d2, d3] => { results := [.lit (.bool false)], args := [d1, d2, d3] }
  | _ => none }
def RingNumbersWrongFalsely : Prop := ringNumbersRow.holds Try.pinned (OpenSpec.ofChange ringNumbersWrong)

/-- 'sacristanlaw25.RingExamples': WHATEVER THE INPUT: true; the input reads as it did. -/
def ringExamplesSpec : ChangeSpec := { name := "ringExamples", fn := fun _ => fun
  | [] => { results := [.lit (.bool true)], args := [] }
  | _ => none }
def ringExamplesRow : OpenClaim := { program := "ytholdgefpjepfaa", sum := "b268e0de187eae57572fcb22b9d645eb8ef96dcecd25b78358bc1c52fca952df", func := "sacristan/sacristanlaw25.RingExamples", spec := "ringExamples", unfollowed := true, recurses := true, apart := false }
def RingExamplesSaid : Prop := ringExamplesRow.holds Try.pinned (OpenSpec.ofChange ringExamplesSpec)

/-- ITS FALSE NEIGHBOUR: 'it returns false'. Refute it at one input. -/
def ringExamplesWrong : ChangeSpec := { name := "ringExamples", fn := fun _ => fun
  | [] => { results := [.lit (.bool false)], args := [] }
  | _ => none }
def RingExamplesWrongFalsely : Prop := ringExamplesRow.holds Try.pinned (OpenSpec.ofChange ringExamplesWrong)

/-- 'sacristanlaw25.RingTurns': WHATEVER THE INPUT: true; the input reads as it did. -/
def ringTurnsSpec : ChangeSpec := { name := "ringTurns", fn := fun _ => fun
  | [d1, d2, d3] => { results := [.lit (.bool true)], args := [d1, d2, d3] }
  | _ => none }
def ringTurnsRow : OpenClaim := { program := "ytholdgefpjepfaa", sum := "b268e0de187eae57572fcb22b9d645eb8ef96dcecd25b78358bc1c52fca952df", func := "sacristan/sacristanlaw25.RingTurns", spec := "ringTurns", unfollowed := true, recurses := true, apart := false }
def RingTurnsSaid : Prop := ringTurnsRow.holds Try.pinned (OpenSpec.ofChange ringTurnsSpec)

/-- ITS FALSE NEIGHBOUR: 'it returns false'. Refute it at one input. -/
def ringTurnsWrong : ChangeSpec := { name := "ringTurns", fn := fun _ => fun
  | [d1, d2, d3] => { results := [.lit (.bool false)], args := [d1, d2, d3] }
  | _ => none }
def RingTurnsWrongFalsely : Prop := ringTurnsRow.holds Try.pinned (OpenSpec.ofChange ringTurnsWrong)

/-- 'sacristanlaw24.BlockCodes': WHATEVER THE INPUT: true; the input reads as it did. -/
def blockCodesSpec : ChangeSpec := { name := "blockCodes", fn := fun _ => fun
  | [d1, d2] => { results := [.lit (.bool true)], args := [d1, d2] }
  | _ => none }
def blockCodesRow : OpenClaim := { program := "ytholdgefpjepfaa", sum := "b268e0de187eae57572fcb22b9d645eb8ef96dcecd25b78358bc1c52fca952df", func := "sacristan/sacristanlaw24.BlockCodes", spec := "blockCodes", inPlace := ["internal/abi.NoEscape", "internal/bytealg.MakeNoZero"], unfollowed := true, recurses := true, apart := false }
def BlockCodesSaid : Prop := blockCodesRow.holds Try.pinned (OpenSpec.ofChange blockCodesSpec)

/-- ITS FALSE NEIGHBOUR: 'it returns false'. Refute it at one input. -/
def blockCodesWrong : ChangeSpec := { name := "blockCodes", fn := fun _ => fun
  | [d1, d2] => { results := [.lit (.bool false)], args := [d1, d2] }
  | _ => none }
def BlockCodesWrongFalsely : Prop := blockCodesRow.holds Try.pinned (OpenSpec.ofChange blockCodesWrong)

/-- 'sacristanlaw24.BlockBack': WHATEVER THE INPUT: true; the input reads as it did. -/
def blockBackSpec : ChangeSpec := { name := "blockBack", fn := fun _ => fun
  | [d1, d2, d3] => { results := [.lit (.bool true)], args := [d1, d2, d3] }
  | _ => none }
def blockBackRow : OpenClaim := { program := "ytholdgefpjepfaa", sum := "b268e0de187eae57572fcb22b9d645eb8ef96dcecd25b78358bc1c52fca952df", func := "sacristan/sacristanlaw24.BlockBack", spec := "blockBack", inPlace := ["internal/abi.NoEscape", "internal/bytealg.MakeNoZero"], unfollowed := true, recurses := true, apart := false }
def BlockBackSaid : Prop := blockBackRow.holds Try.pinned (OpenSpec.ofChange blockBackSpec)

/-- ITS FALSE NEIGHBOUR: 'it returns false'. Refute it at one input. -/
def blockBackWrong : ChangeSpec := { name := "blockBack", fn := fun _ => fun
  | [d1, d2, d3] => { results := [.lit (.bool false)], args := [d1, d2, d3] }
  | _ => none }
def BlockBackWrongFalsely : Prop := blockBackRow.holds Try.pinned (OpenSpec.ofChange blockBackWrong)

/-- 'sacristanlaw24.BlockTorn': WHATEVER THE INPUT: true; the input reads as it did. -/
def blockTornSpec : ChangeSpec := { name := "blockTorn", fn := fun _ => fun
  | [d1, d2, d3, d4] => { results := [.lit (.bool true)], args := [d1, d2, d3, d4] }
  | _ => none }
def blockTornRow : OpenClaim := { program := "ytholdgefpjepfaa", sum := "b268e0de187eae57572fcb22b9d645eb8ef96dcecd25b78358bc1c52fca952df", func := "sacristan/sacristanlaw24.BlockTorn", spec := "blockTorn", inPlace := ["internal/abi.NoEscape", "internal/bytealg.MakeNoZero"], unfollowed := true, recurses := true, apart := false }
def BlockTornSaid : Prop := blockTornRow.holds Try.pinned (OpenSpec.ofChange blockTornSpec)

/-- ITS FALSE NEIGHBOUR: 'it returns false'. Refute it at one input. -/
def blockTornWrong : ChangeSpec := { name := "blockTorn", fn := fun _ => fun
  | [d1, d2, d3, d4] => { results := [.lit (.bool false)], args := [d1, d2, d3, d4] }
  | _ => none }
def BlockTornWrongFalsely : Prop := blockTornRow.holds Try.pinned (OpenSpec.ofChange blockTornWrong)

/-- 'sacristanlaw24.BlockBits': WHATEVER THE INPUT: true; the input reads as it did. -/
def blockBitsSpec : ChangeSpec := { name := "blockBits", fn := fun _ => fun
  | [d1, d2, d3] => { results := [.lit (.bool true)], args := [d1, d2, d3] }
  | _ => none }
def blockBitsRow : OpenClaim := { program := "ytholdgefpjepfaa", sum := "b268e0de187eae57572fcb22b9d645eb8ef96dcecd25b78358bc1c52fca952df", func := "sacristan/sacristanlaw24.BlockBits", spec := "blockBits", inPlace := ["internal/abi.NoEscape", "internal/bytealg.MakeNoZero"], unfollowed := true, recurses := true, apart := false }
def BlockBitsSaid : Prop := blockBitsRow.holds Try.pinned (OpenSpec.ofChange blockBitsSpec)

/-- ITS FALSE NEIGHBOUR: 'it returns false'. Refute it at one input. -/
def blockBitsWrong : ChangeSpec := { name := "blockBits", fn := fun _ => fun
  | [d1, d2, d3] => { results := [.lit (.bool false)], args := [d1, d2, d3] }
  | _ => none }
def BlockBitsWrongFalsely : Prop := blockBitsRow.holds Try.pinned (OpenSpec.ofChange blockBitsWrong)

/-- 'sacristanlaw05.FrameCodes': WHATEVER THE INPUT: true; the input reads as it did. -/
def frameCodesSpec : ChangeSpec := { name := "frameCodes", fn := fun _ => fun
  | [d1, d2] => { results := [.lit (.bool true)], args := [d1, d2] }
  | _ => none }
def frameCodesRow : OpenClaim := { program := "ytholdgefpjepfaa", sum := "b268e0de187eae57572fcb22b9d645eb8ef96dcecd25b78358bc1c52fca952df", func := "sacristan/sacristanlaw05.FrameCodes", spec := "frameCodes", inPlace := ["internal/abi.NoEscape", "internal/bytealg.MakeNoZero"], unfollowed := true, recurses := true, apart := false }
def FrameCodesSaid : Prop := frameCodesRow.holds Try.pinned (OpenSpec.ofChange frameCodesSpec)

/-- ITS FALSE NEIGHBOUR: 'it returns false'. Refute it at one input. -/
def frameCodesWrong : ChangeSpec := { name := "frameCodes", fn := fun _ => fun
  | [d1, d2] => { results := [.lit (.bool false)], args := [d1, d2] }
  | _ => none }
def FrameCodesWrongFalsely : Prop := frameCodesRow.holds Try.pinned (OpenSpec.ofChange frameCodesWrong)

/-- 'sacristanlaw05.FrameExamples': WHATEVER THE INPUT: true; the input reads as it did. -/
def frameExamplesSpec : ChangeSpec := { name := "frameExamples", fn := fun _ => fun
  | [] => { results := [.lit (.bool true)], args := [] }
  | _ => none }
def frameExamplesRow : OpenClaim := { program := "ytholdgefpjepfaa", sum := "b268e0de187eae57572fcb22b9d645eb8ef96dcecd25b78358bc1c52fca952df", func := "sacristan/sacristanlaw05.FrameExamples", spec := "frameExamples", inPlace := ["internal/abi.NoEscape", "internal/bytealg.MakeNoZero"], unfollowed := true, recurses := true, apart := false }
def FrameExamplesSaid : Prop := frameExamplesRow.holds Try.pinned (OpenSpec.ofChange frameExamplesSpec)

/-- ITS FALSE NEIGHBOUR: 'it returns false'. Refute it at one input. -/
def frameExamplesWrong : ChangeSpec := { name := "frameExamples", fn := fun _ => fun
  | [] => { results := [.lit (.bool false)], args := [] }
  | _ => none }
def FrameExamplesWrongFalsely : Prop := frameExamplesRow.holds Try.pinned (OpenSpec.ofChange frameExamplesWrong)

/-- 'sacristanlaw05.FrameBack': WHATEVER THE INPUT: true; the input reads as it did. -/
def frameBackSpec : ChangeSpec := { name := "frameBack", fn := fun _ => fun
  | [d1, d2, d3] => { results := [.lit (.bool true)], args := [d1, d2, d3] }
  | _ => none }
def frameBackRow : OpenClaim := { program := "ytholdgefpjepfaa", sum := "b268e0de187eae57572fcb22b9d645eb8ef96dcecd25b78358bc1c52fca952df", func := "sacristan/sacristanlaw05.FrameBack", spec := "frameBack", inPlace := ["internal/abi.NoEscape", "internal/bytealg.MakeNoZero"], unfollowed := true, recurses := true, apart := false }
def FrameBackSaid : Prop := frameBackRow.holds Try.pinned (OpenSpec.ofChange frameBackSpec)

/-- ITS FALSE NEIGHBOUR: 'it returns false'. Refute it at one input. -/
def frameBackWrong : ChangeSpec := { name := "frameBack", fn := fun _ => fun
  | [d1, d2, d3] => { results := [.lit (.bool false)], args := [d1, d2, d3] }
  | _ => none }
def FrameBackWrongFalsely : Prop := frameBackRow.holds Try.pinned (OpenSpec.ofChange frameBackWrong)

/-- 'sacristanlaw05.FrameTorn': WHATEVER THE INPUT: true; the input reads as it did. -/
def frameTornSpec : ChangeSpec := { name := "frameTorn", fn := fun _ => fun
  | [d1, d2, d3, d4] => { results := [.lit (.bool true)], args := [d1, d2, d3, d4] }
  | _ => none }
def frameTornRow : OpenClaim := { program := "ytholdgefpjepfaa", sum := "b268e0de187eae57572fcb22b9d645eb8ef96dcecd25b78358bc1c52fca952df", func := "sacristan/sacristanlaw05.FrameTorn", spec := "frameTorn", inPlace := ["internal/abi.NoEscape", "internal/bytealg.MakeNoZero"], unfollowed := true, recurses := true, apart := false }
def FrameTornSaid : Prop := frameTornRow.holds Try.pinned (OpenSpec.ofChange frameTornSpec)

/-- ITS FALSE NEIGHBOUR: 'it returns false'. Refute it at one input. -/
def frameTornWrong : ChangeSpec := { name := "frameTorn", fn := fun _ => fun
  | [d1, d2, d3, d4] => { results := [.lit (.bool false)], args := [d1, d2, d3, d4] }
  | _ => none }
def FrameTornWrongFalsely : Prop := frameTornRow.holds Try.pinned (OpenSpec.ofChange frameTornWrong)

/-- 'sacristanlaw05.FrameBits': WHATEVER THE INPUT: true; the input reads as it did. -/
def frameBitsSpec : ChangeSpec := { name := "frameBits", fn := fun _ => fun
  | [d1, d2, d3] => { results := [.lit (.bool true)], args := [d1, d2, d3] }
  | _ => none }
def frameBitsRow : OpenClaim := { program := "ytholdgefpjepfaa", sum := "b268e0de187eae57572fcb22b9d645eb8ef96dcecd25b78358bc1c52fca952df", func := "sacristan/sacristanlaw05.FrameBits", spec := "frameBits", inPlace := ["internal/abi.NoEscape", "internal/bytealg.MakeNoZero"], unfollowed := true, recurses := true, apart := false }
def FrameBitsSaid : Prop := frameBitsRow.holds Try.pinned (OpenSpec.ofChange frameBitsSpec)

/-- ITS FALSE NEIGHBOUR: 'it returns false'. Refute it at one input. -/
def frameBitsWrong : ChangeSpec := { name := "frameBits", fn := fun _ => fun
  | [d1, d2, d3] => { results := [.lit (.bool false)], args := [d1, d2, d3] }
  | _ => none }
def FrameBitsWrongFalsely : Prop := frameBitsRow.holds Try.pinned (OpenSpec.ofChange frameBitsWrong)

/-- 'sacristanlaw05.FrameOrder': WHATEVER THE INPUT: true; the input reads as it did. -/
def frameOrderSpec : ChangeSpec := { name := "frameOrder", fn := fun _ => fun
  | [d1, d2] => { results := [.lit (.bool true)], args := [d1, d2] }
  | _ => none }
def frameOrderRow : OpenClaim := { program := "ytholdgefpjepfaa", sum := "b268e0de187eae57572fcb22b9d645eb8ef96dcecd25b78358bc1c52fca952df", func := "sacristan/sacristanlaw05.FrameOrder", spec := "frameOrder", inPlace := ["internal/abi.NoEscape", "internal/bytealg.MakeNoZero"], unfollowed := true, recurses := true, apart := false }
def FrameOrderSaid : Prop := frameOrderRow.holds Try.pinned (OpenSpec.ofChange frameOrderSpec)

/-- ITS FALSE NEIGHBOUR: 'it returns false'. Refute it at one input. -/
def frameOrderWrong : ChangeSpec := { name := "frameOrder", fn := fun _ => fun
  | [d1, d2] => { results := [.lit (.bool false)], args := [d1, d2] }
  | _ => none }
def FrameOrderWrongFalsely : Prop := frameOrderRow.holds Try.pinned (OpenSpec.ofChange frameOrderWrong)

/-- 'sacristanlaw24.BlockSplits': WHATEVER THE INPUT: true; the input reads as it did. -/
def blockSplitsSpec : ChangeSpec := { name := "blockSplits", fn := fun _ => fun
  | [d1, d2, d3, d4, d5] => { results := [.lit (.bool true)], args := [d1, d2, d3, d4, d5] }
  | _ => none }
def blockSplitsRow : OpenClaim := { program := "ytholdgefpjepfaa", sum := "b268e0de187eae57572fcb22b9d645eb8ef96dcecd25b78358bc1c52fca952df", func := "sacristan/sacristanlaw24.BlockSplits", spec := "blockSplits", inPlace := ["internal/abi.NoEscape", "internal/bytealg.MakeNoZero"], unfollowed := true, recurses := true, apart := false }
def BlockSplitsSaid : Prop := blockSplitsRow.holds Try.pinned (OpenSpec.ofChange blockSplitsSpec)

/-- ITS FALSE NEIGHBOUR: 'it returns false'. Refute it at one input. -/
def blockSplitsWrong : ChangeSpec := { name := "blockSplits", fn := fun _ => fun
  | [d1, d2, d3, d4, d5] => { results := [.lit (.bool false)], args := [d1, d2, d3, d4, d5] }
  | _ => none }
def BlockSplitsWrongFalsely : Prop := blockSplitsRow.holds Try.pinned (OpenSpec.ofChange blockSplitsWrong)

/-- 'sacristanlaw24.BlockExamples': WHATEVER THE INPUT: true; the input reads as it did. -/
def blockExamplesSpec : ChangeSpec := { name := "blockExamples", fn := fun _ => fun
  | [] => { results := [.lit (.bool true)], args := [] }
  | _ => none }
def blockExamplesRow : OpenClaim := { program := "ytholdgefpjepfaa", sum := "b268e0de187eae57572fcb22b9d645eb8ef96dcecd25b78358bc1c52fca952df", func := "sacristan/sacristanlaw24.BlockExamples", spec := "blockExamples", inPlace := ["internal/abi.NoEscape", "internal/bytealg.MakeNoZero"], unfollowed := true, recurses := true, apart := false }
def BlockExamplesSaid : Prop := blockExamplesRow.holds Try.pinned (OpenSpec.ofChange blockExamplesSpec)

/-- ITS FALSE NEIGHBOUR: 'it returns false'. Refute it at one input. -/
def blockExamplesWrong : ChangeSpec := { name := "blockExamples", fn := fun _ => fun
  | [] => { results := [.lit (.bool false)], args := [] }
  | _ => none }
def BlockExamplesWrongFalsely : Prop := blockExamplesRow.holds Try.pinned (OpenSpec.ofChange blockExamplesWrong)

/-- 'sacristanlaw24.BlockPieces': WHATEVER THE INPUT: true; the input reads as it did. -/
def blockPiecesSpec : ChangeSpec := { name := "blockPieces", fn := fun _ => fun
  | [d1, d2, d3, d4, d5] => { results := [.lit (.bool true)], args := [d1, d2, d3, d4, d5] }
  | _ => none }
def blockPiecesRow : OpenClaim := { program := "ytholdgefpjepfaa", sum := "b268e0de187eae57572fcb22b9d645eb8ef96dcecd25b78358bc1c52fca952df", func := "sacristan/sacristanlaw24.BlockPieces", spec := "blockPieces", inPlace := ["internal/abi.NoEscape", "internal/bytealg.MakeNoZero"], unfollowed := true, recurses := true, apart := false }
def BlockPiecesSaid : Prop := blockPiecesRow.holds Try.pinned (OpenSpec.ofChange blockPiecesSpec)

/-- ITS FALSE NEIGHBOUR: 'it returns false'. Refute it at one input. -/
def blockPiecesWrong : ChangeSpec := { name := "blockPieces", fn := fun _ => fun
  | [d1, d2, d3, d4, d5] => { results := [.lit (.bool false)], args := [d1, d2, d3, d4, d5] }
  | _ => none }
def BlockPiecesWrongFalsely : Prop := blockPiecesRow.holds Try.pinned (OpenSpec.ofChange blockPiecesWrong)

/-- 'sacristanlaw04.DiskFails': WHATEVER THE INPUT: true; the input reads as it did. -/
def diskFailsSpec : ChangeSpec := { name := "diskFails", fn := fun _ => fun
  | [d1, d2, d3, d4] => { results := [.lit (.bool true)], args := [d1, d2, d3, d4] }
  | _ => none }
def diskFailsRow : OpenClaim := { program := "ytholdgefpjepfaa", sum := "b268e0de187eae57572fcb22b9d645eb8ef96dcecd25b78358bc1c52fca952df", func := "sacristan/sacristanlaw04.DiskFails", spec := "diskFails", inPlace := ["internal/abi.NoEscape", "internal/bytealg.MakeNoZero"], unfollowed := true, recurses := true, apart := false }
def DiskFailsSaid : Prop := diskFailsRow.holds Try.pinned (OpenSpec.ofChange diskFailsSpec)

/-- ITS FALSE NEIGHBOUR: 'it returns false'. Refute it at one input. -/
def diskFailsWrong : ChangeSpec := { name := "diskFails", fn := fun _ => fun
  | [d1, d2, d3, d4] => { results := [.lit (.bool false)], args := [d1, d2, d3, d4] }
  | _ => none }
def DiskFailsWrongFalsely : Prop := diskFailsRow.holds Try.pinned (OpenSpec.ofChange diskFailsWrong)

/-- 'sacristanlaw04.DiskBytes': WHATEVER THE INPUT: true; the input reads as it did. -/
def diskBytesSpec : ChangeSpec := { name := "diskBytes", fn := fun _ => fun
  | [d1, d2, d3, d4] => { results := [.lit (.bool true)], args := [d1, d2, d3, d4] }
  | _ => none }
def diskBytesRow : OpenClaim := { program := "ytholdgefpjepfaa", sum := "b268e0de187eae57572fcb22b9d645eb8ef96dcecd25b78358bc1c52fca952df", func := "sacristan/sacristanlaw04.DiskBytes", spec := "diskBytes", inPlace := ["internal/abi.NoEscape", "internal/bytealg.MakeNoZero"], unfollowed := true, recurses := true, apart := false }
def DiskBytesSaid : Prop := diskBytesRow.holds Try.pinned (OpenSpec.ofChange diskBytesSpec)

/-- ITS FALSE NEIGHBOUR: 'it returns false'. Refute it at one input. -/
def diskBytesWrong : ChangeSpec := { name := "diskBytes", fn := fun _ => fun
  | [d1, d2, d3, d4] => { results := [.lit (.bool false)], args := [d1, d2, d3, d4] }
  | _ => none }
def DiskBytesWrongFalsely : Prop := diskBytesRow.holds Try.pinned (OpenSpec.ofChange diskBytesWrong)

/-- 'sacristanlaw04.DiskAgain': WHATEVER THE INPUT: true; the input reads as it did. -/
def diskAgainSpec : ChangeSpec := { name := "diskAgain", fn := fun _ => fun
  | [d1, d2, d3, d4, d5] => { results := [.lit (.bool true)], args := [d1, d2, d3, d4, d5] }
  | _ => none }
def diskAgainRow : OpenClaim := { program := "ytholdgefpjepfaa", sum := "b268e0de187eae57572fcb22b9d645eb8ef96dcecd25b78358bc1c52fca952df", func := "sacristan/sacristanlaw04.DiskAgain", spec := "diskAgain", inPlace := ["internal/abi.NoEscape", "internal/bytealg.MakeNoZero"], unfollowed := true, recurses := true, apart := false }
def DiskAgainSaid : Prop := diskAgainRow.holds Try.pinned (OpenSpec.ofChange diskAgainSpec)

/-- ITS FALSE NEIGHBOUR: 'it returns false'. Refute it at one input. -/
def diskAgainWrong : ChangeSpec := { name := "diskAgain", fn := fun _ => fun
  | [d1, d2, d3, d4, d5] => { results := [.lit (.bool false)], args := [d1, d2, d3, d4, d5] }
  | _ => none }
def DiskAgainWrongFalsely : Prop := diskAgainRow.holds Try.pinned (OpenSpec.ofChange diskAgainWrong)

/-- 'sacristanlaw04.DiskSynced': WHATEVER THE INPUT: true; the input reads as it did. -/
def diskSyncedSpec : ChangeSpec := { name := "diskSynced", fn := fun _ => fun
  | [d1, d2, d3] => { results := [.lit (.bool true)], args := [d1, d2, d3] }
  | _ => none }
def diskSyncedRow : OpenClaim := { program := "ytholdgefpjepfaa", sum := "b268e0de187eae57572fcb22b9d645eb8ef96dcecd25b78358bc1c52fca952df", func := "sacristan/sacristanlaw04.DiskSynced", spec := "diskSynced", inPlace := ["internal/abi.NoEscape", "internal/bytealg.MakeNoZero"], unfollowed := true, recurses := true, apart := false }
def DiskSyncedSaid : Prop := diskSyncedRow.holds Try.pinned (OpenSpec.ofChange diskSyncedSpec)

/-- ITS FALSE NEIGHBOUR: 'it returns false'. Refute it at one input. -/
def diskSyncedWrong : ChangeSpec := { name := "diskSynced", fn := fun _ => fun
  | [d1, d2, d3] => { results := [.lit (.bool false)], args := [d1, d2, d3] }
  | _ => none }
def DiskSyncedWrongFalsely : Prop := diskSyncedRow.holds Try.pinned (OpenSpec.ofChange diskSyncedWrong)

/-- 'sacristanlaw04.DiskExamples': WHATEVER THE INPUT: true; the input reads as it did. -/
def diskExamplesSpec : ChangeSpec := { name := "diskExamples", fn := fun _ => fun
  | [] => { results := [.lit (.bool true)], args := [] }
  | _ => none }
def diskExamplesRow : OpenClaim := { program := "ytholdgefpjepfaa", sum := "b268e0de187eae57572fcb22b9d645eb8ef96dcecd25b78358bc1c52fca952df", func := "sacristan/sacristanlaw04.DiskExamples", spec := "diskExamples", inPlace := ["internal/abi.NoEscape", "internal/bytealg.MakeNoZero", "maps.clone"], unfollowed := true, recurses := true, apart := false }
def DiskExamplesSaid : Prop := diskExamplesRow.holds Try.pinned (OpenSpec.ofChange diskExamplesSpec)

/-- ITS FALSE NEIGHBOUR: 'it returns false'. Refute it at one input. -/
def diskExamplesWrong : ChangeSpec := { name := "diskExamples", fn := fun _ => fun
  | [] => { results := [.lit (.bool false)], args := [] }
  | _ => none }
def DiskExamplesWrongFalsely : Prop := diskExamplesRow.holds Try.pinned (OpenSpec.ofChange diskExamplesWrong)

/-- 'sacristanlaw04.DiskDoes': WHATEVER THE INPUT: true; the input reads as it did. -/
def diskDoesSpec : ChangeSpec := { name := "diskDoes", fn := fun _ => fun
  | [d1, d2] => { results := [.lit (.bool true)], args := [d1, d2] }
  | _ => none }
def diskDoesRow : OpenClaim := { program := "ytholdgefpjepfaa", sum := "b268e0de187eae57572fcb22b9d645eb8ef96dcecd25b78358bc1c52fca952df", func := "sacristan/sacristanlaw04.DiskDoes", spec := "diskDoes", inPlace := ["internal/abi.NoEscape", "internal/bytealg.MakeNoZero", "maps.clone"], unfollowed := true, recurses := true, apart := false }
def DiskDoesSaid : Prop := diskDoesRow.holds Try.pinned (OpenSpec.ofChange diskDoesSpec)

/-- ITS FALSE NEIGHBOUR: 'it returns false'. Refute it at one input. -/
def diskDoesWrong : ChangeSpec := { name := "diskDoes", fn := fun _ => fun
  | [d1, d2] => { results := [.lit (.bool false)], args := [d1, d2] }
  | _ => none }
def DiskDoesWrongFalsely : Prop := diskDoesRow.holds Try.pinned (OpenSpec.ofChange diskDoesWrong)

/-- 'sacristanlaw07.SlotsCodes': WHATEVER THE INPUT: true; the input reads as it did. -/
def slotsCodesSpec : ChangeSpec := { name := "slotsCodes", fn := fun _ => fun
  | [d1, d2] => { results := [.lit (.bool true)], args := [d1, d2] }
  | _ => none }
def slotsCodesRow : OpenClaim := { program := "ytholdgefpjepfaa", sum := "b268e0de187eae57572fcb22b9d645eb8ef96dcecd25b78358bc1c52fca952df", func := "sacristan/sacristanlaw07.SlotsCodes", spec := "slotsCodes", inPlace := ["internal/abi.NoEscape", "internal/bytealg.MakeNoZero"], unfollowed := true, recurses := true, apart := false }
def SlotsCodesSaid : Prop := slotsCodesRow.holds Try.pinned (OpenSpec.ofChange slotsCodesSpec)

/-- ITS FALSE NEIGHBOUR: 'it returns false'. Refute it at one input. -/
def slotsCodesWrong : ChangeSpec := { name := "slotsCodes", fn := fun _ => fun
  | [d1, d2] => { results := [.lit (.bool false)], args := [d1, d2] }
  | _ => none }
def SlotsCodesWrongFalsely : Prop := slotsCodesRow.holds Try.pinned (OpenSpec.ofChange slotsCodesWrong)

/-- 'sacristanlaw07.SlotsBack': WHATEVER THE INPUT: true; the input reads as it did. -/
def slotsBackSpec : ChangeSpec := { name := "slotsBack", fn := fun _ => fun
  | [d1, d2, d3] => { results := [.lit (.bool true)], args := [d1, d2, d3] }
  | _ => none }
def slotsBackRow : OpenClaim := { program := "ytholdgefpjepfaa", sum := "b268e0de187eae57572fcb22b9d645eb8ef96dcecd25b78358bc1c52fca952df", func := "sacristan/sacristanlaw07.SlotsBack", spec := "slotsBack", inPlace := ["internal/abi.NoEscape", "internal/bytealg.MakeNoZero"], unfollowed := true, recurses := true, apart := false }
def SlotsBackSaid : Prop := slotsBackRow.holds Try.pinned (OpenSpec.ofChange slotsBackSpec)

/-- ITS FALSE NEIGHBOUR: 'it returns false'. Refute it at one input. -/
def slotsBackWrong : ChangeSpec := { name := "slotsBack", fn := fun _ => fun
  | [d1, d2, d3] => { results := [.lit (.bool false)], args := [d1, d2, d3] }
  | _ => none }
def SlotsBackWrongFalsely : Prop := slotsBackRow.holds Try.pinned (OpenSpec.ofChange slotsBackWrong)

/-- 'sacristanlaw07.SlotsHurt': WHATEVER THE INPUT: true; the input reads as it did. -/
def slotsHurtSpec : ChangeSpec := { name := "slotsHurt", fn := fun _ => fun
  | [d1, d2, d3] => { results := [.lit (.bool true)], args := [d1, d2, d3] }
  | _ => none }
def slotsHurtRow : OpenClaim := { program := "ytholdgefpjepfaa", sum := "b268e0de187eae57572fcb22b9d645eb8ef96dcecd25b78358bc1c52fca952df", func := "sacristan/sacristanlaw07.SlotsHurt", spec := "slotsHurt", inPlace := ["internal/abi.NoEscape", "internal/bytealg.MakeNoZero"], unfollowed := true, recurses := true, apart := false }
def SlotsHurtSaid : Prop := slotsHurtRow.holds Try.pinned (OpenSpec.ofChange slotsHurtSpec)

/-- ITS FALSE NEIGHBOUR: 'it returns false'. Refute it at one input. -/
def slotsHurtWrong : ChangeSpec := { name := "slotsHurt", fn := fun _ => fun
  | [d1, d2, d3] => { results := [.lit (.bool false)], args := [d1, d2, d3] }
  | _ => none }
def SlotsHurtWrongFalsely : Prop := slotsHurtRow.holds Try.pinned (OpenSpec.ofChange slotsHurtWrong)

/-- 'sacristanlaw06.RecordSectors': WHATEVER THE INPUT: true; the input reads as it did. -/
def recordSectorsSpec : ChangeSpec := { name := "recordSectors", fn := fun _ => fun
  | [d1, d2, d3, d4, d5] => { results := [.lit (.bool true)], args := [d1, d2, d3, d4, d5] }
  | _ => none }
def recordSectorsRow : OpenClaim := { program := "ytholdgefpjepfaa", sum := "b268e0de187eae57572fcb22b9d645eb8ef96dcecd25b78358bc1c52fca952df", func := "sacristan/sacristanlaw06.RecordSectors", spec := "recordSectors", inPlace := ["internal/abi.NoEscape", "internal/bytealg.MakeNoZero"], unfollowed := true, recurses := true, apart := false }
def RecordSectorsSaid : Prop := recordSectorsRow.holds Try.pinned (OpenSpec.ofChange recordSectorsSpec)

/-- ITS FALSE NEIGHBOUR: 'it returns false'. Refute it at one input. -/
def recordSectorsWrong : ChangeSpec := { name := "recordSectors", fn := fun _ => fun
  | [d1, d2, d3, d4, d5] => { results := [.lit (.bool false)], args := [d1, d2, d3, d4, d5] }
  | _ => none }
def RecordSectorsWrongFalsely : Prop := recordSectorsRow.holds Try.pinned (OpenSpec.ofChange recordSectorsWrong)

/-- 'sacristanlaw06.RecordBack': WHATEVER THE INPUT: true; the input reads as it did. -/
def recordBackSpec : ChangeSpec := { name := "recordBack", fn := fun _ => fun
  | [d1, d2, d3, d4, d5, d6] => { results := [.lit (.bool true)], args := [d1, d2, d3, d4, d5, d6] }
  | _ => none }
def recordBackRow : OpenClaim := { program := "ytholdgefpjepfaa", sum := "b268e0de187eae57572fcb22b9d645eb8ef96dcecd25b78358bc1c52fca952df", func := "sacristan/sacristanlaw06.RecordBack", spec := "recordBack", inPlace := ["internal/abi.NoEscape", "internal/bytealg.MakeNoZero"], unfollowed := true, recurses := true, apart := false }
def RecordBackSaid : Prop := recordBackRow.holds Try.pinned (OpenSpec.ofChange recordBackSpec)

/-- ITS FALSE NEIGHBOUR: 'it returns false'. Refute it at one input. -/
def recordBackWrong : ChangeSpec := { name := "recordBack", fn := fun _ => fun
  | [d1, d2, d3, d4, d5, d6] => { results := [.lit (.bool false)], args := [d1, d2, d3, d4, d5, d6] }
  | _ => none }
def RecordBackWrongFalsely : Prop := recordBackRow.holds Try.pinned (OpenSpec.ofChange recordBackWrong)

/-- 'sacristanlaw06.RecordAlone': WHATEVER THE INPUT: true; the input reads as it did. -/
def recordAloneSpec : ChangeSpec := { name := "recordAlone", fn := fun _ => fun
  | [d1, d2, d3] => { results := [.lit (.bool true)], args := [d1, d2, d3] }
  | _ => none }
def recordAloneRow : OpenClaim := { program := "ytholdgefpjepfaa", sum := "b268e0de187eae57572fcb22b9d645eb8ef96dcecd25b78358bc1c52fca952df", func := "sacristan/sacristanlaw06.RecordAlone", spec := "recordAlone", inPlace := ["internal/abi.NoEscape", "internal/bytealg.MakeNoZero"], unfollowed := true, recurses := true, apart := false }
def RecordAloneSaid : Prop := recordAloneRow.holds Try.pinned (OpenSpec.ofChange recordAloneSpec)

/-- ITS FALSE NEIGHBOUR: 'it returns false'. Refute it at one input. -/
def recordAloneWrong : ChangeSpec := { name := "recordAlone", fn := fun _ => fun
  | [d1, d2, d3] => { results := [.lit (.bool false)], args := [d1, d2, d3] }
  | _ => none }
def RecordAloneWrongFalsely : Prop := recordAloneRow.holds Try.pinned (OpenSpec.ofChange recordAloneWrong)

/-- 'sacristanlaw06.RecordRow': WHATEVER THE INPUT: true; the input reads as it did. -/
def recordRowSpec : ChangeSpec := { name := "recordRow", fn := fun _ => fun
  | [d1, d2, d3] => { results := [.lit (.bool true)], args := [d1, d2, d3] }
  | _ => none }
def recordRowRow : OpenClaim := { program := "ytholdgefpjepfaa", sum := "b268e0de187eae57572fcb22b9d645eb8ef96dcecd25b78358bc1c52fca952df", func := "sacristan/sacristanlaw06.RecordRow", spec := "recordRow", inPlace := ["internal/abi.NoEscape", "internal/bytealg.MakeNoZero"], unfollowed := true, recurses := true, apart := false }
def RecordRowSaid : Prop := recordRowRow.holds Try.pinned (OpenSpec.ofChange recordRowSpec)

/-- ITS FALSE NEIGHBOUR: 'it returns false'. Refute it at one input. -/
def recordRowWrong : ChangeSpec := { name := "recordRow", fn := fun _ => fun
  | [d1, d2, d3] => { results := [.lit (.bool false)], args := [d1, d2, d3] }
  | _ => none }
def RecordRowWrongFalsely : Prop := recordRowRow.holds Try.pinned (OpenSpec.ofChange recordRowWrong)

/-- 'sacristanlaw07.SlotsOne': WHATEVER THE INPUT: true; the input reads as it did. -/
def slotsOneSpec : ChangeSpec := { name := "slotsOne", fn := fun _ => fun
  | [d] => { results := [.lit (.bool true)], args := [d] }
  | _ => none }
def slotsOneRow : OpenClaim := { program := "ytholdgefpjepfaa", sum := "b268e0de187eae57572fcb22b9d645eb8ef96dcecd25b78358bc1c52fca952df", func := "sacristan/sacristanlaw07.SlotsOne", spec := "slotsOne", inPlace := ["internal/abi.NoEscape", "internal/bytealg.MakeNoZero"], unfollowed := true, recurses := true, apart := false }
def SlotsOneSaid : Prop := slotsOneRow.holds Try.pinned (OpenSpec.ofChange slotsOneSpec)

/-- ITS FALSE NEIGHBOUR: 'it returns false'. Refute it at one input. -/
def slotsOneWrong : ChangeSpec := { name := "slotsOne", fn := fun _ => fun
  | [d] => { results := [.lit (.bool false)], args := [d] }
  | _ => none }
def SlotsOneWrongFalsely : Prop := slotsOneRow.holds Try.pinned (OpenSpec.ofChange slotsOneWrong)

/-- 'sacristanlaw07.SlotsExamples': WHATEVER THE INPUT: true; the input reads as it did. -/
def slotsExamplesSpec : ChangeSpec := { name := "slotsExamples", fn := fun _ => fun
  | [] => { results := [.lit (.bool true)], args := [] }
  | _ => none }
def slotsExamplesRow : OpenClaim := { program := "ytholdgefpjepfaa", sum := "b268e0de187eae57572fcb22b9d645eb8ef96dcecd25b78358bc1c52fca952df", func := "sacristan/sacristanlaw07.SlotsExamples", spec := "slotsExamples", inPlace := ["internal/abi.NoEscape", "internal/bytealg.MakeNoZero"], unfollowed := true, recurses := true, apart := false }
def SlotsExamplesSaid : Prop := slotsExamplesRow.holds Try.pinned (OpenSpec.ofChange slotsExamplesSpec)

/-- ITS FALSE NEIGHBOUR: 'it returns false'. Refute it at one input. -/
def slotsExamplesWrong : ChangeSpec := { name := "slotsExamples", fn := fun _ => fun
  | [] => { results := [.lit (.bool false)], args := [] }
  | _ => none }
def SlotsExamplesWrongFalsely : Prop := slotsExamplesRow.holds Try.pinned (OpenSpec.ofChange slotsExamplesWrong)

/-- 'sacristanlaw06.RecordExamples': WHATEVER THE INPUT: true; the input reads as it did. -/
def recordExamplesSpec : ChangeSpec := { name := "recordExamples", fn := fun _ => fun
  | [] => { results := [.lit (.bool true)], args := [] }
  | _ => none }
def recordExamplesRow : OpenClaim := { program := "ytholdgefpjepfaa", sum := "b268e0de187eae57572fcb22b9d645eb8ef96dcecd25b78358bc1c52fca952df", func := "sacristan/sacristanlaw06.RecordExamples", spec := "recordExamples", inPlace := ["internal/abi.NoEscape", "internal/bytealg.MakeNoZero"], unfollowed := true, recurses := true, apart := false }
def RecordExamplesSaid : Prop := recordExamplesRow.holds Try.pinned (OpenSpec.ofChange recordExamplesSpec)

/-- ITS FALSE NEIGHBOUR: 'it returns false'. Refute it at one input. -/
def recordExamplesWrong : ChangeSpec := { name := "recordExamples", fn := fun _ => fun
  | [] => { results := [.lit (.bool false)], args := [] }
  | _ => none }
def RecordExamplesWrongFalsely : Prop := recordExamplesRow.holds Try.pinned (OpenSpec.ofChange recordExamplesWrong)

/-- 'sacristanlaw07.SlotsDoes': WHATEVER THE INPUT: true; the input reads as it did. -/
def slotsDoesSpec : ChangeSpec := { name := "slotsDoes", fn := fun _ => fun
  | [d1, d2] => { results := [.lit (.bool true)], args := [d1, d2] }
  | _ => none }
def slotsDoesRow : OpenClaim := { program := "ytholdgefpjepfaa", sum := "b268e0de187eae57572fcb22b9d645eb8ef96dcecd25b78358bc1c52fca952df", func := "sacristan/sacristanlaw07.SlotsDoes", spec := "slotsDoes", inPlace := ["internal/abi.NoEscape", "internal/bytealg.MakeNoZero"], unfollowed := true, recurses := true, apart := false }
def SlotsDoesSaid : Prop := slotsDoesRow.holds Try.pinned (OpenSpec.ofChange slotsDoesSpec)

/-- ITS FALSE NEIGHBOUR: 'it returns false'. Refute it at one input. -/
def slotsDoesWrong : ChangeSpec := { name := "slotsDoes", fn := fun _ => fun
  | [d1, d2] => { results := [.lit (.bool false)], args := [d1, d2] }
  | _ => none }
def SlotsDoesWrongFalsely : Prop := slotsDoesRow.holds Try.pinned (OpenSpec.ofChange slotsDoesWrong)

/-- 'sacristanlaw06.RecordReads': WHATEVER THE INPUT: true; the input reads as it did. -/
def recordReadsSpec : ChangeSpec := { name := "recordReads", fn := fun _ => fun
  | [d1, d2, d3, d4, d5] => { results := [.lit (.bool true)], args := [d1, d2, d3, d4, d5] }
  | _ => none }
def recordReadsRow : OpenClaim := { program := "ytholdgefpjepfaa", sum := "b268e0de187eae57572fcb22b9d645eb8ef96dcecd25b78358bc1c52fca952df", func := "sacristan/sacristanlaw06.RecordReads", spec := "recordReads", inPlace := ["internal/abi.NoEscape", "internal/bytealg.MakeNoZero"], unfollowed := true, recurses := true, apart := false }
def RecordReadsSaid : Prop := recordReadsRow.holds Try.pinned (OpenSpec.ofChange recordReadsSpec)

/-- ITS FALSE NEIGHBOUR: 'it returns false'. Refute it at one input. -/
def recordReadsWrong : ChangeSpec := { name := "recordReads", fn := fun _ => fun
  | [d1, d2, d3, d4, d5] => { results := [.lit (.bool false)], args := [d1, d2, d3, d4, d5] }
  | _ => none }
def RecordReadsWrongFalsely : Prop := recordReadsRow.holds Try.pinned (OpenSpec.ofChange recordReadsWrong)

/-- 'sacristanlaw06.RecordTorn': WHATEVER THE INPUT: true; the input reads as it did. -/
def recordTornSpec : ChangeSpec := { name := "recordTorn", fn := fun _ => fun
  | [d1, d2, d3, d4, d5, d6, d7] => { results := [.lit (.bool true)], args := [d1, d2, d3, d4, d5, d6, d7] }
  | _ => none }
def recordTornRow : OpenClaim := { program := "ytholdgefpjepfaa", sum := "b268e0de187eae57572fcb22b9d645eb8ef96dcecd25b78358bc1c52fca952df", func := "sacristan/sacristanlaw06.RecordTorn", spec := "recordTorn", inPlace := ["internal/abi.NoEscape", "internal/bytealg.MakeNoZero"], unfollowed := true, recurses := true, apart := false }
def RecordTornSaid : Prop := recordTornRow.holds Try.pinned (OpenSpec.ofChange recordTornSpec)

/-- ITS FALSE NEIGHBOUR: 'it returns false'. Refute it at one input. -/
def recordTornWrong : ChangeSpec := { name := "recordTorn", fn := fun _ => fun
  | [d1, d2, d3, d4, d5, d6, d7] => { results := [.lit (.bool false)], args := [d1, d2, d3, d4, d5, d6, d7] }
  | _ => none }
def RecordTornWrongFalsely : Prop := recordTornRow.holds Try.pinned (OpenSpec.ofChange recordTornWrong)

/- THE SECOND FORM. 'bulk': how many values and letters a reading holds, each counted each time it is reached (what is shared counts as often as it is met; a slice's spare places count too). A statement '..UptoSaid' is the law's where the arguments, and the package variables that the reading takes, are together of bulk at most 1048576: NARROWER than '..Said'. Prove '..Said' where nothing that the law and all that it calls make is longer than what came in: it says more and counts as full. Else prove '..UptoSaid'. A law counts once. -/
mutual
def uptoBulk {H : Type} : DataW H → Nat
  | .lit (.string bytes) => bytes.length + 1
  | .lit _ => 1
  | .nil => 1
  | .ptr d => uptoBulk d + 1
  | .slice elems spare => uptoBulkAll elems + uptoBulkAll spare + 1
  | .agg parts => uptoBulkAll parts + 1
  | .iface _ d => uptoBulk d + 1
  | .map entries => uptoBulkEntries entries + 1
  | .held _ => 1
def uptoBulkAll {H : Type} : List (DataW H) → Nat
  | [] => 0
  | d :: r => uptoBulk d + uptoBulkAll r
def uptoBulkEntries {H : Type} : List (Lit × DataW H) → Nat
  | [] => 0
  | x :: r => uptoBulkEntry x + uptoBulkEntries r
def uptoBulkEntry {H : Type} : Lit × DataW H → Nat
  | (.string bytes, d) => bytes.length + uptoBulk d + 1
  | (_, d) => uptoBulk d + 1
 end
def uptoSmall : (H : Type) → List (DataW H) → Bool := fun _ ds => decide (uptoBulkAll ds ≤ 1048576)
def OpenSpec.upto (s : _root_.Go.ChangeSpec) : _root_.Go.OpenSpec := { _root_.Go.OpenSpec.ofChange s with cond := some uptoSmall }

/-- 'sacristanlaw25.RingWhole', WHERE WHAT IT READS IS OF BULK AT MOST 1048576: true; the input reads as it did. -/
def ringWholeUptoRow : OpenClaim := { program := "ytholdgefpjepfaa", sum := "b268e0de187eae57572fcb22b9d645eb8ef96dcecd25b78358bc1c52fca952df", func := "sacristan/sacristanlaw25.RingWhole", spec := "ringWhole", unfollowed := true, recurses := true, apart := false, narrowed := true }
def RingWholeUptoSaid : Prop := ringWholeUptoRow.holds Try.pinned (OpenSpec.upto ringWholeSpec)

/-- 'sacristanlaw25.RingSynced', WHERE WHAT IT READS IS OF BULK AT MOST 1048576: true; the input reads as it did. -/
def ringSyncedUptoRow : OpenClaim := { program := "ytholdgefpjepfaa", sum := "b268e0de187eae57572fcb22b9d645eb8ef96dcecd25b78358bc1c52fca952df", func := "sacristan/sacristanlaw25.RingSynced", spec := "ringSynced", unfollowed := true, recurses := true, apart := false, narrowed := true }
def RingSyncedUptoSaid : Prop := ringSyncedUptoRow.holds Try.pinned (OpenSpec.upto ringSyncedSpec)

/-- 'sacristanlaw25.RingBounds', WHERE WHAT IT READS IS OF BULK AT MOST 1048576: true; the input reads as it did. -/
def ringBoundsUptoRow : OpenClaim := { program := "ytholdgefpjepfaa", sum := "b268e0de187eae57572fcb22b9d645eb8ef96dcecd25b78358bc1c52fca952df", func := "sacristan/sacristanlaw25.RingBounds", spec := "ringBounds", unfollowed := true, recurses := true, apart := false, narrowed := true }
def RingBoundsUptoSaid : Prop := ringBoundsUptoRow.holds Try.pinned (OpenSpec.upto ringBoundsSpec)

/-- 'sacristanlaw25.RingNumbers', WHERE WHAT IT READS IS OF BULK AT MOST 1048576: true; the input reads as it did. -/
def ringNumbersUptoRow : OpenClaim := { program := "ytholdgefpjepfaa", sum := "b268e0de187eae57572fcb22b9d645eb8ef96dcecd25b78358bc1c52fca952df", func := "sacristan/sacristanlaw25.RingNumbers", spec := "ringNumbers", unfollowed := true, recurses := true, apart := false, narrowed := true }
def RingNumbersUptoSaid : Prop := ringNumbersUptoRow.holds Try.pinned (OpenSpec.upto ringNumbersSpec)

/-- 'sacristanlaw25.RingExamples', WHERE WHAT IT READS IS OF BULK AT MOST 1048576: true; the input reads as it did. -/
def ringExamplesUptoRow : OpenClaim := { program := "ytholdgefpjepfaa", sum := "b268e0de187eae57572fcb22b9d645eb8ef96dcecd25b78358bc1c52fca952df", func := "sacristan/sacristanlaw25.RingExamples", spec := "ringExamples", unfollowed := true, recurses := true, apart := false, narrowed := true }
def RingExamplesUptoSaid : Prop := ringExamplesUptoRow.holds Try.pinned (OpenSpec.upto ringExamplesSpec)

/-- 'sacristanlaw25.RingTurns', WHERE WHAT IT READS IS OF BULK AT MOST 1048576: true; the input reads as it did. -/
def ringTurnsUptoRow : OpenClaim := { program := "ytholdgefpjepfaa", sum := "b268e0de187eae57572fcb22b9d645eb8ef96dcecd25b78358bc1c52fca952df", func := "sacristan/sacristanlaw25.RingTurns", spec := "ringTurns", unfollowed := true, recurses := true, apart := false, narrowed := true }
def RingTurnsUptoSaid : Prop := ringTurnsUptoRow.holds Try.pinned (OpenSpec.upto ringTurnsSpec)

/-- 'sacristanlaw24.BlockCodes', WHERE WHAT IT READS IS OF BULK AT MOST 1048576: true; the input reads as it did. -/
def blockCodesUptoRow : OpenClaim := { program := "ytholdgefpjepfaa", sum := "b268e0de187eae57572fcb22b9d645eb8ef96dcecd25b78358bc1c52fca952df", func := "sacristan/sacristanlaw24.BlockCodes", spec := "blockCodes", inPlace := ["internal/abi.NoEscape", "internal/bytealg.MakeNoZero"], unfollowed := true, recurses := true, apart := false, narrowed := true }
def BlockCodesUptoSaid : Prop := blockCodesUptoRow.holds Try.pinned (OpenSpec.upto blockCodesSpec)

/-- 'sacristanlaw24.BlockBack', WHERE WHAT IT READS IS OF BULK AT MOST 1048576: true; the input reads as it did. -/
def blockBackUptoRow : OpenClaim := { program := "ytholdgefpjepfaa", sum := "b268e0de187eae57572fcb22b9d645eb8ef96dcecd25b78358bc1c52fca952df", func := "sacristan/sacristanlaw24.BlockBack", spec := "blockBack", inPlace := ["internal/abi.NoEscape", "internal/bytealg.MakeNoZero"], unfollowed := true, recurses := true, apart := false, narrowed := true }
def BlockBackUptoSaid : Prop := blockBackUptoRow.holds Try.pinned (OpenSpec.upto blockBackSpec)

/-- 'sacristanlaw24.BlockTorn', WHERE WHAT IT READS IS OF BULK AT MOST 1048576: true; the input reads as it did. -/
def blockTornUptoRow : OpenClaim := { program := "ytholdgefpjepfaa", sum := "b268e0de187eae57572fcb22b9d645eb8ef96dcecd25b78358bc1c52fca952df", func := "sacristan/sacristanlaw24.BlockTorn", spec := "blockTorn", inPlace := ["internal/abi.NoEscape", "internal/bytealg.MakeNoZero"], unfollowed := true, recurses := true, apart := false, narrowed := true }
def BlockTornUptoSaid : Prop := blockTornUptoRow.holds Try.pinned (OpenSpec.upto blockTornSpec)

/-- 'sacristanlaw24.BlockBits', WHERE WHAT IT READS IS OF BULK AT MOST 1048576: true; the input reads as it did. -/
def blockBitsUptoRow : OpenClaim := { program := "ytholdgefpjepfaa", sum := "b268e0de187eae57572fcb22b9d645eb8ef96dcecd25b78358bc1c52fca952df", func := "sacristan/sacristanlaw24.BlockBits", spec := "blockBits", inPlace := ["internal/abi.NoEscape", "internal/bytealg.MakeNoZero"], unfollowed := true, recurses := true, apart := false, narrowed := true }
def BlockBitsUptoSaid : Prop := blockBitsUptoRow.holds Try.pinned (OpenSpec.upto blockBitsSpec)

/-- 'sacristanlaw05.FrameCodes', WHERE WHAT IT READS IS OF BULK AT MOST 1048576: true; the input reads as it did. -/
def frameCodesUptoRow : OpenClaim := { program := "ytholdgefpjepfaa", sum := "b268e0de187eae57572fcb22b9d645eb8ef96dcecd25b78358bc1c52fca952df", func := "sacristan/sacristanlaw05.FrameCodes", spec := "frameCodes", inPlace := ["internal/abi.NoEscape", "internal/bytealg.MakeNoZero"], unfollowed := true, recurses := true, apart := false, narrowed := true }
def FrameCodesUptoSaid : Prop := frameCodesUptoRow.holds Try.pinned (OpenSpec.upto frameCodesSpec)

/-- 'sacristanlaw05.FrameExamples', WHERE WHAT IT READS IS OF BULK AT MOST 1048576: true; the input reads as it did. -/
def frameExamplesUptoRow : OpenClaim := { program := "ytholdgefpjepfaa", sum := "b268e0de187eae57572fcb22b9d645eb8ef96dcecd25b78358bc1c52fca952df", func := "sacristan/sacristanlaw05.FrameExamples", spec := "frameExamples", inPlace := ["internal/abi.NoEscape", "internal/bytealg.MakeNoZero"], unfollowed := true, recurses := true, apart := false, narrowed := true }
def FrameExamplesUptoSaid : Prop := frameExamplesUptoRow.holds Try.pinned (OpenSpec.upto frameExamplesSpec)

/-- 'sacristanlaw05.FrameBack', WHERE WHAT IT READS IS OF BULK AT MOST 1048576: true; the input reads as it did. -/
def frameBackUptoRow : OpenClaim := { program := "ytholdgefpjepfaa", sum := "b268e0de187eae57572fcb22b9d645eb8ef96dcecd25b78358bc1c52fca952df", func := "sacristan/sacristanlaw05.FrameBack", spec := "frameBack", inPlace := ["internal/abi.NoEscape", "internal/bytealg.MakeNoZero"], unfollowed := true, recurses := true, apart := false, narrowed := true }
def FrameBackUptoSaid : Prop := frameBackUptoRow.holds Try.pinned (OpenSpec.upto frameBackSpec)

/-- 'sacristanlaw05.FrameTorn', WHERE WHAT IT READS IS OF BULK AT MOST 1048576: true; the input reads as it did. -/
def frameTornUptoRow : OpenClaim := { program := "ytholdgefpjepfaa", sum := "b268e0de187eae57572fcb22b9d645eb8ef96dcecd25b78358bc1c52fca952df", func := "sacristan/sacristanlaw05.FrameTorn", spec := "frameTorn", inPlace := ["internal/abi.NoEscape", "internal/bytealg.MakeNoZero"], unfollowed := true, recurses := true, apart := false, narrowed := true }
def FrameTornUptoSaid : Prop := frameTornUptoRow.holds Try.pinned (OpenSpec.upto frameTornSpec)

/-- 'sacristanlaw05.FrameBits', WHERE WHAT IT READS IS OF BULK AT MOST 1048576: true; the input reads as it did. -/
def frameBitsUptoRow : OpenClaim := { program := "ytholdgefpjepfaa", sum := "b268e0de187eae57572fcb22b9d645eb8ef96dcecd25b78358bc1c52fca952df", func := "sacristan/sacristanlaw05.FrameBits", spec := "frameBits", inPlace := ["internal/abi.NoEscape", "internal/bytealg.MakeNoZero"], unfollowed := true, recurses := true, apart := false, narrowed := true }
def FrameBitsUptoSaid : Prop := frameBitsUptoRow.holds Try.pinned (OpenSpec.upto frameBitsSpec)

/-- 'sacristanlaw05.FrameOrder', WHERE WHAT IT READS IS OF BULK AT MOST 1048576: true; the input reads as it did. -/
def frameOrderUptoRow : OpenClaim := { program := "ytholdgefpjepfaa", sum := "b268e0de187eae57572fcb22b9d645eb8ef96dcecd25b78358bc1c52fca952df", func := "sacristan/sacristanlaw05.FrameOrder", spec := "frameOrder", inPlace := ["internal/abi.NoEscape", "internal/bytealg.MakeNoZero"], unfollowed := true, recurses := true, apart := false, narrowed := true }
def FrameOrderUptoSaid : Prop := frameOrderUptoRow.holds Try.pinned (OpenSpec.upto frameOrderSpec)

/-- 'sacristanlaw24.BlockSplits', WHERE WHAT IT READS IS OF BULK AT MOST 1048576: true; the input reads as it did. -/
def blockSplitsUptoRow : OpenClaim := { program := "ytholdgefpjepfaa", sum := "b268e0de187eae57572fcb22b9d645eb8ef96dcecd25b78358bc1c52fca952df", func := "sacristan/sacristanlaw24.BlockSplits", spec := "blockSplits", inPlace := ["internal/abi.NoEscape", "internal/bytealg.MakeNoZero"], unfollowed := true, recurses := true, apart := false, narrowed := true }
def BlockSplitsUptoSaid : Prop := blockSplitsUptoRow.holds Try.pinned (OpenSpec.upto blockSplitsSpec)

/-- 'sacristanlaw24.BlockExamples', WHERE WHAT IT READS IS OF BULK AT MOST 1048576: true; the input reads as it did. -/
def blockExamplesUptoRow : OpenClaim := { program := "ytholdgefpjepfaa", sum := "b268e0de187eae57572fcb22b9d645eb8ef96dcecd25b78358bc1c52fca952df", func := "sacristan/sacristanlaw24.BlockExamples", spec := "blockExamples", inPlace := ["internal/abi.NoEscape", "internal/bytealg.MakeNoZero"], unfollowed := true, recurses := true, apart := false, narrowed := true }
def BlockExamplesUptoSaid : Prop := blockExamplesUptoRow.holds Try.pinned (OpenSpec.upto blockExamplesSpec)

/-- 'sacristanlaw24.BlockPieces', WHERE WHAT IT READS IS OF BULK AT MOST 1048576: true; the input reads as it did. -/
def blockPiecesUptoRow : OpenClaim := { program := "ytholdgefpjepfaa", sum := "b268e0de187eae57572fcb22b9d645eb8ef96dcecd25b78358bc1c52fca952df", func := "sacristan/sacristanlaw24.BlockPieces", spec := "blockPieces", inPlace := ["internal/abi.NoEscape", "internal/bytealg.MakeNoZero"], unfollowed := true, recurses := true, apart := false, narrowed := true }
def BlockPiecesUptoSaid : Prop := blockPiecesUptoRow.holds Try.pinned (OpenSpec.upto blockPiecesSpec)

/-- 'sacristanlaw04.DiskFails', WHERE WHAT IT READS IS OF BULK AT MOST 1048576: true; the input reads as it did. -/
def diskFailsUptoRow : OpenClaim := { program := "ytholdgefpjepfaa", sum := "b268e0de187eae57572fcb22b9d645eb8ef96dcecd25b78358bc1c52fca952df", func := "sacristan/sacristanlaw04.DiskFails", spec := "diskFails", inPlace := ["internal/abi.NoEscape", "internal/bytealg.MakeNoZero"], unfollowed := true, recurses := true, apart := false, narrowed := true }
def DiskFailsUptoSaid : Prop := diskFailsUptoRow.holds Try.pinned (OpenSpec.upto diskFailsSpec)

/-- 'sacristanlaw04.DiskBytes', WHERE WHAT IT READS IS OF BULK AT MOST 1048576: true; the input reads as it did. -/
def diskBytesUptoRow : OpenClaim := { program := "ytholdgefpjepfaa", sum := "b268e0de187eae57572fcb22b9d645eb8ef96dcecd25b78358bc1c52fca952df", func := "sacristan/sacristanlaw04.DiskBytes", spec := "diskBytes", inPlace := ["internal/abi.NoEscape", "internal/bytealg.MakeNoZero"], unfollowed := true, recurses := true, apart := false, narrowed := true }
def DiskBytesUptoSaid : Prop := diskBytesUptoRow.holds Try.pinned (OpenSpec.upto diskBytesSpec)

/-- 'sacristanlaw04.DiskAgain', WHERE WHAT IT READS IS OF BULK AT MOST 1048576: true; the input reads as it did. -/
def diskAgainUptoRow : OpenClaim := { program := "ytholdgefpjepfaa", sum := "b268e0de187eae57572fcb22b9d645eb8ef96dcecd25b78358bc1c52fca952df", func := "sacristan/sacristanlaw04.DiskAgain", spec := "diskAgain", inPlace := ["internal/abi.NoEscape", "internal/bytealg.MakeNoZero"], unfollowed := true, recurses := true, apart := false, narrowed := true }
def DiskAgainUptoSaid : Prop := diskAgainUptoRow.holds Try.pinned (OpenSpec.upto diskAgainSpec)

/-- 'sacristanlaw04.DiskSynced', WHERE WHAT IT READS IS OF BULK AT MOST 1048576: true; the input reads as it did. -/
def diskSyncedUptoRow : OpenClaim := { program := "ytholdgefpjepfaa", sum := "b268e0de187eae57572fcb22b9d645eb8ef96dcecd25b78358bc1c52fca952df", func := "sacristan/sacristanlaw04.DiskSynced", spec := "diskSynced", inPlace := ["internal/abi.NoEscape", "internal/bytealg.MakeNoZero"], unfollowed := true, recurses := true, apart := false, narrowed := true }
def DiskSyncedUptoSaid : Prop := diskSyncedUptoRow.holds Try.pinned (OpenSpec.upto diskSyncedSpec)

/-- 'sacristanlaw04.DiskExamples', WHERE WHAT IT READS IS OF BULK AT MOST 1048576: true; the input reads as it did. -/
def diskExamplesUptoRow : OpenClaim := { program := "ytholdgefpjepfaa", sum := "b268e0de187eae57572fcb22b9d645eb8ef96dcecd25b78358bc1c52fca952df", func := "sacristan/sacristanlaw04.DiskExamples", spec := "diskExamples", inPlace := ["internal/abi.NoEscape", "internal/bytealg.MakeNoZero", "maps.clone"], unfollowed := true, recurses := true, apart := false, narrowed := true }
def DiskExamplesUptoSaid : Prop := diskExamplesUptoRow.holds Try.pinned (OpenSpec.upto diskExamplesSpec)

/-- 'sacristanlaw04.DiskDoes', WHERE WHAT IT READS IS OF BULK AT MOST 1048576: true; the input reads as it did. -/
def diskDoesUptoRow : OpenClaim := { program := "ytholdgefpjepfaa", sum := "b268e0de187eae57572fcb22b9d645eb8ef96dcecd25b78358bc1c52fca952df", func := "sacristan/sacristanlaw04.DiskDoes", spec := "diskDoes", inPlace := ["internal/abi.NoEscape", "internal/bytealg.MakeNoZero", "maps.clone"], unfollowed := true, recurses := true, apart := false, narrowed := true }
def DiskDoesUptoSaid : Prop := diskDoesUptoRow.holds Try.pinned (OpenSpec.upto diskDoesSpec)

/-- 'sacristanlaw07.SlotsCodes', WHERE WHAT IT READS IS OF BULK AT MOST 1048576: true; the input reads as it did. -/
def slotsCodesUptoRow : OpenClaim := { program := "ytholdgefpjepfaa", sum := "b268e0de187eae57572fcb22b9d645eb8ef96dcecd25b78358bc1c52fca952df", func := "sacristan/sacristanlaw07.SlotsCodes", spec := "slotsCodes", inPlace := ["internal/abi.NoEscape", "internal/bytealg.MakeNoZero"], unfollowed := true, recurses := true, apart := false, narrowed := true }
def SlotsCodesUptoSaid : Prop := slotsCodesUptoRow.holds Try.pinned (OpenSpec.upto slotsCodesSpec)

/-- 'sacristanlaw07.SlotsBack', WHERE WHAT IT READS IS OF BULK AT MOST 1048576: true; the input reads as it did. -/
def slotsBackUptoRow : OpenClaim := { program := "ytholdgefpjepfaa", sum := "b268e0de187eae57572fcb22b9d645eb8ef96dcecd25b78358bc1c52fca952df", func := "sacristan/sacristanlaw07.SlotsBack", spec := "slotsBack", inPlace := ["internal/abi.NoEscape", "internal/bytealg.MakeNoZero"], unfollowed := true, recurses := true, apart := false, narrowed := true }
def SlotsBackUptoSaid : Prop := slotsBackUptoRow.holds Try.pinned (OpenSpec.upto slotsBackSpec)

/-- 'sacristanlaw07.SlotsHurt', WHERE WHAT IT READS IS OF BULK AT MOST 1048576: true; the input reads as it did. -/
def slotsHurtUptoRow : OpenClaim := { program := "ytholdgefpjepfaa", sum := "b268e0de187eae57572fcb22b9d645eb8ef96dcecd25b78358bc1c52fca952df", func := "sacristan/sacristanlaw07.SlotsHurt", spec := "slotsHurt", inPlace := ["internal/abi.NoEscape", "internal/bytealg.MakeNoZero"], unfollowed := true, recurses := true, apart := false, narrowed := true }
def SlotsHurtUptoSaid : Prop := slotsHurtUptoRow.holds Try.pinned (OpenSpec.upto slotsHurtSpec)

/-- 'sacristanlaw06.RecordSectors', WHERE WHAT IT READS IS OF BULK AT MOST 1048576: true; the input reads as it did. -/
def recordSectorsUptoRow : OpenClaim := { program := "ytholdgefpjepfaa", sum := "b268e0de187eae57572fcb22b9d645eb8ef96dcecd25b78358bc1c52fca952df", func := "sacristan/sacristanlaw06.RecordSectors", spec := "recordSectors", inPlace := ["internal/abi.NoEscape", "internal/bytealg.MakeNoZero"], unfollowed := true, recurses := true, apart := false, narrowed := true }
def RecordSectorsUptoSaid : Prop := recordSectorsUptoRow.holds Try.pinned (OpenSpec.upto recordSectorsSpec)

/-- 'sacristanlaw06.RecordBack', WHERE WHAT IT READS IS OF BULK AT MOST 1048576: true; the input reads as it did. -/
def recordBackUptoRow : OpenClaim := { program := "ytholdgefpjepfaa", sum := "b268e0de187eae57572fcb22b9d645eb8ef96dcecd25b78358bc1c52fca952df", func := "sacristan/sacristanlaw06.RecordBack", spec := "recordBack", inPlace := ["internal/abi.NoEscape", "internal/bytealg.MakeNoZero"], unfollowed := true, recurses := true, apart := false, narrowed := true }
def RecordBackUptoSaid : Prop := recordBackUptoRow.holds Try.pinned (OpenSpec.upto recordBackSpec)

/-- 'sacristanlaw06.RecordAlone', WHERE WHAT IT READS IS OF BULK AT MOST 1048576: true; the input reads as it did. -/
def recordAloneUptoRow : OpenClaim := { program := "ytholdgefpjepfaa", sum := "b268e0de187eae57572fcb22b9d645eb8ef96dcecd25b78358bc1c52fca952df", func := "sacristan/sacristanlaw06.RecordAlone", spec := "recordAlone", inPlace := ["internal/abi.NoEscape", "internal/bytealg.MakeNoZero"], unfollowed := true, recurses := true, apart := false, narrowed := true }
def RecordAloneUptoSaid : Prop := recordAloneUptoRow.holds Try.pinned (OpenSpec.upto recordAloneSpec)

/-- 'sacristanlaw06.RecordRow', WHERE WHAT IT READS IS OF BULK AT MOST 1048576: true; the input reads as it did. -/
def recordRowUptoRow : OpenClaim := { program := "ytholdgefpjepfaa", sum := "b268e0de187eae57572fcb22b9d645eb8ef96dcecd25b78358bc1c52fca952df", func := "sacristan/sacristanlaw06.RecordRow", spec := "recordRow", inPlace := ["internal/abi.NoEscape", "internal/bytealg.MakeNoZero"], unfollowed := true, recurses := true, apart := false, narrowed := true }
def RecordRowUptoSaid : Prop := recordRowUptoRow.holds Try.pinned (OpenSpec.upto recordRowSpec)

/-- 'sacristanlaw07.SlotsOne', WHERE WHAT IT READS IS OF BULK AT MOST 1048576: true; the input reads as it did. -/
def slotsOneUptoRow : OpenClaim := { program := "ytholdgefpjepfaa", sum := "b268e0de187eae57572fcb22b9d645eb8ef96dcecd25b78358bc1c52fca952df", func := "sacristan/sacristanlaw07.SlotsOne", spec := "slotsOne", inPlace := ["internal/abi.NoEscape", "internal/bytealg.MakeNoZero"], unfollowed := true, recurses := true, apart := false, narrowed := true }
def SlotsOneUptoSaid : Prop := slotsOneUptoRow.holds Try.pinned (OpenSpec.upto slotsOneSpec)

/-- 'sacristanlaw07.SlotsExamples', WHERE WHAT IT READS IS OF BULK AT MOST 1048576: true; the input reads as it did. -/
def slotsExamplesUptoRow : OpenClaim := { program := "ytholdgefpjepfaa", sum := "b268e0de187eae57572fcb22b9d645eb8ef96dcecd25b78358bc1c52fca952df", func := "sacristan/sacristanlaw07.SlotsExamples", spec := "slotsExamples", inPlace := ["internal/abi.NoEscape", "internal/bytealg.MakeNoZero"], unfollowed := true, recurses := true, apart := false, narrowed := true }
def SlotsExamplesUptoSaid : Prop := slotsExamplesUptoRow.holds Try.pinned (OpenSpec.upto slotsExamplesSpec)

/-- 'sacristanlaw06.RecordExamples', WHERE WHAT IT READS IS OF BULK AT MOST 1048576: true; the input reads as it did. -/
def recordExamplesUptoRow : OpenClaim := { program := "ytholdgefpjepfaa", sum := "b268e0de187eae57572fcb22b9d645eb8ef96dcecd25b78358bc1c52fca952df", func := "sacristan/sacristanlaw06.RecordExamples", spec := "recordExamples", inPlace := ["internal/abi.NoEscape", "internal/bytealg.MakeNoZero"], unfollowed := true, recurses := true, apart := false, narrowed := true }
def RecordExamplesUptoSaid : Prop := recordExamplesUptoRow.holds Try.pinned (OpenSpec.upto recordExamplesSpec)

/-- 'sacristanlaw07.SlotsDoes', WHERE WHAT IT READS IS OF BULK AT MOST 1048576: true; the input reads as it did. -/
def slotsDoesUptoRow : OpenClaim := { program := "ytholdgefpjepfaa", sum := "b268e0de187eae57572fcb22b9d645eb8ef96dcecd25b78358bc1c52fca952df", func := "sacristan/sacristanlaw07.SlotsDoes", spec := "slotsDoes", inPlace := ["internal/abi.NoEscape", "internal/bytealg.MakeNoZero"], unfollowed := true, recurses := true, apart := false, narrowed := true }
def SlotsDoesUptoSaid : Prop := slotsDoesUptoRow.holds Try.pinned (OpenSpec.upto slotsDoesSpec)

/-- 'sacristanlaw06.RecordReads', WHERE WHAT IT READS IS OF BULK AT MOST 1048576: true; the input reads as it did. -/
def recordReadsUptoRow : OpenClaim := { program := "ytholdgefpjepfaa", sum := "b268e0de187eae57572fcb22b9d645eb8ef96dcecd25b78358bc1c52fca952df", func := "sacristan/sacristanlaw06.RecordReads", spec := "recordReads", inPlace := ["internal/abi.NoEscape", "internal/bytealg.MakeNoZero"], unfollowed := true, recurses := true, apart := false, narrowed := true }
def RecordReadsUptoSaid : Prop := recordReadsUptoRow.holds Try.pinned (OpenSpec.upto recordReadsSpec)

/-- 'sacristanlaw06.RecordTorn', WHERE WHAT IT READS IS OF BULK AT MOST 1048576: true; the input reads as it did. -/
def recordTornUptoRow : OpenClaim := { program := "ytholdgefpjepfaa", sum := "b268e0de187eae57572fcb22b9d645eb8ef96dcecd25b78358bc1c52fca952df", func := "sacristan/sacristanlaw06.RecordTorn", spec := "recordTorn", inPlace := ["internal/abi.NoEscape", "internal/bytealg.MakeNoZero"], unfollowed := true, recurses := true, apart := false, narrowed := true }
def RecordTornUptoSaid : Prop := recordTornUptoRow.holds Try.pinned (OpenSpec.upto recordTornSpec)

end Rows
end Go.Proofs.Ytholdgefpjepfaa
