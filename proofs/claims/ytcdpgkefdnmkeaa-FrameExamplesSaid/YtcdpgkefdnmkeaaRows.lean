/-
  No cell of these rows narrows 'for every input' (looked for: loops, veiled, ifaces, maps, wideKeys, modest, calm, conditions, laid).
  DERIVED. THE GIVEN ROWS OF THIS SEAT. 19 by the template 'for every input the law returns true; each argument reads behind the call as it read before'; 0 by the template 'total and deterministic' (their statements: YtcdpgkefdnmkeaaTotals.lean).
  GIVEN WITH THE SEED: the statements are not yours to turn. If you find one false, say at which input.
  Laid BY PROGRAM, IN A SANDBOX (cutbox-rows.mjs): the forced cells as the released guide's own fill.sh prints them over the translation 53034cac78ac6949… (all of the seat's roots in one cut). By AI agents, Wed Nov 11 2026. No macro, syntax, notation, axiom, sorry.
-/
import Derived.Test.YtcdpgkefdnmkeaaChecked
import GoSem.Claim
import GoSem.ClaimJoined
import GoSem.ClaimMapViews
import Derived.JoinedTies
import Derived.KernelRfl
namespace Go.Proofs.Ytcdpgkefdnmkeaa
/- THE CELL 'sum', in the pinned program and in every row, IS THE sha256 OF THE DUMP (.gsa) THAT YtcdpgkefdnmkeaaProg.lean LOADS. Nothing in Lean hashes anything: it is a label: what it is worth is what the hold of that sum in a sandbox is worth. -/
noncomputable def Try.pinned : Pinned := { name := "ytcdpgkefdnmkeaa", sum := "53034cac78ac6949511ecfa8b3fa3bb623c7e68e1fa25112a38db99e4410aebf", checked := Try.checked }
namespace Rows
def none {H : Type} : Left H := { results := [], args := [] }

/-- 'sacristanlaw24.BlockCodes': WHATEVER THE INPUT: true; the input reads as it did. -/
def blockCodesSpec : ChangeSpec := { name := "blockCodes", fn := fun _ => fun
  | [d1, d2] => { results := [.lit (.bool true)], args := [d1, d2] }
  | _ => none }
def blockCodesRow : OpenClaim := { program := "ytcdpgkefdnmkeaa", sum := "53034cac78ac6949511ecfa8b3fa3bb623c7e68e1fa25112a38db99e4410aebf", func := "sacristan/sacristanlaw24.BlockCodes", spec := "blockCodes", inPlace := ["internal/abi.NoEscape", "internal/bytealg.MakeNoZero"], unfollowed := true, recurses := true, apart := false }
def BlockCodesSaid : Prop := blockCodesRow.holds Try.pinned (OpenSpec.ofChange blockCodesSpec)

/-- ITS FALSE NEIGHBOUR: 'it returns false'. Refute it at one input. -/
def blockCodesWrong : ChangeSpec := { name := "blockCodes", fn := fun _ => fun
  | [d1, d2] => { results := [.lit (.bool false)], args := [d1, d2] }
  | _ => none }
def BlockCodesWrongFalsely : Prop := blockCodesRow.holds Try.pinned (OpenSpec.ofChange blockCodesWrong)

/-- 'sacristanlaw24.BlockBack': WHATEVER THE INPUT: true; the input reads as it did. -/
def blockBackSpec : ChangeSpec := { name := "blockBack", fn := fun _ => fun
  | [d1, d2, d3] => { results := [.lit (.bool true)], args := [d1, d2, d3] }
  | _ => none }
def blockBackRow : OpenClaim := { program := "ytcdpgkefdnmkeaa", sum := "53034cac78ac6949511ecfa8b3fa3bb623c7e68e1fa25112a38db99e4410aebf", func := "sacristan/sacristanlaw24.BlockBack", spec := "blockBack", inPlace := ["internal/abi.NoEscape", "internal/bytealg.MakeNoZero"], unfollowed := true, recurses := true, apart := false }
def BlockBackSaid : Prop := blockBackRow.holds Try.pinned (OpenSpec.ofChange blockBackSpec)

/-- ITS FALSE NEIGHBOUR: 'it returns false'. Refute it at one input. -/
def blockBackWrong : ChangeSpec := { name := "blockBack", fn := fun _ => fun
  | [d1, d2, d3] => { results := [.lit (.bool false)], args := [d1, d2, d3] }
  | _ => none }
def BlockBackWrongFalsely : Prop := blockBackRow.holds Try.pinned (OpenSpec.ofChange blockBackWrong)

/-- 'sacristanlaw24.BlockTorn': WHATEVER THE INPUT: true; the input reads as it did. -/
def blockTornSpec : ChangeSpec := { name := "blockTorn", fn := fun _ => fun
  | [d1, d2, d3, d4] => { results := [.lit (.bool true)], args := [d1, d2, d3, d4] }
  | _ => none }
def blockTornRow : OpenClaim := { program := "ytcdpgkefdnmkeaa", sum := "53034cac78ac6949511ecfa8b3fa3bb623c7e68e1fa25112a38db99e4410aebf", func := "sacristan/sacristanlaw24.BlockTorn", spec := "blockTorn", inPlace := ["internal/abi.NoEscape", "internal/bytealg.MakeNoZero"], unfollowed := true, recurses := true, apart := false }
def BlockTornSaid : Prop := blockTornRow.holds Try.pinned (OpenSpec.ofChange blockTornSpec)

/-- ITS FALSE NEIGHBOUR: 'it returns false'. Refute it at one input. -/
def blockTornWrong : ChangeSpec := { name := "blockTorn", fn := fun _ => fun
  | [d1, d2, d3, d4] => { results := [.lit (.bool false)], args := [d1, d2, d3, d4] }
  | _ => none }
def BlockTornWrongFalsely : Prop := blockTornRow.holds Try.pinned (OpenSpec.ofChange blockTornWrong)

/-- 'sacristanlaw24.BlockBits': WHATEVER THE INPUT: true; the input reads as it did. -/
def blockBitsSpec : ChangeSpec := { name := "blockBits", fn := fun _ => fun
  | [d1, d2, d3] => { results := [.lit (.bool true)], args := [d1, d2, d3] }
  | _ => none }
def blockBitsRow : OpenClaim := { program := "ytcdpgkefdnmkeaa", sum := "53034cac78ac6949511ecfa8b3fa3bb623c7e68e1fa25112a38db99e4410aebf", func := "sacristan/sacristanlaw24.BlockBits", spec := "blockBits", inPlace := ["internal/abi.NoEscape", "internal/bytealg.MakeNoZero"], unfollowed := true, recurses := true, apart := false }
def BlockBitsSaid : Prop := blockBitsRow.holds Try.pinned (OpenSpec.ofChange blockBitsSpec)

/-- ITS FALSE NEIGHBOUR: 'it returns false'. Refute it at one input. -/
def blockBitsWrong : ChangeSpec := { name := "blockBits", fn := fun _ => fun
  | [d1, d2, d3] => { results := [.lit (.bool false)], args := [d1, d2, d3] }
  | _ => none }
def BlockBitsWrongFalsely : Prop := blockBitsRow.holds Try.pinned (OpenSpec.ofChange blockBitsWrong)

/-- 'sacristanlaw05.FrameCodes': WHATEVER THE INPUT: true; the input reads as it did. -/
def frameCodesSpec : ChangeSpec := { name := "frameCodes", fn := fun _ => fun
  | [d1, d2] => { results := [.lit (.bool true)], args := [d1, d2] }
  | _ => none }
def frameCodesRow : OpenClaim := { program := "ytcdpgkefdnmkeaa", sum := "53034cac78ac6949511ecfa8b3fa3bb623c7e68e1fa25112a38db99e4410aebf", func := "sacristan/sacristanlaw05.FrameCodes", spec := "frameCodes", inPlace := ["internal/abi.NoEscape", "internal/bytealg.MakeNoZero"], unfollowed := true, recurses := true, apart := false }
def FrameCodesSaid : Prop := frameCodesRow.holds Try.pinned (OpenSpec.ofChange frameCodesSpec)

/-- ITS FALSE NEIGHBOUR: 'it returns false'. Refute it at one input. -/
def frameCodesWrong : ChangeSpec := { name := "frameCodes", fn := fun _ => fun
  | [d1, d2] => { results := [.lit (.bool false)], args := [d1, d2] }
  | _ => none }
def FrameCodesWrongFalsely : Prop := frameCodesRow.holds Try.pinned (OpenSpec.ofChange frameCodesWrong)

/-- 'sacristanlaw05.FrameExamples': WHATEVER THE INPUT: true; the input reads as it did. -/
def frameExamplesSpec : ChangeSpec := { name := "frameExamples", fn := fun _ => fun
  | [] => { results := [.lit (.bool true)], args := [] }
  | _ => none }
def frameExamplesRow : OpenClaim := { program := "ytcdpgkefdnmkeaa", sum := "53034cac78ac6949511ecfa8b3fa3bb623c7e68e1fa25112a38db99e4410aebf", func := "sacristan/sacristanlaw05.FrameExamples", spec := "frameExamples", inPlace := ["internal/abi.NoEscape", "internal/bytealg.MakeNoZero"], unfollowed := true, recurses := true, apart := false }
def FrameExamplesSaid : Prop := frameExamplesRow.holds Try.pinned (OpenSpec.ofChange frameExamplesSpec)

/-- ITS FALSE NEIGHBOUR: 'it returns false'. Refute it at one input. -/
def frameExamplesWrong : ChangeSpec := { name := "frameExamples", fn := fun _ => fun
  | [] => { results := [.lit (.bool false)], args := [] }
  | _ => none }
def FrameExamplesWrongFalsely : Prop := frameExamplesRow.holds Try.pinned (OpenSpec.ofChange frameExamplesWrong)

/-- 'sacristanlaw05.FrameBack': WHATEVER THE INPUT: true; the input reads as it did. -/
def frameBackSpec : ChangeSpec := { name := "frameBack", fn := fun _ => fun
  | [d1, d2, d3] => { results := [.lit (.bool true)], args := [d1, d2, d3] }
  | _ => none }
def frameBackRow : OpenClaim := { program := "ytcdpgkefdnmkeaa", sum := "53034cac78ac6949511ecfa8b3fa3bb623c7e68e1fa25112a38db99e4410aebf", func := "sacristan/sacristanlaw05.FrameBack", spec := "frameBack", inPlace := ["internal/abi.NoEscape", "internal/bytealg.MakeNoZero"], unfollowed := true, recurses := true, apart := false }
def FrameBackSaid : Prop := frameBackRow.holds Try.pinned (OpenSpec.ofChange frameBackSpec)

/-- ITS FALSE NEIGHBOUR: 'it returns false'. Refute it at one input. -/
def frameBackWrong : ChangeSpec := { name := "frameBack", fn := fun _ => fun
  | [d1, d2, d3] => { results := [.lit (.bool false)], args := [d1, d2, d3] }
  | _ => none }
def FrameBackWrongFalsely : Prop := frameBackRow.holds Try.pinned (OpenSpec.ofChange frameBackWrong)

/-- 'sacristanlaw05.FrameTorn': WHATEVER THE INPUT: true; the input reads as it did. -/
def frameTornSpec : ChangeSpec := { name := "frameTorn", fn := fun _ => fun
  | [d1, d2, d3, d4] => { results := [.lit (.bool true)], args := [d1, d2, d3, d4] }
  | _ => none }
def frameTornRow : OpenClaim := { program := "ytcdpgkefdnmkeaa", sum := "53034cac78ac6949511ecfa8b3fa3bb623c7e68e1fa25112a38db99e4410aebf", func := "sacristan/sacristanlaw05.FrameTorn", spec := "frameTorn", inPlace := ["internal/abi.NoEscape", "internal/bytealg.MakeNoZero"], unfollowed := true, recurses := true, apart := false }
def FrameTornSaid : Prop := frameTornRow.holds Try.pinned (OpenSpec.ofChange frameTornSpec)

/-- ITS FALSE NEIGHBOUR: 'it returns false'. Refute it at one input. -/
def frameTornWrong : ChangeSpec := { name := "frameTorn", fn := fun _ => fun
  | [d1, d2, d3, d4] => { results := [.lit (.bool false)], args := [d1, d2, d3, d4] }
  | _ => none }
def FrameTornWrongFalsely : Prop := frameTornRow.holds Try.pinned (OpenSpec.ofChange frameTornWrong)

/-- 'sacristanlaw05.FrameBits': WHATEVER THE INPUT: true; the input reads as it did. -/
def frameBitsSpec : ChangeSpec := { name := "frameBits", fn := fun _ => fun
  | [d1, d2, d3] => { results := [.lit (.bool true)], args := [d1, d2, d3] }
  | _ => none }
def frameBitsRow : OpenClaim := { program := "ytcdpgkefdnmkeaa", sum := "53034cac78ac6949511ecfa8b3fa3bb623c7e68e1fa25112a38db99e4410aebf", func := "sacristan/sacristanlaw05.FrameBits", spec := "frameBits", inPlace := ["internal/abi.NoEscape", "internal/bytealg.MakeNoZero"], unfollowed := true, recurses := true, apart := false }
def FrameBitsSaid : Prop := frameBitsRow.holds Try.pinned (OpenSpec.ofChange frameBitsSpec)

/-- ITS FALSE NEIGHBOUR: 'it returns false'. Refute it at one input. -/
def frameBitsWrong : ChangeSpec := { name := "frameBits", fn := fun _ => fun
  | [d1, d2, d3] => { results := [.lit (.bool false)], args := [d1, d2, d3] }
  | _ => none }
def FrameBitsWrongFalsely : Prop := frameBitsRow.holds Try.pinned (OpenSpec.ofChange frameBitsWrong)

/-- 'sacristanlaw05.FrameOrder': WHATEVER THE INPUT: true; the input reads as it did. -/
def frameOrderSpec : ChangeSpec := { name := "frameOrder", fn := fun _ => fun
  | [d1, d2] => { results := [.lit (.bool true)], args := [d1, d2] }
  | _ => none }
def frameOrderRow : OpenClaim := { program := "ytcdpgkefdnmkeaa", sum := "53034cac78ac6949511ecfa8b3fa3bb623c7e68e1fa25112a38db99e4410aebf", func := "sacristan/sacristanlaw05.FrameOrder", spec := "frameOrder", inPlace := ["internal/abi.NoEscape", "internal/bytealg.MakeNoZero"], unfollowed := true, recurses := true, apart := false }
def FrameOrderSaid : Prop := frameOrderRow.holds Try.pinned (OpenSpec.ofChange frameOrderSpec)

/-- ITS FALSE NEIGHBOUR: 'it returns false'. Refute it at one input. -/
def frameOrderWrong : ChangeSpec := { name := "frameOrder", fn := fun _ => fun
  | [d1, d2] => { results := [.lit (.bool false)], args := [d1, d2] }
  | _ => none }
def FrameOrderWrongFalsely : Prop := frameOrderRow.holds Try.pinned (OpenSpec.ofChange frameOrderWrong)

/-- 'sacristanlaw24.BlockSplits': WHATEVER THE INPUT: true; the input reads as it did. -/
def blockSplitsSpec : ChangeSpec := { name := "blockSplits", fn := fun _ => fun
  | [d1, d2, d3, d4, d5] => { results := [.lit (.bool true)], args := [d1, d2, d3, d4, d5] }
  | _ => none }
def blockSplitsRow : OpenClaim := { program := "ytcdpgkefdnmkeaa", sum := "53034cac78ac6949511ecfa8b3fa3bb623c7e68e1fa25112a38db99e4410aebf", func := "sacristan/sacristanlaw24.BlockSplits", spec := "blockSplits", inPlace := ["internal/abi.NoEscape", "internal/bytealg.MakeNoZero"], unfollowed := true, recurses := true, apart := false }
def BlockSplitsSaid : Prop := blockSplitsRow.holds Try.pinned (OpenSpec.ofChange blockSplitsSpec)

/-- ITS FALSE NEIGHBOUR: 'it returns false'. Refute it at one input. -/
def blockSplitsWrong : ChangeSpec := { name := "blockSplits", fn := fun _ => fun
  | [d1, d2, d3, d4, d5] => { results := [.lit (.bool false)], args := [d1, d2, d3, d4, d5] }
  | _ => none }
def BlockSplitsWrongFalsely : Prop := blockSplitsRow.holds Try.pinned (OpenSpec.ofChange blockSplitsWrong)

/-- 'sacristanlaw24.BlockExamples': WHATEVER THE INPUT: true; the input reads as it did. -/
def blockExamplesSpec : ChangeSpec := { name := "blockExamples", fn := fun _ => fun
  | [] => { results := [.lit (.bool true)], args := [] }
  | _ => none }
def blockExamplesRow : OpenClaim := { program := "ytcdpgkefdnmkeaa", sum := "53034cac78ac6949511ecfa8b3fa3bb623c7e68e1fa25112a38db99e4410aebf", func := "sacristan/sacristanlaw24.BlockExamples", spec := "blockExamples", inPlace := ["internal/abi.NoEscape", "internal/bytealg.MakeNoZero"], unfollowed := true, recurses := true, apart := false }
def BlockExamplesSaid : Prop := blockExamplesRow.holds Try.pinned (OpenSpec.ofChange blockExamplesSpec)

/-- ITS FALSE NEIGHBOUR: 'it returns false'. Refute it at one input. -/
def blockExamplesWrong : ChangeSpec := { name := "blockExamples", fn := fun _ => fun
  | [] => { results := [.lit (.bool false)], args := [] }
  | _ => none }
def BlockExamplesWrongFalsely : Prop := blockExamplesRow.holds Try.pinned (OpenSpec.ofChange blockExamplesWrong)

/-- 'sacristanlaw24.BlockPieces': WHATEVER THE INPUT: true; the input reads as it did. -/
def blockPiecesSpec : ChangeSpec := { name := "blockPieces", fn := fun _ => fun
  | [d1, d2, d3, d4, d5] => { results := [.lit (.bool true)], args := [d1, d2, d3, d4, d5] }
  | _ => none }
def blockPiecesRow : OpenClaim := { program := "ytcdpgkefdnmkeaa", sum := "53034cac78ac6949511ecfa8b3fa3bb623c7e68e1fa25112a38db99e4410aebf", func := "sacristan/sacristanlaw24.BlockPieces", spec := "blockPieces", inPlace := ["internal/abi.NoEscape", "internal/bytealg.MakeNoZero"], unfollowed := true, recurses := true, apart := false }
def BlockPiecesSaid : Prop := blockPiecesRow.holds Try.pinned (OpenSpec.ofChange blockPiecesSpec)

/-- ITS FALSE NEIGHBOUR: 'it returns false'. Refute it at one input. -/
def blockPiecesWrong : ChangeSpec := { name := "blockPieces", fn := fun _ => fun
  | [d1, d2, d3, d4, d5] => { results := [.lit (.bool false)], args := [d1, d2, d3, d4, d5] }
  | _ => none }
def BlockPiecesWrongFalsely : Prop := blockPiecesRow.holds Try.pinned (OpenSpec.ofChange blockPiecesWrong)

/-- 'sacristanlaw07.SlotsCodes': WHATEVER THE INPUT: true; the input reads as it did. -/
def slotsCodesSpec : ChangeSpec := { name := "slotsCodes", fn := fun _ => fun
  | [d1, d2] => { results := [.lit (.bool true)], args := [d1, d2] }
  | _ => none }
def slotsCodesRow : OpenClaim := { program := "ytcdpgkefdnmkeaa", sum := "53034cac78ac6949511ecfa8b3fa3bb623c7e68e1fa25112a38db99e4410aebf", func := "sacristan/sacristanlaw07.SlotsCodes", spec := "slotsCodes", inPlace := ["internal/abi.NoEscape", "internal/bytealg.MakeNoZero"], unfollowed := true, recurses := true, apart := false }
def SlotsCodesSaid : Prop := slotsCodesRow.holds Try.pinned (OpenSpec.ofChange slotsCodesSpec)

/-- ITS FALSE NEIGHBOUR: 'it returns false'. Refute it at one input. -/
def slotsCodesWrong : ChangeSpec := { name := "slotsCodes", fn := fun _ => fun
  | [d1, d2] => { results := [.lit (.bool false)], args := [d1, d2] }
  | _ => none }
def SlotsCodesWrongFalsely : Prop := slotsCodesRow.holds Try.pinned (OpenSpec.ofChange slotsCodesWrong)

/-- 'sacristanlaw07.SlotsBack': WHATEVER THE INPUT: true; the input reads as it did. -/
def slotsBackSpec : ChangeSpec := { name := "slotsBack", fn := fun _ => fun
  | [d1, d2, d3] => { results := [.lit (.bool true)], args := [d1, d2, d3] }
  | _ => none }
def slotsBackRow : OpenClaim := { program := "ytcdpgkefdnmkeaa", sum := "53034cac78ac6949511ecfa8b3fa3bb623c7e68e1fa25112a38db99e4410aebf", func := "sacristan/sacristanlaw07.SlotsBack", spec := "slotsBack", inPlace := ["internal/abi.NoEscape", "internal/bytealg.MakeNoZero"], unfollowed := true, recurses := true, apart := false }
def SlotsBackSaid : Prop := slotsBackRow.holds Try.pinned (OpenSpec.ofChange slotsBackSpec)

/-- ITS FALSE NEIGHBOUR: 'it returns false'. Refute it at one input. -/
def slotsBackWrong : ChangeSpec := { name := "slotsBack", fn := fun _ => fun
  | [d1, d2, d3] => { results := [.lit (.bool false)], args := [d1, d2, d3] }
  | _ => none }
def SlotsBackWrongFalsely : Prop := slotsBackRow.holds Try.pinned (OpenSpec.ofChange slotsBackWrong)

/-- 'sacristanlaw07.SlotsHurt': WHATEVER THE INPUT: true; the input reads as it did. -/
def slotsHurtSpec : ChangeSpec := { name := "slotsHurt", fn := fun _ => fun
  | [d1, d2, d3] => { results := [.lit (.bool true)], args := [d1, d2, d3] }
  | _ => none }
def slotsHurtRow : OpenClaim := { program := "ytcdpgkefdnmkeaa", sum := "53034cac78ac6949511ecfa8b3fa3bb623c7e68e1fa25112a38db99e4410aebf", func := "sacristan/sacristanlaw07.SlotsHurt", spec := "slotsHurt", inPlace := ["internal/abi.NoEscape", "internal/bytealg.MakeNoZero"], unfollowed := true, recurses := true, apart := false }
def SlotsHurtSaid : Prop := slotsHurtRow.holds Try.pinned (OpenSpec.ofChange slotsHurtSpec)

/-- ITS FALSE NEIGHBOUR: 'it returns false'. Refute it at one input. -/
def slotsHurtWrong : ChangeSpec := { name := "slotsHurt", fn := fun _ => fun
  | [d1, d2, d3] => { results := [.lit (.bool false)], args := [d1, d2, d3] }
  | _ => none }
def SlotsHurtWrongFalsely : Prop := slotsHurtRow.holds Try.pinned (OpenSpec.ofChange slotsHurtWrong)

/-- 'sacristanlaw07.SlotsOne': WHATEVER THE INPUT: true; the input reads as it did. -/
def slotsOneSpec : ChangeSpec := { name := "slotsOne", fn := fun _ => fun
  | [d] => { results := [.lit (.bool true)], args := [d] }
  | _ => none }
def slotsOneRow : OpenClaim := { program := "ytcdpgkefdnmkeaa", sum := "53034cac78ac6949511ecfa8b3fa3bb623c7e68e1fa25112a38db99e4410aebf", func := "sacristan/sacristanlaw07.SlotsOne", spec := "slotsOne", inPlace := ["internal/abi.NoEscape", "internal/bytealg.MakeNoZero"], unfollowed := true, recurses := true, apart := false }
def SlotsOneSaid : Prop := slotsOneRow.holds Try.pinned (OpenSpec.ofChange slotsOneSpec)

/-- ITS FALSE NEIGHBOUR: 'it returns false'. Refute it at one input. -/
def slotsOneWrong : ChangeSpec := { name := "slotsOne", fn := fun _ => fun
  | [d] => { results := [.lit (.bool false)], args := [d] }
  | _ => none }
def SlotsOneWrongFalsely : Prop := slotsOneRow.holds Try.pinned (OpenSpec.ofChange slotsOneWrong)

/-- 'sacristanlaw07.SlotsExamples': WHATEVER THE INPUT: true; the input reads as it did. -/
def slotsExamplesSpec : ChangeSpec := { name := "slotsExamples", fn := fun _ => fun
  | [] => { results := [.lit (.bool true)], args := [] }
  | _ => none }
def slotsExamplesRow : OpenClaim := { program := "ytcdpgkefdnmkeaa", sum := "53034cac78ac6949511ecfa8b3fa3bb623c7e68e1fa25112a38db99e4410aebf", func := "sacristan/sacristanlaw07.SlotsExamples", spec := "slotsExamples", inPlace := ["internal/abi.NoEscape", "internal/bytealg.MakeNoZero"], unfollowed := true, recurses := true, apart := false }
def SlotsExamplesSaid : Prop := slotsExamplesRow.holds Try.pinned (OpenSpec.ofChange slotsExamplesSpec)

/-- ITS FALSE NEIGHBOUR: 'it returns false'. Refute it at one input. -/
def slotsExamplesWrong : ChangeSpec := { name := "slotsExamples", fn := fun _ => fun
  | [] => { results := [.lit (.bool false)], args := [] }
  | _ => none }
def SlotsExamplesWrongFalsely : Prop := slotsExamplesRow.holds Try.pinned (OpenSpec.ofChange slotsExamplesWrong)

/-- 'sacristanlaw07.SlotsDoes': WHATEVER THE INPUT: true; the input reads as it did. -/
def slotsDoesSpec : ChangeSpec := { name := "slotsDoes", fn := fun _ => fun
  | [d1, d2] => { results := [.lit (.bool true)], args := [d1, d2] }
  | _ => none }
def slotsDoesRow : OpenClaim := { program := "ytcdpgkefdnmkeaa", sum := "53034cac78ac6949511ecfa8b3fa3bb623c7e68e1fa25112a38db99e4410aebf", func := "sacristan/sacristanlaw07.SlotsDoes", spec := "slotsDoes", inPlace := ["internal/abi.NoEscape", "internal/bytealg.MakeNoZero"], unfollowed := true, recurses := true, apart := false }
def SlotsDoesSaid : Prop := slotsDoesRow.holds Try.pinned (OpenSpec.ofChange slotsDoesSpec)

/-- ITS FALSE NEIGHBOUR: 'it returns false'. Refute it at one input. -/
def slotsDoesWrong : ChangeSpec := { name := "slotsDoes", fn := fun _ => fun
  | [d1, d2] => { results := [.lit (.bool false)], args := [d1, d2] }
  | _ => none }
def SlotsDoesWrongFalsely : Prop := slotsDoesRow.holds Try.pinned (OpenSpec.ofChange slotsDoesWrong)

/- THE SECOND FORM. 'bulk': how many values and letters a reading holds, each counted each time it is reached (what is shared counts as often as it is met; a slice's spare places count too). A statement '..UptoSaid' is the law's where the arguments, and the package variables that the reading takes, are together of bulk at most 1048576: NARROWER than '..Said'. Prove '..Said' where nothing that the law and all that it calls make is longer than what came in: it says more and counts as full. Else prove '..UptoSaid'. A law counts once. -/
mutual
def uptoBulk {H : Type} : DataW H → Nat
  | .lit (.string bytes) => bytes.length + 1
  | .lit _ => 1
  | .nil => 1
  | .ptr d => uptoBulk d + 1
  | .slice elems spare => uptoBulkAll elems + uptoBulkAll spare + 1
  | .agg parts => uptoBulkAll parts + 1
  | .iface _ d => uptoBulk d + 1
  | .map entries => uptoBulkEntries entries + 1
  | .held _ => 1
def uptoBulkAll {H : Type} : List (DataW H) → Nat
  | [] => 0
  | d :: r => uptoBulk d + uptoBulkAll r
def uptoBulkEntries {H : Type} : List (Lit × DataW H) → Nat
  | [] => 0
  | x :: r => uptoBulkEntry x + uptoBulkEntries r
def uptoBulkEntry {H : Type} : Lit × DataW H → Nat
  | (.string bytes, d) => bytes.length + uptoBulk d + 1
  | (_, d) => uptoBulk d + 1
 end
def uptoSmall : (H : Type) → List (DataW H) → Bool := fun _ ds => decide (uptoBulkAll ds ≤ 1048576)
def OpenSpec.upto (s : _root_.Go.ChangeSpec) : _root_.Go.OpenSpec := { _root_.Go.OpenSpec.ofChange s with cond := some uptoSmall }

/-- 'sacristanlaw24.BlockCodes', WHERE WHAT IT READS IS OF BULK AT MOST 1048576: true; the input reads as it did. -/
def blockCodesUptoRow : OpenClaim := { program := "ytcdpgkefdnmkeaa", sum := "53034cac78ac6949511ecfa8b3fa3bb623c7e68e1fa25112a38db99e4410aebf", func := "sacristan/sacristanlaw24.BlockCodes", spec := "blockCodes", inPlace := ["internal/abi.NoEscape", "internal/bytealg.MakeNoZero"], unfollowed := true, recurses := true, apart := false, narrowed := true }
def BlockCodesUptoSaid : Prop := blockCodesUptoRow.holds Try.pinned (OpenSpec.upto blockCodesSpec)

/-- 'sacristanlaw24.BlockBack', WHERE WHAT IT READS IS OF BULK AT MOST 1048576: true; the input reads as it did. -/
def blockBackUptoRow : OpenClaim := { program := "ytcdpgkefdnmkeaa", sum := "53034cac78ac6949511ecfa8b3fa3bb623c7e68e1fa25112a38db99e4410aebf", func := "sacristan/sacristanlaw24.BlockBack", spec := "blockBack", inPlace := ["internal/abi.NoEscape", "internal/bytealg.MakeNoZero"], unfollowed := true, recurses := true, apart := false, narrowed := true }
def BlockBackUptoSaid : Prop := blockBackUptoRow.holds Try.pinned (OpenSpec.upto blockBackSpec)

/-- 'sacristanlaw24.BlockTorn', WHERE WHAT IT READS IS OF BULK AT MOST 1048576: true; the input reads as it did. -/
def blockTornUptoRow : OpenClaim := { program := "ytcdpgkefdnmkeaa", sum := "53034cac78ac6949511ecfa8b3fa3bb623c7e68e1fa25112a38db99e4410aebf", func := "sacristan/sacristanlaw24.BlockTorn", spec := "blockTorn", inPlace := ["internal/abi.NoEscape", "internal/bytealg.MakeNoZero"], unfollowed := true, recurses := true, apart := false, narrowed := true }
def BlockTornUptoSaid : Prop := blockTornUptoRow.holds Try.pinned (OpenSpec.upto blockTornSpec)

/-- 'sacristanlaw24.BlockBits', WHERE WHAT IT READS IS OF BULK AT MOST 1048576: true; the input reads as it did. -/
def blockBitsUptoRow : OpenClaim := { program := "ytcdpgkefdnmkeaa", sum := "53034cac78ac6949511ecfa8b3fa3bb623c7e68e1fa25112a38db99e4410aebf", func := "sacristan/sacristanlaw24.BlockBits", spec := "blockBits", inPlace := ["internal/abi.NoEscape", "internal/bytealg.MakeNoZero"], unfollowed := true, recurses := true, apart := false, narrowed := true }
def BlockBitsUptoSaid : Prop := blockBitsUptoRow.holds Try.pinned (OpenSpec.upto blockBitsSpec)

/-- 'sacristanlaw05.FrameCodes', WHERE WHAT IT READS IS OF BULK AT MOST 1048576: true; the input reads as it did. -/
def frameCodesUptoRow : OpenClaim := { program := "ytcdpgkefdnmkeaa", sum := "53034cac78ac6949511ecfa8b3fa3bb623c7e68e1fa25112a38db99e4410aebf", func := "sacristan/sacristanlaw05.FrameCodes", spec := "frameCodes", inPlace := ["internal/abi.NoEscape", "internal/bytealg.MakeNoZero"], unfollowed := true, recurses := true, apart := false, narrowed := true }
def FrameCodesUptoSaid : Prop := frameCodesUptoRow.holds Try.pinned (OpenSpec.upto frameCodesSpec)

/-- 'sacristanlaw05.FrameExamples', WHERE WHAT IT READS IS OF BULK AT MOST 1048576: true; the input reads as it did. -/
def frameExamplesUptoRow : OpenClaim := { program := "ytcdpgkefdnmkeaa", sum := "53034cac78ac6949511ecfa8b3fa3bb623c7e68e1fa25112a38db99e4410aebf", func := "sacristan/sacristanlaw05.FrameExamples", spec := "frameExamples", inPlace := ["internal/abi.NoEscape", "internal/bytealg.MakeNoZero"], unfollowed := true, recurses := true, apart := false, narrowed := true }
def FrameExamplesUptoSaid : Prop := frameExamplesUptoRow.holds Try.pinned (OpenSpec.upto frameExamplesSpec)

/-- 'sacristanlaw05.FrameBack', WHERE WHAT IT READS IS OF BULK AT MOST 1048576: true; the input reads as it did. -/
def frameBackUptoRow : OpenClaim := { program := "ytcdpgkefdnmkeaa", sum := "53034cac78ac6949511ecfa8b3fa3bb623c7e68e1fa25112a38db99e4410aebf", func := "sacristan/sacristanlaw05.FrameBack", spec := "frameBack", inPlace := ["internal/abi.NoEscape", "internal/bytealg.MakeNoZero"], unfollowed := true, recurses := true, apart := false, narrowed := true }
def FrameBackUptoSaid : Prop := frameBackUptoRow.holds Try.pinned (OpenSpec.upto frameBackSpec)

/-- 'sacristanlaw05.FrameTorn', WHERE WHAT IT READS IS OF BULK AT MOST 1048576: true; the input reads as it did. -/
def frameTornUptoRow : OpenClaim := { program := "ytcdpgkefdnmkeaa", sum := "53034cac78ac6949511ecfa8b3fa3bb623c7e68e1fa25112a38db99e4410aebf", func := "sacristan/sacristanlaw05.FrameTorn", spec := "frameTorn", inPlace := ["internal/abi.NoEscape", "internal/bytealg.MakeNoZero"], unfollowed := true, recurses := true, apart := false, narrowed := true }
def FrameTornUptoSaid : Prop := frameTornUptoRow.holds Try.pinned (OpenSpec.upto frameTornSpec)

/-- 'sacristanlaw05.FrameBits', WHERE WHAT IT READS IS OF BULK AT MOST 1048576: true; the input reads as it did. -/
def frameBitsUptoRow : OpenClaim := { program := "ytcdpgkefdnmkeaa", sum := "53034cac78ac6949511ecfa8b3fa3bb623c7e68e1fa25112a38db99e4410aebf", func := "sacristan/sacristanlaw05.FrameBits", spec := "frameBits", inPlace := ["internal/abi.NoEscape", "internal/bytealg.MakeNoZero"], unfollowed := true, recurses := true, apart := false, narrowed := true }
def FrameBitsUptoSaid : Prop := frameBitsUptoRow.holds Try.pinned (OpenSpec.upto frameBitsSpec)

/-- 'sacristanlaw05.FrameOrder', WHERE WHAT IT READS IS OF BULK AT MOST 1048576: true; the input reads as it did. -/
def frameOrderUptoRow : OpenClaim := { program := "ytcdpgkefdnmkeaa", sum := "53034cac78ac6949511ecfa8b3fa3bb623c7e68e1fa25112a38db99e4410aebf", func := "sacristan/sacristanlaw05.FrameOrder", spec := "frameOrder", inPlace := ["internal/abi.NoEscape", "internal/bytealg.MakeNoZero"], unfollowed := true, recurses := true, apart := false, narrowed := true }
def FrameOrderUptoSaid : Prop := frameOrderUptoRow.holds Try.pinned (OpenSpec.upto frameOrderSpec)

/-- 'sacristanlaw24.BlockSplits', WHERE WHAT IT READS IS OF BULK AT MOST 1048576: true; the input reads as it did. -/
def blockSplitsUptoRow : OpenClaim := { program := "ytcdpgkefdnmkeaa", sum := "53034cac78ac6949511ecfa8b3fa3bb623c7e68e1fa25112a38db99e4410aebf", func := "sacristan/sacristanlaw24.BlockSplits", spec := "blockSplits", inPlace := ["internal/abi.NoEscape", "internal/bytealg.MakeNoZero"], unfollowed := true, recurses := true, apart := false, narrowed := true }
def BlockSplitsUptoSaid : Prop := blockSplitsUptoRow.holds Try.pinned (OpenSpec.upto blockSplitsSpec)

/-- 'sacristanlaw24.BlockExamples', WHERE WHAT IT READS IS OF BULK AT MOST 1048576: true; the input reads as it did. -/
def blockExamplesUptoRow : OpenClaim := { program := "ytcdpgkefdnmkeaa", sum := "53034cac78ac6949511ecfa8b3fa3bb623c7e68e1fa25112a38db99e4410aebf", func := "sacristan/sacristanlaw24.BlockExamples", spec := "blockExamples", inPlace := ["internal/abi.NoEscape", "internal/bytealg.MakeNoZero"], unfollowed := true, recurses := true, apart := false, narrowed := true }
def BlockExamplesUptoSaid : Prop := blockExamplesUptoRow.holds Try.pinned (OpenSpec.upto blockExamplesSpec)

/-- 'sacristanlaw24.BlockPieces', WHERE WHAT IT READS IS OF BULK AT MOST 1048576: true; the input reads as it did. -/
def blockPiecesUptoRow : OpenClaim := { program := "ytcdpgkefdnmkeaa", sum := "53034cac78ac6949511ecfa8b3fa3bb623c7e68e1fa25112a38db99e4410aebf", func := "sacristan/sacristanlaw24.BlockPieces", spec := "blockPieces", inPlace := ["internal/abi.NoEscape", "internal/bytealg.MakeNoZero"], unfollowed := true, recurses := true, apart := false, narrowed := true }
def BlockPiecesUptoSaid : Prop := blockPiecesUptoRow.holds Try.pinned (OpenSpec.upto blockPiecesSpec)

/-- 'sacristanlaw07.SlotsCodes', WHERE WHAT IT READS IS OF BULK AT MOST 1048576: true; the input reads as it did. -/
def slotsCodesUptoRow : OpenClaim := { program := "ytcdpgkefdnmkeaa", sum := "53034cac78ac6949511ecfa8b3fa3bb623c7e68e1fa25112a38db99e4410aebf", func := "sacristan/sacristanlaw07.SlotsCodes", spec := "slotsCodes", inPlace := ["internal/abi.NoEscape", "internal/bytealg.MakeNoZero"], unfollowed := true, recurses := true, apart := false, narrowed := true }
def SlotsCodesUptoSaid : Prop := slotsCodesUptoRow.holds Try.pinned (OpenSpec.upto slotsCodesSpec)

/-- 'sacristanlaw07.SlotsBack', WHERE WHAT IT READS IS OF BULK AT MOST 1048576: true; the input reads as it did. -/
def slotsBackUptoRow : OpenClaim := { program := "ytcdpgkefdnmkeaa", sum := "53034cac78ac6949511ecfa8b3fa3bb623c7e68e1fa25112a38db99e4410aebf", func := "sacristan/sacristanlaw07.SlotsBack", spec := "slotsBack", inPlace := ["internal/abi.NoEscape", "internal/bytealg.MakeNoZero"], unfollowed := true, recurses := true, apart := false, narrowed := true }
def SlotsBackUptoSaid : Prop := slotsBackUptoRow.holds Try.pinned (OpenSpec.upto slotsBackSpec)

/-- 'sacristanlaw07.SlotsHurt', WHERE WHAT IT READS IS OF BULK AT MOST 1048576: true; the input reads as it did. -/
def slotsHurtUptoRow : OpenClaim := { program := "ytcdpgkefdnmkeaa", sum := "53034cac78ac6949511ecfa8b3fa3bb623c7e68e1fa25112a38db99e4410aebf", func := "sacristan/sacristanlaw07.SlotsHurt", spec := "slotsHurt", inPlace := ["internal/abi.NoEscape", "internal/bytealg.MakeNoZero"], unfollowed := true, recurses := true, apart := false, narrowed := true }
def SlotsHurtUptoSaid : Prop := slotsHurtUptoRow.holds Try.pinned (OpenSpec.upto slotsHurtSpec)

/-- 'sacristanlaw07.SlotsOne', WHERE WHAT IT READS IS OF BULK AT MOST 1048576: true; the input reads as it did. -/
def slotsOneUptoRow : OpenClaim := { program := "ytcdpgkefdnmkeaa", sum := "53034cac78ac6949511ecfa8b3fa3bb623c7e68e1fa25112a38db99e4410aebf", func := "sacristan/sacristanlaw07.SlotsOne", spec := "slotsOne", inPlace := ["internal/abi.NoEscape", "internal/bytealg.MakeNoZero"], unfollowed := true, recurses := true, apart := false, narrowed := true }
def SlotsOneUptoSaid : Prop := slotsOneUptoRow.holds Try.pinned (OpenSpec.upto slotsOneSpec)

/-- 'sacristanlaw07.SlotsExamples', WHERE WHAT IT READS IS OF BULK AT MOST 1048576: true; the input reads as it did. -/
def slotsExamplesUptoRow : OpenClaim := { program := "ytcdpgkefdnmkeaa", sum := "53034cac78ac6949511ecfa8b3fa3bb623c7e68e1fa25112a38db99e4410aebf", func := "sacristan/sacristanlaw07.SlotsExamples", spec := "slotsExamples", inPlace := ["internal/abi.NoEscape", "internal/bytealg.MakeNoZero"], unfollowed := true, recurses := true, apart := false, narrowed := true }
def SlotsExamplesUptoSaid : Prop := slotsExamplesUptoRow.holds Try.pinned (OpenSpec.upto slotsExamplesSpec)

/-- 'sacristanlaw07.SlotsDoes', WHERE WHAT IT READS IS OF BULK AT MOST 1048576: true; the input reads as it did. -/
def slotsDoesUptoRow : OpenClaim := { program := "ytcdpgkefdnmkeaa", sum := "53034cac78ac6949511ecfa8b3fa3bb623c7e68e1fa25112a38db99e4410aebf", func := "sacristan/sacristanlaw07.SlotsDoes", spec := "slotsDoes", inPlace := ["internal/abi.NoEscape", "internal/bytealg.MakeNoZero"], unfollowed := true, recurses := true, apart := false, narrowed := true }
def SlotsDoesUptoSaid : Prop := slotsDoesUptoRow.holds Try.pinned (OpenSpec.upto slotsDoesSpec)

end Rows
end Go.Proofs.Ytcdpgkefdnmkeaa
