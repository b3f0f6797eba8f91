/-
  No cell of these rows narrows 'for every input' (looked for: loops, veiled, ifaces, maps, wideKeys, modest, calm, conditions, laid).
  DERIVED. THE GIVEN ROWS OF THIS SEAT. 9 by the template 'for every input the law returns true; each argument reads behind the call as it read before'; 0 by the template 'total and deterministic' (their statements: YtgnhpbolmfbngaaTotals.lean).
  GIVEN WITH THE SEED: the statements are not yours to turn. If you find one false, say at which input.
  Laid BY PROGRAM, IN A SANDBOX (cutbox-rows.mjs): the forced cells as the released guide's own fill.sh prints them over the translation d90fe181b302682d… (all of the seat's roots in one cut). By AI agents, Wed Nov 11 2026. No macro, syntax, notation, axiom, sorry.
-/
import Derived.Test.YtgnhpbolmfbngaaChecked
import GoSem.Claim
import GoSem.ClaimJoined
import GoSem.ClaimMapViews
import Derived.JoinedTies
import Derived.KernelRfl
namespace Go.Proofs.Ytgnhpbolmfbngaa
/- THE CELL 'sum', in the pinned program and in every row, IS THE sha256 OF THE DUMP (.gsa) THAT YtgnhpbolmfbngaaProg.lean LOADS. Nothing in Lean hashes anything: it is a label: what it is worth is what the hold of that sum in a sandbox is worth. -/
noncomputable def Try.pinned : Pinned := { name := "ytgnhpbolmfbngaa", sum := "d90fe181b302682d137f58dbcb3c2297ce065275f4f9e8bcb6aa20529180d092", checked := Try.checked }
namespace Rows
def none {H : Type} : Left H := { results := [], args := [] }

/-- 'sacristanlaw24.BlockSplits': WHATEVER THE INPUT: true; the input reads as it did. -/
def blockSplitsSpec : ChangeSpec := { name := "blockSplits", fn := fun _ => fun
  | [d1, d2, d3, d4, d5] => { results := [.lit (.bool true)], args := [d1, d2, d3, d4, d5] }
  | _ => none }
def blockSplitsRow : OpenClaim := { program := "ytgnhpbolmfbngaa", sum := "d90fe181b302682d137f58dbcb3c2297ce065275f4f9e8bcb6aa20529180d092", func := "sacristan/sacristanlaw24.BlockSplits", spec := "blockSplits", inPlace := ["internal/abi.NoEscape", "internal/bytealg.MakeNoZero"], unfollowed := true, recurses := true, apart := false }
def BlockSplitsSaid : Prop := blockSplitsRow.holds Try.pinned (OpenSpec.ofChange blockSplitsSpec)

/-- ITS FALSE NEIGHBOUR: 'it returns false'. Refute it at one input. -/
def blockSplitsWrong : ChangeSpec := { name := "blockSplits", fn := fun _ => fun
  | [d1, d2, d3, d4, d5] => { results := [.lit (.bool false)], args := [d1, d2, d3, d4, d5] }
  | _ => none }
def BlockSplitsWrongFalsely : Prop := blockSplitsRow.holds Try.pinned (OpenSpec.ofChange blockSplitsWrong)

/-- 'sacristanlaw24.BlockExamples': WHATEVER THE INPUT: true; the input reads as it did. -/
def blockExamplesSpec : ChangeSpec := { name := "blockExamples", fn := fun _ => fun
  | [] => { results := [.lit (.bool true)], args := [] }
  | _ => none }
def blockExamplesRow : OpenClaim := { program := "ytgnhpbolmfbngaa", sum := "d90fe181b302682d137f58dbcb3c2297ce065275f4f9e8bcb6aa20529180d092", func := "sacristan/sacristanlaw24.BlockExamples", spec := "blockExamples", inPlace := ["internal/abi.NoEscape", "internal/bytealg.MakeNoZero"], unfollowed := true, recurses := true, apart := false }
def BlockExamplesSaid : Prop := blockExamplesRow.holds Try.pinned (OpenSpec.ofChange blockExamplesSpec)

/-- ITS FALSE NEIGHBOUR: 'it returns false'. Refute it at one input. -/
def blockExamplesWrong : ChangeSpec := { name := "blockExamples", fn := fun _ => fun
  | [] => { results := [.lit (.bool false)], args := [] }
  | _ => none }
def BlockExamplesWrongFalsely : Prop := blockExamplesRow.holds Try.pinned (OpenSpec.ofChange blockExamplesWrong)

/-- 'sacristanlaw24.BlockPieces': WHATEVER THE INPUT: true; the input reads as it did. -/
def blockPiecesSpec : ChangeSpec := { name := "blockPieces", fn := fun _ => fun
  | [d1, d2, d3, d4, d5] => { results := [.lit (.bool true)], args := [d1, d2, d3, d4, d5] }
  | _ => none }
def blockPiecesRow : OpenClaim := { program := "ytgnhpbolmfbngaa", sum := "d90fe181b302682d137f58dbcb3c2297ce065275f4f9e8bcb6aa20529180d092", func := "sacristan/sacristanlaw24.BlockPieces", spec := "blockPieces", inPlace := ["internal/abi.NoEscape", "internal/bytealg.MakeNoZero"], unfollowed := true, recurses := true, apart := false }
def BlockPiecesSaid : Prop := blockPiecesRow.holds Try.pinned (OpenSpec.ofChange blockPiecesSpec)

/-- ITS FALSE NEIGHBOUR: 'it returns false'. Refute it at one input. -/
def blockPiecesWrong : ChangeSpec := { name := "blockPieces", fn := fun _ => fun
  | [d1, d2, d3, d4, d5] => { results := [.lit (.bool false)], args := [d1, d2, d3, d4, d5] }
  | _ => none }
def BlockPiecesWrongFalsely : Prop := blockPiecesRow.holds Try.pinned (OpenSpec.ofChange blockPiecesWrong)

/-- 'sacristanlaw07.SlotsCodes': WHATEVER THE INPUT: true; the input reads as it did. -/
def slotsCodesSpec : ChangeSpec := { name := "slotsCodes", fn := fun _ => fun
  | [d1, d2] => { results := [.lit (.bool true)], args := [d1, d2] }
  | _ => none }
def slotsCodesRow : OpenClaim := { program := "ytgnhpbolmfbngaa", sum := "d90fe181b302682d137f58dbcb3c2297ce065275f4f9e8bcb6aa20529180d092", func := "sacristan/sacristanlaw07.SlotsCodes", spec := "slotsCodes", inPlace := ["internal/abi.NoEscape", "internal/bytealg.MakeNoZero"], unfollowed := true, recurses := true, apart := false }
def SlotsCodesSaid : Prop := slotsCodesRow.holds Try.pinned (OpenSpec.ofChange slotsCodesSpec)

/-- ITS FALSE NEIGHBOUR: 'it returns false'. Refute it at one input. -/
def slotsCodesWrong : ChangeSpec := { name := "slotsCodes", fn := fun _ => fun
  | [d1, d2] => { results := [.lit (.bool false)], args := [d1, d2] }
  | _ => none }
def SlotsCodesWrongFalsely : Prop := slotsCodesRow.holds Try.pinned (OpenSpec.ofChange slotsCodesWrong)

/-- 'sacristanlaw07.SlotsBack': WHATEVER THE INPUT: true; the input reads as it did. -/
def slotsBackSpec : ChangeSpec := { name := "slotsBack", fn := fun _ => fun
  | [d1, d2, d3] => { results := [.lit (.bool true)], args := [d1, d2, d3] }
  | _ => none }
def slotsBackRow : OpenClaim := { program := "ytgnhpbolmfbngaa", sum := "d90fe181b302682d137f58dbcb3c2297ce065275f4f9e8bcb6aa20529180d092", func := "sacristan/sacristanlaw07.SlotsBack", spec := "slotsBack", inPlace := ["internal/abi.NoEscape", "internal/bytealg.MakeNoZero"], unfollowed := true, recurses := true, apart := false }
def SlotsBackSaid : Prop := slotsBackRow.holds Try.pinned (OpenSpec.ofChange slotsBackSpec)

/-- ITS FALSE NEIGHBOUR: 'it returns false'. Refute it at one input. -/
def slotsBackWrong : ChangeSpec := { name := "slotsBack", fn := fun _ => fun
  | [d1, d2, d3] => { results := [.lit (.bool false)], args := [d1, d2, d3] }
  | _ => none }
def SlotsBackWrongFalsely : Prop := slotsBackRow.holds Try.pinned (OpenSpec.ofChange slotsBackWrong)

/-- 'sacristanlaw07.SlotsHurt': WHATEVER THE INPUT: true; the input reads as it did. -/
def slotsHurtSpec : ChangeSpec := { name := "slotsHurt", fn := fun _ => fun
  | [d1, d2, d3] => { results := [.lit (.bool true)], args := [d1, d2, d3] }
  | _ => none }
def slotsHurtRow : OpenClaim := { program := "ytgnhpbolmfbngaa", sum := "d90fe181b302682d137f58dbcb3c2297ce065275f4f9e8bcb6aa20529180d092", func := "sacristan/sacristanlaw07.SlotsHurt", spec := "slotsHurt", inPlace := ["internal/abi.NoEscape", "internal/bytealg.MakeNoZero"], unfollowed := true, recurses := true, apart := false }
def SlotsHurtSaid : Prop := slotsHurtRow.holds Try.pinned (OpenSpec.ofChange slotsHurtSpec)

/-- ITS FALSE NEIGHBOUR: 'it returns false'. Refute it at one input. -/
def slotsHurtWrong : ChangeSpec := { name := "slotsHurt", fn := fun _ => fun
  | [d1, d2, d3] => { results := [.lit (.bool false)], args := [d1, d2, d3] }
  | _ => none }
def SlotsHurtWrongFalsely : Prop := slotsHurtRow.holds Try.pinned (OpenSpec.ofChange slotsHurtWrong)

/-- 'sacristanlaw07.SlotsOne': WHATEVER THE INPUT: true; the input reads as it did. -/
def slotsOneSpec : ChangeSpec := { name := "slotsOne", fn := fun _ => fun
  | [d] => { results := [.lit (.bool true)], args := [d] }
  | _ => none }
def slotsOneRow : OpenClaim := { program := "ytgnhpbolmfbngaa", sum := "d90fe181b302682d137f58dbcb3c2297ce065275f4f9e8bcb6aa20529180d092", func := "sacristan/sacristanlaw07.SlotsOne", spec := "slotsOne", inPlace := ["internal/abi.NoEscape", "internal/bytealg.MakeNoZero"], unfollowed := true, recurses := true, apart := false }
def SlotsOneSaid : Prop := slotsOneRow.holds Try.pinned (OpenSpec.ofChange slotsOneSpec)

/-- ITS FALSE NEIGHBOUR: 'it returns false'. Refute it at one input. -/
def slotsOneWrong : ChangeSpec := { name := "slotsOne", fn := fun _ => fun
  | [d] => { results := [.lit (.bool false)], args := [d] }
  | _ => none }
def SlotsOneWrongFalsely : Prop := slotsOneRow.holds Try.pinned (OpenSpec.ofChange slotsOneWrong)

/-- 'sacristanlaw07.SlotsExamples': WHATEVER THE INPUT: true; the input reads as it did. -/
def slotsExamplesSpec : ChangeSpec := { name := "slotsExamples", fn := fun _ => fun
  | [] => { results := [.lit (.bool true)], args := [] }
  | _ => none }
def slotsExamplesRow : OpenClaim := { program := "ytgnhpbolmfbngaa", sum := "d90fe181b302682d137f58dbcb3c2297ce065275f4f9e8bcb6aa20529180d092", func := "sacristan/sacristanlaw07.SlotsExamples", spec := "slotsExamples", inPlace := ["internal/abi.NoEscape", "internal/bytealg.MakeNoZero"], unfollowed := true, recurses := true, apart := false }
def SlotsExamplesSaid : Prop := slotsExamplesRow.holds Try.pinned (OpenSpec.ofChange slotsExamplesSpec)

/-- ITS FALSE NEIGHBOUR: 'it returns false'. Refute it at one input. -/
def slotsExamplesWrong : ChangeSpec := { name := "slotsExamples", fn := fun _ => fun
  | [] => { results := [.lit (.bool false)], args := [] }
  | _ => none }
def SlotsExamplesWrongFalsely : Prop := slotsExamplesRow.holds Try.pinned (OpenSpec.ofChange slotsExamplesWrong)

/-- 'sacristanlaw07.SlotsDoes': WHATEVER THE INPUT: true; the input reads as it did. -/
def slotsDoesSpec : ChangeSpec := { name := "slotsDoes", fn := fun _ => fun
  | [d1, d2] => { results := [.lit (.bool true)], args := [d1, d2] }
  | _ => none }
def slotsDoesRow : OpenClaim := { program := "ytgnhpbolmfbngaa", sum := "d90fe181b302682d137f58dbcb3c2297ce065275f4f9e8bcb6aa20529180d092", func := "sacristan/sacristanlaw07.SlotsDoes", spec := "slotsDoes", inPlace := ["internal/abi.NoEscape", "internal/bytealg.MakeNoZero"], unfollowed := true, recurses := true, apart := false }
def SlotsDoesSaid : Prop := slotsDoesRow.holds Try.pinned (OpenSpec.ofChange slotsDoesSpec)

/-- ITS FALSE NEIGHBOUR: 'it returns false'. Refute it at one input. -/
def slotsDoesWrong : ChangeSpec := { name := "slotsDoes", fn := fun _ => fun
  | [d1, d2] => { results := [.lit (.bool false)], args := [d1, d2] }
  | _ => none }
def SlotsDoesWrongFalsely : Prop := slotsDoesRow.holds Try.pinned (OpenSpec.ofChange slotsDoesWrong)

/- THE SECOND FORM. 'bulk': how many values and letters a reading holds, each counted each time it is reached (what is shared counts as often as it is met; a slice's spare places count too). A statement '..UptoSaid' is the law's where the arguments, and the package variables that the reading takes, are together of bulk at most 1048576: NARROWER than '..Said'. Prove '..Said' where nothing that the law and all that it calls make is longer than what came in: it says more and counts as full. Else prove '..UptoSaid'. A law counts once. -/
mutual
def uptoBulk {H : Type} : DataW H → Nat
  | .lit (.string bytes) => bytes.length + 1
  | .lit _ => 1
  | .nil => 1
  | .ptr d => uptoBulk d + 1
  | .slice elems spare => uptoBulkAll elems + uptoBulkAll spare + 1
  | .agg parts => uptoBulkAll parts + 1
  | .iface _ d => uptoBulk d + 1
  | .map entries => uptoBulkEntries entries + 1
  | .held _ => 1
def uptoBulkAll {H : Type} : List (DataW H) → Nat
  | [] => 0
  | d :: r => uptoBulk d + uptoBulkAll r
def uptoBulkEntries {H : Type} : List (Lit × DataW H) → Nat
  | [] => 0
  | x :: r => uptoBulkEntry x + uptoBulkEntries r
def uptoBulkEntry {H : Type} : Lit × DataW H → Nat
  | (.string bytes, d) => bytes.length + uptoBulk d + 1
  | (_, d) => uptoBulk d + 1
 end
def uptoSmall : (H : Type) → List (DataW H) → Bool := fun _ ds => decide (uptoBulkAll ds ≤ 1048576)
def OpenSpec.upto (s : _root_.Go.ChangeSpec) : _root_.Go.OpenSpec := { _root_.Go.OpenSpec.ofChange s with cond := some uptoSmall }

/-- 'sacristanlaw24.BlockSplits', WHERE WHAT IT READS IS OF BULK AT MOST 1048576: true; the input reads as it did. -/
def blockSplitsUptoRow : OpenClaim := { program := "ytgnhpbolmfbngaa", sum := "d90fe181b302682d137f58dbcb3c2297ce065275f4f9e8bcb6aa20529180d092", func := "sacristan/sacristanlaw24.BlockSplits", spec := "blockSplits", inPlace := ["internal/abi.NoEscape", "internal/bytealg.MakeNoZero"], unfollowed := true, recurses := true, apart := false, narrowed := true }
def BlockSplitsUptoSaid : Prop := blockSplitsUptoRow.holds Try.pinned (OpenSpec.upto blockSplitsSpec)

/-- 'sacristanlaw24.BlockExamples', WHERE WHAT IT READS IS OF BULK AT MOST 1048576: true; the input reads as it did. -/
def blockExamplesUptoRow : OpenClaim := { program := "ytgnhpbolmfbngaa", sum := "d90fe181b302682d137f58dbcb3c2297ce065275f4f9e8bcb6aa20529180d092", func := "sacristan/sacristanlaw24.BlockExamples", spec := "blockExamples", inPlace := ["internal/abi.NoEscape", "internal/bytealg.MakeNoZero"], unfollowed := true, recurses := true, apart := false, narrowed := true }
def BlockExamplesUptoSaid : Prop := blockExamplesUptoRow.holds Try.pinned (OpenSpec.upto blockExamplesSpec)

/-- 'sacristanlaw24.BlockPieces', WHERE WHAT IT READS IS OF BULK AT MOST 1048576: true; the input reads as it did. -/
def blockPiecesUptoRow : OpenClaim := { program := "ytgnhpbolmfbngaa", sum := "d90fe181b302682d137f58dbcb3c2297ce065275f4f9e8bcb6aa20529180d092", func := "sacristan/sacristanlaw24.BlockPieces", spec := "blockPieces", inPlace := ["internal/abi.NoEscape", "internal/bytealg.MakeNoZero"], unfollowed := true, recurses := true, apart := false, narrowed := true }
def BlockPiecesUptoSaid : Prop := blockPiecesUptoRow.holds Try.pinned (OpenSpec.upto blockPiecesSpec)

/-- 'sacristanlaw07.SlotsCodes', WHERE WHAT IT READS IS OF BULK AT MOST 1048576: true; the input reads as it did. -/
def slotsCodesUptoRow : OpenClaim := { program := "ytgnhpbolmfbngaa", sum := "d90fe181b302682d137f58dbcb3c2297ce065275f4f9e8bcb6aa20529180d092", func := "sacristan/sacristanlaw07.SlotsCodes", spec := "slotsCodes", inPlace := ["internal/abi.NoEscape", "internal/bytealg.MakeNoZero"], unfollowed := true, recurses := true, apart := false, narrowed := true }
def SlotsCodesUptoSaid : Prop := slotsCodesUptoRow.holds Try.pinned (OpenSpec.upto slotsCodesSpec)

/-- 'sacristanlaw07.SlotsBack', WHERE WHAT IT READS IS OF BULK AT MOST 1048576: true; the input reads as it did. -/
def slotsBackUptoRow : OpenClaim := { program := "ytgnhpbolmfbngaa", sum := "d90fe181b302682d137f58dbcb3c2297ce065275f4f9e8bcb6aa20529180d092", func := "sacristan/sacristanlaw07.SlotsBack", spec := "slotsBack", inPlace := ["internal/abi.NoEscape", "internal/bytealg.MakeNoZero"], unfollowed := true, recurses := true, apart := false, narrowed := true }
def SlotsBackUptoSaid : Prop := slotsBackUptoRow.holds Try.pinned (OpenSpec.upto slotsBackSpec)

/-- 'sacristanlaw07.SlotsHurt', WHERE WHAT IT READS IS OF BULK AT MOST 1048576: true; the input reads as it did. -/
def slotsHurtUptoRow : OpenClaim := { program := "ytgnhpbolmfbngaa", sum := "d90fe181b302682d137f58dbcb3c2297ce065275f4f9e8bcb6aa20529180d092", func := "sacristan/sacristanlaw07.SlotsHurt", spec := "slotsHurt", inPlace := ["internal/abi.NoEscape", "internal/bytealg.MakeNoZero"], unfollowed := true, recurses := true, apart := false, narrowed := true }
def SlotsHurtUptoSaid : Prop := slotsHurtUptoRow.holds Try.pinned (OpenSpec.upto slotsHurtSpec)

/-- 'sacristanlaw07.SlotsOne', WHERE WHAT IT READS IS OF BULK AT MOST 1048576: true; the input reads as it did. -/
def slotsOneUptoRow : OpenClaim := { program := "ytgnhpbolmfbngaa", sum := "d90fe181b302682d137f58dbcb3c2297ce065275f4f9e8bcb6aa20529180d092", func := "sacristan/sacristanlaw07.SlotsOne", spec := "slotsOne", inPlace := ["internal/abi.NoEscape", "internal/bytealg.MakeNoZero"], unfollowed := true, recurses := true, apart := false, narrowed := true }
def SlotsOneUptoSaid : Prop := slotsOneUptoRow.holds Try.pinned (OpenSpec.upto slotsOneSpec)

/-- 'sacristanlaw07.SlotsExamples', WHERE WHAT IT READS IS OF BULK AT MOST 1048576: true; the input reads as it did. -/
def slotsExamplesUptoRow : OpenClaim := { program := "ytgnhpbolmfbngaa", sum := "d90fe181b302682d137f58dbcb3c2297ce065275f4f9e8bcb6aa20529180d092", func := "sacristan/sacristanlaw07.SlotsExamples", spec := "slotsExamples", inPlace := ["internal/abi.NoEscape", "internal/bytealg.MakeNoZero"], unfollowed := true, recurses := true, apart := false, narrowed := true }
def SlotsExamplesUptoSaid : Prop := slotsExamplesUptoRow.holds Try.pinned (OpenSpec.upto slotsExamplesSpec)

/-- 'sacristanlaw07.SlotsDoes', WHERE WHAT IT READS IS OF BULK AT MOST 1048576: true; the input reads as it did. -/
def slotsDoesUptoRow : OpenClaim := { program := "ytgnhpbolmfbngaa", sum := "d90fe181b302682d137f58dbcb3c2297ce065275f4f9e8bcb6aa20529180d092", func := "sacristan/sacristanlaw07.SlotsDoes", spec := "slotsDoes", inPlace := ["internal/abi.NoEscape", "internal/bytealg.MakeNoZero"], unfollowed := true, recurses := true, apart := false, narrowed := true }
def SlotsDoesUptoSaid : Prop := slotsDoesUptoRow.holds Try.pinned (OpenSpec.upto slotsDoesSpec)

end Rows
end Go.Proofs.Ytgnhpbolmfbngaa
