/- The words at the head of the translation, read once. -/
import Derived.Test.YtjdmindpiaijcaaRows
import Derived.WalkKit
import Derived.KernelRfl
import Derived.JoinedOf
namespace Go.Proofs.Ytjdmindpiaijcaa
open Go.RowKit

def headNums : List Nat := [104, 97, 114, 110, 101, 115, 115, 32, 99, 49, 101, 55, 97, 49, 49, 50, 100, 51, 57, 53, 48, 102, 55, 57, 50, 48, 57, 102, 100, 55, 50, 98, 56, 56, 98, 50, 100, 55, 56, 49, 102, 49, 49, 102, 52, 101, 97, 99, 52, 51, 55, 49, 102, 102, 51, 51, 49, 100, 53, 56, 101, 102, 97, 52, 56, 48, 48, 98, 101, 101, 48, 57, 32, 99, 117, 116, 32, 97, 116, 32, 115, 97, 99, 114, 105, 115, 116, 97, 110, 47, 115, 97, 99, 114, 105, 115, 116, 97, 110, 108, 97, 119, 50, 53, 46, 82, 105, 110, 103, 69, 120, 97, 109, 112, 108, 101, 115]
def headList : List Char := headNums.map Char.ofNat
theorem head_text : Try.prog.initOrder = String.ofList headList := by kernel_rfl
theorem head_list : Try.prog.initOrder.toList = headList := by rw [head_text]; exact String.toList_ofList
def headRest : List (List Nat) := [[99, 117, 116], [97, 116], [115, 97, 99, 114, 105, 115, 116, 97, 110, 47, 115, 97, 99, 114, 105, 115, 116, 97, 110, 108, 97, 119, 50, 53, 46, 82, 105, 110, 103, 69, 120, 97, 109, 112, 108, 101, 115]]
def restList : List (List Char) := headRest.map (fun l => l.map Char.ofNat)
theorem head_words : behindMainWord (wordsSigns headList) = restList := by kernel_rfl
def makeOn (lifts : List String) : List (List Char) → Option Make
  | c :: rest => if c == "gc".toList || c == "spec".toList then some .whole else if c == "cut".toList || (c == "finals".toList && rest.head? == some "cut".toList) then some .cut else if c == "carried".toList then some .carried else if lifts.isEmpty then none else some (.lifted lifts)
  | [] => none
theorem make_of (P : Program) (W : List (List Char)) (h : behindMainWord (wordsSigns P.initOrder.toList) = W) : P.make = makeOn P.headLifts W := by
  unfold Program.make
  rw [h]
  cases W <;> rfl
theorem lifts_of (P : Program) (W : List (List Char)) (h : behindMainWord (wordsSigns P.initOrder.toList) = W) :
    P.headLifts = (if (stripLifts liftWords W).2.head? == some "cut".toList then (stripLifts liftWords W).1 else []) := by
  subst h
  rfl
theorem liftsFinal_of (P : Program) (W : List (List Char)) (h : behindMainWord (wordsSigns P.initOrder.toList) = W) :
    P.liftsFinal = ((W.head? == some "carried".toList && W.take 3 != ["carried".toList, "gc".toList, "cut".toList]) || P.headLifts.contains "finals") := by
  subst h
  rfl
def enterOn (P : Program) : List (List Char) → Bool
  | c :: rest =>
    ((c == "gc".toList || c == "spec".toList) && (rest.isEmpty || rest.head? == some "stop".toList)) ||
    (c == "carried".toList && rest.take 2 == ["gc".toList, "cut".toList] && !P.laysLater && !P.bearsReflect) ||
    ((stripLifts liftWords (c :: rest)).2.head? == some "cut".toList &&
      ((stripLifts liftWords (c :: rest)).1.contains "finals" || !P.laysLater) && ((stripLifts liftWords (c :: rest)).1.contains "reflectrows" || !P.bearsReflect) &&
      ((stripLifts liftWords (c :: rest)).1.contains "reflectrows" || !(stripLifts liftWords (c :: rest)).1.contains "leanrows") &&
      P.doorFits (stripLifts liftWords (c :: rest)).1)
  | [] => false
theorem mayEnter_of (P : Program) (W : List (List Char)) (h : behindMainWord (wordsSigns P.initOrder.toList) = W) : P.mayEnter = enterOn P W := by
  unfold Program.mayEnter
  rw [h]
  cases W <;> rfl
theorem words_ok : behindMainWord (wordsSigns Try.prog.initOrder.toList) = restList := by rw [head_list]; exact head_words
theorem make_ok : Try.prog.make = some .cut := (make_of _ _ words_ok).trans (by kernel_rfl)
theorem headLifts_ok : Try.prog.headLifts = [] := (lifts_of _ _ words_ok).trans (by kernel_rfl)
theorem liftsFinal_ok : Try.prog.liftsFinal = false := by
  rw [liftsFinal_of _ _ words_ok, headLifts_ok]
  kernel_rfl
theorem mayEnter_ok : Try.prog.mayEnter = true := (mayEnter_of _ _ words_ok).trans (by kernel_rfl)
/-- The facts of a row's list, with what the head's words say put in. -/
theorem joined_of {P : Program} {f : FuncId} {fn : Func} {s : ChangeSpec} {c : OpenClaim} {a0 a1 a2 a3 a4 : Bool} (h1 : P.mayEnter = true) (h2 : P.liftsFinal = false) (h3 : P.make = some .cut)
    (e : joinedFacts P f fn s c = (a0 && P.mayEnter && (c.lifted == P.liftsFinal) && (P.make == some c.make) && a1 && a2 && a3 && a4)) (h : (a0 && true && (c.lifted == false) && (some Make.cut == some c.make) && a1 && a2 && a3 && a4) = true) : joinedFacts P f fn s c = true := by
  rw [e, h1, h2, h3]
  exact h
end Go.Proofs.Ytjdmindpiaijcaa
