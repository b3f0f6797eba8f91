/- The words at the head of the translation, read once. -/
import Derived.Test.YtjpelmjocdodcaaRows
import Derived.WalkKit
import Derived.KernelRfl
import Derived.JoinedOf
namespace Go.Proofs.Ytjpelmjocdodcaa
open Go.RowKit

def headNums : List Nat := [104, 97, 114, 110, 101, 115, 115, 32, 98, 52, 53, 100, 98, 51, 98, 49, 48, 55, 49, 55, 48, 100, 49, 57, 57, 53, 101, 53, 52, 51, 54, 100, 97, 52, 98, 52, 53, 100, 52, 57, 56, 57, 51, 51, 99, 98, 53, 98, 57, 50, 56, 50, 98, 101, 56, 54, 48, 50, 54, 97, 54, 54, 54, 98, 50, 51, 98, 52, 52, 56, 101, 100, 32, 99, 117, 116, 32, 97, 116, 32, 115, 97, 99, 114, 105, 115, 116, 97, 110, 47, 115, 97, 99, 114, 105, 115, 116, 97, 110, 108, 97, 119, 48, 52, 46, 68, 105, 115, 107, 70, 97, 105, 108, 115, 32, 115, 97, 99, 114, 105, 115, 116, 97, 110, 47, 115, 97, 99, 114, 105, 115, 116, 97, 110, 108, 97, 119, 48, 52, 46, 68, 105, 115, 107, 66, 121, 116, 101, 115, 32, 115, 97, 99, 114, 105, 115, 116, 97, 110, 47, 115, 97, 99, 114, 105, 115, 116, 97, 110, 108, 97, 119, 48, 52, 46, 68, 105, 115, 107, 65, 103, 97, 105, 110, 32, 115, 97, 99, 114, 105, 115, 116, 97, 110, 47, 115, 97, 99, 114, 105, 115, 116, 97, 110, 108, 97, 119, 48, 52, 46, 68, 105, 115, 107, 83, 121, 110, 99, 101, 100, 32, 115, 97, 99, 114, 105, 115, 116, 97, 110, 47, 115, 97, 99, 114, 105, 115, 116, 97, 110, 108, 97, 119, 48, 52, 46, 68, 105, 115, 107, 69, 120, 97, 109, 112, 108, 101, 115, 32, 115, 97, 99, 114, 105, 115, 116, 97, 110, 47, 115, 97, 99, 114, 105, 115, 116, 97, 110, 108, 97, 119, 48, 52, 46, 68, 105, 115, 107, 68, 111, 101, 115, 32, 115, 97, 99, 114, 105, 115, 116, 97, 110, 47, 115, 97, 99, 114, 105, 115, 116, 97, 110, 108, 97, 119, 48, 54, 46, 82, 101, 99, 111, 114, 100, 83, 101, 99, 116, 111, 114, 115, 32, 115, 97, 99, 114, 105, 115, 116, 97, 110, 47, 115, 97, 99, 114, 105, 115, 116, 97, 110, 108, 97, 119, 48, 54, 46, 82, 101, 99, 111, 114, 100, 66, 97, 99, 107, 32, 115, 97, 99, 114, 105, 115, 116, 97, 110, 47, 115, 97, 99, 114, 105, 115, 116, 97, 110, 108, 97, 119, 48, 54, 46, 82, 101, 99, 111, 114, 100, 65, 108, 111, 110, 101, 32, 115, 97, 99, 114, 105, 115, 116, 97, 110, 47, 115, 97, 99, 114, 105, 115, 116, 97, 110, 108, 97, 119, 48, 54, 46, 82, 101, 99, 111, 114, 100, 82, 111, 119, 32, 115, 97, 99, 114, 105, 115, 116, 97, 110, 47, 115, 97, 99, 114, 105, 115, 116, 97, 110, 108, 97, 119, 48, 54, 46, 82, 101, 99, 111, 114, 100, 69, 120, 97, 109, 112, 108, 101, 115, 32, 115, 97, 99, 114, 105, 115, 116, 97, 110, 47, 115, 97, 99, 114, 105, 115, 116, 97, 110, 108, 97, 119, 48, 54, 46, 82, 101, 99, 111, 114, 100, 82, 101, 97, 100, 115, 32, 115, 97, 99, 114, 105, 115, 116, 97, 110, 47, 115, 97, 99, 114, 105, 115, 116, 97, 110, 108, 97, 119, 48, 54, 46, 82, 101, 99, 111, 114, 100, 84, 111, 114, 110]
def headList : List Char := headNums.map Char.ofNat
theorem head_text : Try.prog.initOrder = String.ofList headList := by kernel_rfl
theorem head_list : Try.prog.initOrder.toList = headList := by rw [head_text]; exact String.toList_ofList
def headRest : List (List Nat) := [[99, 117, 116], [97, 116], [115, 97, 99, 114, 105, 115, 116, 97, 110, 47, 115, 97, 99, 114, 105, 115, 116, 97, 110, 108, 97, 119, 48, 52, 46, 68, 105, 115, 107, 70, 97, 105, 108, 115], [115, 97, 99, 114, 105, 115, 116, 97, 110, 47, 115, 97, 99, 114, 105, 115, 116, 97, 110, 108, 97, 119, 48, 52, 46, 68, 105, 115, 107, 66, 121, 116, 101, 115], [115, 97, 99, 114, 105, 115, 116, 97, 110, 47, 115, 97, 99, 114, 105, 115, 116, 97, 110, 108, 97, 119, 48, 52, 46, 68, 105, 115, 107, 65, 103, 97, 105, 110], [115, 97, 99, 114, 105, 115, 116, 97, 110, 47, 115, 97, 99, 114, 105, 115, 116, 97, 110, 108, 97, 119, 48, 52, 46, 68, 105, 115, 107, 83, 121, 110, 99, 101, 100], [115, 97, 99, 114, 105, 115, 116, 97, 110, 47, 115, 97, 99, 114, 105, 115, 116, 97, 110, 108, 97, 119, 48, 52, 46, 68, 105, 115, 107, 69, 120, 97, 109, 112, 108, 101, 115], [115, 97, 99, 114, 105, 115, 116, 97, 110, 47, 115, 97, 99, 114, 105, 115, 116, 97, 110, 108, 97, 119, 48, 52, 46, 68, 105, 115, 107, 68, 111, 101, 115], [115, 97, 99, 114, 105, 115, 116, 97, 110, 47, 115, 97, 99, 114, 105, 115, 116, 97, 110, 108, 97, 119, 48, 54, 46, 82, 101, 99, 111, 114, 100, 83, 101, 99, 116, 111, 114, 115], [115, 97, 99, 114, 105, 115, 116, 97, 110, 47, 115, 97, 99, 114, 105, 115, 116, 97, 110, 108, 97, 119, 48, 54, 46, 82, 101, 99, 111, 114, 100, 66, 97, 99, 107], [115, 97, 99, 114, 105, 115, 116, 97, 110, 47, 115, 97, 99, 114, 105, 115, 116, 97, 110, 108, 97, 119, 48, 54, 46, 82, 101, 99, 111, 114, 100, 65, 108, 111, 110, 101], [115, 97, 99, 114, 105, 115, 116, 97, 110, 47, 115, 97, 99, 114, 105, 115, 116, 97, 110, 108, 97, 119, 48, 54, 46, 82, 101, 99, 111, 114, 100, 82, 111, 119], [115, 97, 99, 114, 105, 115, 116, 97, 110, 47, 115, 97, 99, 114, 105, 115, 116, 97, 110, 108, 97, 119, 48, 54, 46, 82, 101, 99, 111, 114, 100, 69, 120, 97, 109, 112, 108, 101, 115], [115, 97, 99, 114, 105, 115, 116, 97, 110, 47, 115, 97, 99, 114, 105, 115, 116, 97, 110, 108, 97, 119, 48, 54, 46, 82, 101, 99, 111, 114, 100, 82, 101, 97, 100, 115], [115, 97, 99, 114, 105, 115, 116, 97, 110, 47, 115, 97, 99, 114, 105, 115, 116, 97, 110, 108, 97, 119, 48, 54, 46, 82, 101, 99, 111, 114, 100, 84, 111, 114, 110]]
def restList : List (List Char) := headRest.map (fun l => l.map Char.ofNat)
theorem head_words : behindMainWord (wordsSigns headList) = restList := by kernel_rfl
def makeOn (lifts : List String) : List (List Char) → Option Make
  | c :: rest => if c == "gc".toList || c == "spec".toList then some .whole else if c == "cut".toList || (c == "finals".toList && rest.head? == some "cut".toList) then some .cut else if c == "carried".toList then some .carried else if lifts.isEmpty then none else some (.lifted lifts)
  | [] => none
theorem make_of (P : Program) (W : List (List Char)) (h : behindMainWord (wordsSigns P.initOrder.toList) = W) : P.make = makeOn P.headLifts W := by
  unfold Program.make
  rw [h]
  cases W <;> rfl
theorem lifts_of (P : Program) (W : List (List Char)) (h : behindMainWord (wordsSigns P.initOrder.toList) = W) :
    P.headLifts = (if (stripLifts liftWords W).2.head? == some "cut".toList then (stripLifts liftWords W).1 else []) := by
  subst h
  rfl
theorem liftsFinal_of (P : Program) (W : List (List Char)) (h : behindMainWord (wordsSigns P.initOrder.toList) = W) :
    P.liftsFinal = ((W.head? == some "carried".toList && W.take 3 != ["carried".toList, "gc".toList, "cut".toList]) || P.headLifts.contains "finals") := by
  subst h
  rfl
def enterOn (P : Program) : List (List Char) → Bool
  | c :: rest =>
    ((c == "gc".toList || c == "spec".toList) && (rest.isEmpty || rest.head? == some "stop".toList)) ||
    (c == "carried".toList && rest.take 2 == ["gc".toList, "cut".toList] && !P.laysLater && !P.bearsReflect) ||
    ((stripLifts liftWords (c :: rest)).2.head? == some "cut".toList &&
      ((stripLifts liftWords (c :: rest)).1.contains "finals" || !P.laysLater) && ((stripLifts liftWords (c :: rest)).1.contains "reflectrows" || !P.bearsReflect) &&
      ((stripLifts liftWords (c :: rest)).1.contains "reflectrows" || !(stripLifts liftWords (c :: rest)).1.contains "leanrows") &&
      P.doorFits (stripLifts liftWords (c :: rest)).1)
  | [] => false
theorem mayEnter_of (P : Program) (W : List (List Char)) (h : behindMainWord (wordsSigns P.initOrder.toList) = W) : P.mayEnter = enterOn P W := by
  unfold Program.mayEnter
  rw [h]
  cases W <;> rfl
theorem words_ok : behindMainWord (wordsSigns Try.prog.initOrder.toList) = restList := by rw [head_list]; exact head_words
theorem make_ok : Try.prog.make = some .cut := (make_of _ _ words_ok).trans (by kernel_rfl)
theorem headLifts_ok : Try.prog.headLifts = [] := (lifts_of _ _ words_ok).trans (by kernel_rfl)
theorem liftsFinal_ok : Try.prog.liftsFinal = false := by
  rw [liftsFinal_of _ _ words_ok, headLifts_ok]
  kernel_rfl
theorem mayEnter_ok : Try.prog.mayEnter = true := (mayEnter_of _ _ words_ok).trans (by kernel_rfl)
/-- The facts of a row's list, with what the head's words say put in. -/
theorem joined_of {P : Program} {f : FuncId} {fn : Func} {s : ChangeSpec} {c : OpenClaim} {a0 a1 a2 a3 a4 : Bool} (h1 : P.mayEnter = true) (h2 : P.liftsFinal = false) (h3 : P.make = some .cut)
    (e : joinedFacts P f fn s c = (a0 && P.mayEnter && (c.lifted == P.liftsFinal) && (P.make == some c.make) && a1 && a2 && a3 && a4)) (h : (a0 && true && (c.lifted == false) && (some Make.cut == some c.make) && a1 && a2 && a3 && a4) = true) : joinedFacts P f fn s c = true := by
  rw [e, h1, h2, h3]
  exact h
end Go.Proofs.Ytjpelmjocdodcaa
