/- Strings as lists of bytes. -/
import Derived.RowKit
import Derived.Lib.Bytes
import Derived.Laws.Entries
namespace Go.Proofs.Ytjpelmjocdodcaa

/-- The string of some bytes. -/
def S (l : List UInt8) : ByteArray := ⟨l.toArray⟩
theorem S_mk (l : List UInt8) : (⟨l.toArray⟩ : ByteArray) = S l := rfl
@[simp] theorem S_size (l : List UInt8) : (S l).size = l.length := by simp [S, ByteArray.size]
@[simp] theorem S_data (l : List UInt8) : (S l).data.toList = l := by simp [S]
theorem S_of (s : ByteArray) : S s.data.toList = s := by simp [S]
@[simp] theorem S_toList (l : List UInt8) : (S l).toList = l := by
  rw [Lib.toList_data, S_data]
@[simp, go_sem] theorem S_append (a b : List UInt8) : S a ++ S b = S (a ++ b) := by
  apply ByteArray.ext
  simp [S]
theorem S_extract (l : List UInt8) (a b : Nat) : (S l).extract a b = S ((l.take b).drop a) := by
  apply ByteArray.ext
  apply Array.ext'
  simp only [S, ByteArray.data_extract, List.extract_toArray, List.extract_eq_take_drop]
  rw [List.drop_take]
theorem S_inj {a b : List UInt8} : S a = S b ↔ a = b := by
  constructor
  · intro h
    have := congrArg (fun s : ByteArray => s.data.toList) h
    simpa using this
  · rintro rfl; rfl
theorem S_getElem (l : List UInt8) (i : Nat) (h : i < (S l).size) : (S l)[i] = l[i]'(by simpa using h) := by
  rfl
theorem size_data (s : ByteArray) : s.size = s.data.toList.length := Array.length_toList.symm
end Go.Proofs.Ytjpelmjocdodcaa
