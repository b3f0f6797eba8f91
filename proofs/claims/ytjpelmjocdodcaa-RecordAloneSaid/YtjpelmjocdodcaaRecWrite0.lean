/- Sectors written one after another: the plain part. -/
import Derived.Test.YtjpelmjocdodcaaRecLaw
import Derived.Test.YtjpelmjocdodcaaHall
namespace Go.Proofs.Ytjpelmjocdodcaa

def wputs : Nat → List (List UInt8) → List (Nat × List UInt8)
  | _, [] => []
  | a, s :: r => (a, s) :: wputs (a + 1) r
def Dk.puts (D : Dk) (a : Nat) (L : List (List UInt8)) : Dk := ⟨D.S, D.P ++ wputs a L, D.full⟩
theorem wputs_len (a : Nat) (L : List (List UInt8)) : (wputs a L).length = L.length := by
  induction L generalizing a with
  | nil => rfl
  | cons s r ih => simp [wputs, ih]
theorem wputs_snoc (a : Nat) (L : List (List UInt8)) (s : List UInt8) : wputs a (L ++ [s]) = wputs a L ++ [(a + L.length, s)] := by
  induction L generalizing a with
  | nil => rfl
  | cons t r ih =>
    rw [List.cons_append]
    show (a, t) :: wputs (a + 1) (r ++ [s]) = (a, t) :: wputs (a + 1) r ++ [(a + (r.length + 1), s)]
    rw [ih, List.cons_append, show a + 1 + r.length = a + (r.length + 1) by omega]
theorem puts_nil (D : Dk) (a : Nat) : D.puts a [] = D := by
  unfold Dk.puts
  rw [show wputs a [] = [] from rfl, List.append_nil]
theorem puts_succ (D : Dk) (a : Nat) (L : List (List UInt8)) {i : Nat} (hi : i < L.length) : D.puts a (L.take (i + 1)) = (D.puts a (L.take i)).write (a + i) (L.getD i []) := by
  unfold Dk.puts Dk.write
  dsimp only
  rw [List.take_add_one, List.getElem?_eq_getElem hi, Option.toList_some, wputs_snoc, List.length_take, Nat.min_eq_left (by omega), List.append_assoc, List.getD_eq_getElem?_getD, List.getElem?_eq_getElem hi]
  rfl
theorem lastOf_wputs (i a : Nat) (L : List (List UInt8)) (o : List UInt8) : lastOf i (wputs a L) o = if a ≤ i ∧ i < a + L.length then L.getD (i - a) [] else o := by
  induction L generalizing a o with
  | nil => rw [if_neg (by simp only [List.length_nil]; omega)]; rfl
  | cons s r ih =>
    show lastOf i (wputs (a + 1) r) (if a = i then s else o) = _
    rw [ih, List.length_cons]
    by_cases e : a = i
    · subst e
      rw [if_neg (by omega), if_pos rfl, if_pos (by omega), Nat.sub_self]
      rfl
    · rw [if_neg e]
      by_cases h : a + 1 ≤ i ∧ i < a + 1 + r.length
      · rw [if_pos h, if_pos (by omega), show i - a = (i - (a + 1)) + 1 by omega, List.getD_cons_succ]
      · rw [if_neg h, if_neg (by omega)]
theorem puts_read (D : Dk) (a : Nat) (L : List (List UInt8)) (i : Nat) : (D.puts a L).read i = if a ≤ i ∧ i < a + L.length then L.getD (i - a) [] else D.read i := by
  show lastOf i (D.P ++ wputs a L) (secAt D.S i) = _
  rw [lastOf_append, lastOf_wputs]
  rfl
/-- A record that was written lies there. -/
theorem puts_rat (D : Dk) (a : Nat) {b l kind : Int} {t : List UInt8} (ht : t.length ≤ 4096) (hb : ROk b l) : RAt (D.puts a (recSecs b l kind t).1).read a b l kind t := fun k hk => by
  rw [recSecs_ok ht hb]
  dsimp only
  rw [puts_read, List.length_map, List.length_range, if_pos (by omega), show a + k - a = k by omega, List.getD_eq_getElem?_getD, List.getElem?_map, List.getElem?_range hk]
  rfl
theorem recSecs_80 {b l kind : Int} {t : List UInt8} {s : List UInt8} (h : s ∈ (recSecs b l kind t).1) : s.length = 80 := by
  unfold recSecs at h
  split at h
  · simp at h
  · split at h
    · obtain ⟨k, -, rfl⟩ := List.mem_map.1 h
      exact (recF b l kind t k).sec_length (rpiece_le t k)
    · simp at h
theorem recSecs_len {b l kind : Int} {t : List UInt8} (ht : t.length ≤ 4096) (hb : ROk b l) : (recSecs b l kind t).1.length = npart t.length := by rw [recSecs_ok ht hb, List.length_map, List.length_range]
theorem recSecs_le (b l kind : Int) (t : List UInt8) : (recSecs b l kind t).1.length ≤ 94 := by
  unfold recSecs
  by_cases q1 : 4096 < t.length
  · rw [if_pos q1]; exact Nat.zero_le _
  · rw [if_neg q1]
    by_cases q2 : ROk b l
    · rw [if_pos q2, List.length_map, List.length_range]; exact npart_le (by omega)
    · rw [if_neg q2]; exact Nat.zero_le _
end Go.Proofs.Ytjpelmjocdodcaa
