/- Sectors written one after another: the plain part. sacristanlaw06.write: sectors written one after another. -/
import Derived.Test.YtjpelmjocdodcaaRecLaw
import Derived.Test.YtjpelmjocdodcaaHall
import Derived.Test.YtjpelmjocdodcaaSlEqual
namespace Go.Proofs.Ytjpelmjocdodcaa

def wputs : Nat → List (List UInt8) → List (Nat × List UInt8)
  | _, [] => []
  | a, s :: r => (a, s) :: wputs (a + 1) r
def Dk.puts (D : Dk) (a : Nat) (L : List (List UInt8)) : Dk := ⟨D.S, D.P ++ wputs a L, D.full⟩
theorem wputs_len (a : Nat) (L : List (List UInt8)) : (wputs a L).length = L.length := by
  induction L generalizing a with
  | nil => rfl
  | cons s r ih => simp [wputs, ih]
theorem wputs_snoc (a : Nat) (L : List (List UInt8)) (s : List UInt8) : wputs a (L ++ [s]) = wputs a L ++ [(a + L.length, s)] := by
  induction L generalizing a with
  | nil => rfl
  | cons t r ih =>
    rw [List.cons_append]
    show (a, t) :: wputs (a + 1) (r ++ [s]) = (a, t) :: wputs (a + 1) r ++ [(a + (r.length + 1), s)]
    rw [ih, List.cons_append, show a + 1 + r.length = a + (r.length + 1) by omega]
theorem puts_nil (D : Dk) (a : Nat) : D.puts a [] = D := by
  unfold Dk.puts
  rw [show wputs a [] = [] from rfl, List.append_nil]
theorem puts_succ (D : Dk) (a : Nat) (L : List (List UInt8)) {i : Nat} (hi : i < L.length) : D.puts a (L.take (i + 1)) = (D.puts a (L.take i)).write (a + i) (L.getD i []) := by
  unfold Dk.puts Dk.write
  dsimp only
  rw [List.take_add_one, List.getElem?_eq_getElem hi, Option.toList_some, wputs_snoc, List.length_take, Nat.min_eq_left (by omega), List.append_assoc, List.getD_eq_getElem?_getD, List.getElem?_eq_getElem hi]
  rfl
theorem lastOf_wputs (i a : Nat) (L : List (List UInt8)) (o : List UInt8) : lastOf i (wputs a L) o = if a ≤ i ∧ i < a + L.length then L.getD (i - a) [] else o := by
  induction L generalizing a o with
  | nil => rw [if_neg (by simp only [List.length_nil]; omega)]; rfl
  | cons s r ih =>
    show lastOf i (wputs (a + 1) r) (if a = i then s else o) = _
    rw [ih, List.length_cons]
    by_cases e : a = i
    · subst e
      rw [if_neg (by omega), if_pos rfl, if_pos (by omega), Nat.sub_self]
      rfl
    · rw [if_neg e]
      by_cases h : a + 1 ≤ i ∧ i < a + 1 + r.length
      · rw [if_pos h, if_pos (by omega), show i - a = (i - (a + 1)) + 1 by omega, List.getD_cons_succ]
      · rw [if_neg h, if_neg (by omega)]
theorem puts_read (D : Dk) (a : Nat) (L : List (List UInt8)) (i : Nat) : (D.puts a L).read i = if a ≤ i ∧ i < a + L.length then L.getD (i - a) [] else D.read i := by
  show lastOf i (D.P ++ wputs a L) (secAt D.S i) = _
  rw [lastOf_append, lastOf_wputs]
  rfl
/-- A record that was written lies there. -/
theorem puts_rat (D : Dk) (a : Nat) {b l kind : Int} {t : List UInt8} (ht : t.length ≤ 4096) (hb : ROk b l) : RAt (D.puts a (recSecs b l kind t).1).read a b l kind t := fun k hk => by
  rw [recSecs_ok ht hb]
  dsimp only
  rw [puts_read, List.length_map, List.length_range, if_pos (by omega), show a + k - a = k by omega, List.getD_eq_getElem?_getD, List.getElem?_map, List.getElem?_range hk]
  rfl
theorem recSecs_80 {b l kind : Int} {t : List UInt8} {s : List UInt8} (h : s ∈ (recSecs b l kind t).1) : s.length = 80 := by
  unfold recSecs at h
  split at h
  · simp at h
  · split at h
    · obtain ⟨k, -, rfl⟩ := List.mem_map.1 h
      exact (recF b l kind t k).sec_length (rpiece_le t k)
    · simp at h
theorem recSecs_len {b l kind : Int} {t : List UInt8} (ht : t.length ≤ 4096) (hb : ROk b l) : (recSecs b l kind t).1.length = npart t.length := by rw [recSecs_ok ht hb, List.length_map, List.length_range]
theorem recSecs_le (b l kind : Int) (t : List UInt8) : (recSecs b l kind t).1.length ≤ 94 := by
  unfold recSecs
  by_cases q1 : 4096 < t.length
  · rw [if_pos q1]; exact Nat.zero_le _
  · rw [if_neg q1]
    by_cases q2 : ROk b l
    · rw [if_pos q2, List.length_map, List.length_range]; exact npart_le (by omega)
    · rw [if_neg q2]; exact Nat.zero_le _
end Go.Proofs.Ytjpelmjocdodcaa
namespace Go.Proofs.Ytjpelmjocdodcaa
open Go.RowKit Go.ChangeMaps

set_option maxRecDepth 100000 in
set_option maxHeartbeats 2000000 in
theorem rwrite_any (w0 w : World) (d f m : Nat) (v : Value) (D : Dk) (rs : List (Value × List (List UInt8))) (j : Nat) (u : Value) (L : List (List UInt8)) (h : Hall w0 w [⟨d, f, m, v, D, .idle⟩] rs) (hj : rs[j]? = some (u, L)) (a : Nat) (hlen : a + L.length ≤ D.S.length) (h80 : ∀ s ∈ L, s.length = 80) (hP : D.P.length + L.length ≤ 1000000) :
    Calls Try.prog 45 #[.pointer (some ⟨d, 0, none⟩), .int .i64 a, u] w fun e w' => e = .returned (.bool true) ∧ ∃ v', Hall w0 w' [⟨d, f, m, v', D.puts a L, .idle⟩] rs := by
  obtain ⟨A, cap, hu⟩ := ownsRow_is (h.row j _ hj)
  dsimp only at hu
  subst hu
  have hok := (h.lab 0 _ rfl).disk.ok
  unfold Dk.Ok at hok
  obtain ⟨hl1, hl2, -, -⟩ := hok
  have H0 : Hid (∃ v', Hall w0 w [⟨d, f, m, v', D.puts a (L.take 0), .idle⟩] rs) := ⟨v, by rw [List.take_zero, puts_nil]; exact h⟩
  have H80 := Lib.hid h80
  have HJ := Lib.hid hj
  have HP := Lib.hid hP
  have HLEN := Lib.hid hlen
  clear h80 hj hP h
  go_enter Try.func45, Try.ntmps45
  go_wp2_with (fail)
  go_loopw [7] (fun v7 wr => ∃ i : Nat, i ≤ L.length ∧ v7 = .int .i64 i ∧ Hid (∃ v', Hall w0 wr [⟨d, f, m, v', D.puts a (L.take i), .idle⟩] rs)) (fun v7 _ => L.length - (intOf v7).toNat)
  case atStart => exact ⟨0, Nat.zero_le _, rfl, H0⟩
  case round =>
    obtain ⟨i, hi, rfl, hr⟩ := hrel
    by_cases hlt : i < L.length
    · obtain ⟨v', hH⟩ := hr.out
      obtain ⟨g, cap2, hu, c, c'⟩ := str_at' (hH.row j _ HJ.out) rfl hlt
      simp only [Value.slice.injEq] at hu
      obtain ⟨rfl, -, rfl⟩ := hu
      have hs : (secAt L i).length = 80 := by
        unfold secAt
        rw [List.getD_eq_getElem?_getD, List.getElem?_eq_getElem hlt]
        exact H80.out _ (List.getElem_mem hlt)
      have hw := dwrite_any d f m v' (D.puts a (L.take i)) .idle ((a + i : Nat) : Int) (secAt L i) wr (hH.lab 0 _ rfl).disk (hH.lab 0 _ rfl).fuse (by
        have := HP.out
        show (D.P ++ wputs a (L.take i)).length ≤ 1000000
        rw [List.length_append, wputs_len, List.length_take]; omega)
      rw [doWrite_ok (D := D.puts a (L.take i)) (show a + i < D.S.length by omega) hs] at hw
      dsimp only at hw
      rw [Int.natCast_add] at hw
      have hai : (a : Int) + (i : Int) ≤ 65536 := by omega
      have HH := Lib.hid hH
      have HPS := Lib.hid (show D.puts a (L.take (i + 1)) = (D.puts a (L.take i)).write (a + i) (secAt L i) from puts_succ D a L hlt)
      clear hH hr hs
      go_wp2_with (fail)
      refine hw.mono ?_
      rintro e w3 ⟨rfl, ha⟩
      obtain ⟨v3, h3⟩ := HH.out.after 0 rfl ha
      have H3 : Hid (∃ v', Hall w0 w3 [⟨d, f, m, v', D.puts a (L.take (i + 1)), .idle⟩] rs) := ⟨v3, by rw [HPS.out]; exact h3⟩
      clear h3 ha hw c c' HH HPS
      go_wp2_with (fail)
      go_roundw
      case rel => exact ⟨i + 1, hlt, by go_num, H3⟩
      case measure => simp [intOf]; omega
    · obtain rfl : i = L.length := by omega
      have hr2 := hr.out
      rw [List.take_length] at hr2
      go_wp2
      go_ret
      exact ⟨rfl, hr2⟩
end Go.Proofs.Ytjpelmjocdodcaa
