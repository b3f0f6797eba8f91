/- The programs' small readers and writers of numbers: block.fixed, frame.fixed, the reference's Fixed; block.number, Number; crc.Sum; strings.Repeat of one byte 0. -/
import Derived.Test.YtjpelmjocdodcaaPack
import Derived.Test.YtjpelmjocdodcaaCrc
import Derived.Test.YtjpelmjocdodcaaRep
import Derived.Test.YtjpelmjocdodcaaPures
namespace Go.Proofs.Ytjpelmjocdodcaa
open Go.RowKit

theorem repeatL_zero (c : Nat) : Lib.repeatL [(0 : UInt8)] c = List.replicate c 0 := by
  induction c with
  | zero => rfl
  | succ c ih => simp only [Lib.repeatL, List.replicate_succ, ih, List.singleton_append]
theorem repeat_zero (c : Int) (w : World) (h0 : 0 ≤ c) (h1 : c ≤ 1000) :
    Calls Try.prog 88 #[.string ⟨#[0]⟩, .int .i64 c] w fun e w' => e = .returned (.string (S (List.replicate c.toNat 0))) ∧ Below w.heap.size w w' := by
  obtain ⟨m, rfl⟩ := Int.eq_ofNat_of_zero_le h0
  refine (Try.strings_Repeat ⟨#[0]⟩ m w (by omega) (by simp [ByteArray.size]; omega)).mono ?_
  rintro e w' ⟨rfl, hb⟩
  exact ⟨ret_str (by rw [S_mk]; exact congrArg S (repeatL_zero m)), hb⟩

set_option maxHeartbeats 400000 in
theorem crcSum_any (s : List UInt8) (w : World) (hs : s.length ≤ 140737488351232) :
    Calls Try.prog 87 #[.string (S s)] w fun e w' => e = .returned (.int .u32 (crcSum s : Nat)) ∧ Below w.heap.size w w' := by
  go_enter Try.func87, Try.ntmps87
  go_wp2_with (go_at_call 96; refine (more_any 0 (S s) _ (by omega) (by rw [S_size]; exact hs)).mono ?_; rintro e w' ⟨rfl, hb⟩)
  go_ret
  exact ⟨ret_nat rfl, hb⟩
set_option maxHeartbeats 400000 in
theorem refSum_any (s : List UInt8) (w : World) (hs : s.length ≤ 140737488351232) :
    Calls Try.prog 91 #[.string (S s)] w fun e w' => e = .returned (.int .u32 (crcSum s : Nat)) ∧ w' = w := by
  go_enter Try.func91, Try.ntmps91
  go_wp2_with (go_at_call 104; refine (refMore_any 0 (S s) _ (by omega) (by rw [S_size]; exact hs)).mono ?_; rintro e w' ⟨rfl, rfl⟩)
  go_ret
  exact ⟨ret_nat rfl, rfl⟩


set_option maxHeartbeats 400000 in
theorem ffixed_any (n : Int) (k : Nat) (w : World) (h0 : 0 ≤ n) (hn : n.toNat < 256 ^ k) (hn2 : n < 9223372036854775808) (h1 : 1 ≤ k) (hk : k ≤ 8) :
    Calls Try.prog 86 #[.int .i64 n, .int .i64 k] w fun e w' => e = .returned (.string (S (be k n.toNat))) ∧ Below w.heap.size w w' := by
  obtain ⟨m, rfl⟩ := Int.eq_ofNat_of_zero_le h0
  have HN := Lib.hid hn
  clear hn
  have hm : m < 18446744073709551616 := by omega
  go_enter Try.func86, Try.ntmps86
  go_wp2_with (go_at_call 95; refine (fixed_any _ _ _ hm h1 hk HN.out).mono ?_; rintro e w' ⟨rfl, hb⟩)
  go_ret
  exact ⟨rfl, hb⟩
theorem ffixed1 (n : Int) (w : World) (h0 : 0 ≤ n) (hn : n < 256) : Calls Try.prog 86 #[.int .i64 n, .int .i64 1] w fun e w' => e = .returned (.string (S (be 1 n.toNat))) ∧ Below w.heap.size w w' := ffixed_any n 1 w h0 (by omega) (by omega) (by omega) (by omega)
theorem ffixed2 (n : Int) (w : World) (h0 : 0 ≤ n) (hn : n < 65536) : Calls Try.prog 86 #[.int .i64 n, .int .i64 2] w fun e w' => e = .returned (.string (S (be 2 n.toNat))) ∧ Below w.heap.size w w' := ffixed_any n 2 w h0 (by omega) (by omega) (by omega) (by omega)
theorem ffixed4 (n : Int) (w : World) (h0 : 0 ≤ n) (hn : n < 4294967296) : Calls Try.prog 86 #[.int .i64 n, .int .i64 4] w fun e w' => e = .returned (.string (S (be 4 n.toNat))) ∧ Below w.heap.size w w' := ffixed_any n 4 w h0 (by omega) (by omega) (by omega) (by omega)
theorem ffixed6 (n : Int) (w : World) (h0 : 0 ≤ n) (hn : n < 281474976710656) : Calls Try.prog 86 #[.int .i64 n, .int .i64 6] w fun e w' => e = .returned (.string (S (be 6 n.toNat))) ∧ Below w.heap.size w w' := ffixed_any n 6 w h0 (by omega) (by omega) (by omega) (by omega)

set_option maxHeartbeats 400000 in
theorem rfixed_any (n : Int) (k : Nat) (w : World) (h0 : 0 ≤ n) (hn : n.toNat < 256 ^ k) (hn2 : n < 9223372036854775808) (h1 : 1 ≤ k) (hk : k ≤ 8) :
    Calls Try.prog 90 #[.int .i64 n, .int .i64 k] w fun e w' => e = .returned (.string (S (be k n.toNat))) ∧ Below w.heap.size w w' := by
  obtain ⟨m, rfl⟩ := Int.eq_ofNat_of_zero_le h0
  have HN := Lib.hid hn
  clear hn
  have hm : m < 18446744073709551616 := by omega
  go_enter Try.func90, Try.ntmps90
  go_wp2_with (go_at_call 103; refine (refFixed_any _ _ _ hm h1 hk HN.out).mono ?_; rintro e w' ⟨rfl, hb⟩)
  go_ret
  exact ⟨rfl, hb⟩
theorem rfixed1 (n : Int) (w : World) (h0 : 0 ≤ n) (hn : n < 256) : Calls Try.prog 90 #[.int .i64 n, .int .i64 1] w fun e w' => e = .returned (.string (S (be 1 n.toNat))) ∧ Below w.heap.size w w' := rfixed_any n 1 w h0 (by omega) (by omega) (by omega) (by omega)
theorem rfixed2 (n : Int) (w : World) (h0 : 0 ≤ n) (hn : n < 65536) : Calls Try.prog 90 #[.int .i64 n, .int .i64 2] w fun e w' => e = .returned (.string (S (be 2 n.toNat))) ∧ Below w.heap.size w w' := rfixed_any n 2 w h0 (by omega) (by omega) (by omega) (by omega)
theorem rfixed4 (n : Int) (w : World) (h0 : 0 ≤ n) (hn : n < 4294967296) : Calls Try.prog 90 #[.int .i64 n, .int .i64 4] w fun e w' => e = .returned (.string (S (be 4 n.toNat))) ∧ Below w.heap.size w w' := rfixed_any n 4 w h0 (by omega) (by omega) (by omega) (by omega)
theorem rfixed6 (n : Int) (w : World) (h0 : 0 ≤ n) (hn : n < 281474976710656) : Calls Try.prog 90 #[.int .i64 n, .int .i64 6] w fun e w' => e = .returned (.string (S (be 6 n.toNat))) ∧ Below w.heap.size w w' := rfixed_any n 6 w h0 (by omega) (by omega) (by omega) (by omega)



set_option maxHeartbeats 400000 in
theorem rnumber_any (s : List UInt8) (w : World) (h1 : 1 ≤ s.length) (hk : s.length ≤ 7) :
    Calls Try.prog 94 #[.string (S s)] w fun e w' => e = .returned (.int .i64 (un s : Nat)) ∧ w' = w := by
  have hu : un s < 9223372036854775808 := un_lt7 s hk
  go_enter Try.func94, Try.ntmps94
  go_wp2_with (go_at_call 106; refine (refUnfixed_any (S s) _ (by rw [S_size]; exact h1) (by rw [S_size]; omega)).mono ?_; rw [S_data]; rintro e w' ⟨rfl, rfl⟩)
  go_ret
  exact ⟨rfl, rfl⟩


end Go.Proofs.Ytjpelmjocdodcaa
