/- pack.Fixed, pack.Unfixed and the reference's: what each call returns. -/
import Derived.Test.YtjpelmjocdodcaaProg
import Derived.Test.YtjpelmjocdodcaaPures
import Derived.Test.YtjpelmjocdodcaaKit
namespace Go.Proofs.Ytjpelmjocdodcaa
open Go.RowKit

def SomeLeast (n : Nat) (w : World) (e : Ending) (w' : World) : Prop := ∃ k : Nat, LeastW n k ∧ k ≤ 8 ∧ e = .returned (.int .i64 k) ∧ w' = w

set_option maxHeartbeats 400000 in
theorem least_any (n : Nat) (w : World) (hn : n < 18446744073709551616) :
    Calls Try.prog 107 #[.int .u64 n] w (SomeLeast n w) := by
  go_enter Try.func107, Try.ntmps107
  go_wp2
  go_loop [0, 3] (fun x i => ∃ k q : Nat, k ≤ 8 ∧ i = .int .i64 k ∧ x = .int .u64 q ∧ q < 18446744073709551616 ∧ LeastAt n k q) (fun _ i => 8 - (intOf i).toNat)
  case atStart => exact ⟨0, n, Nat.zero_le _, rfl, rfl, hn, .start n⟩
  case round =>
    obtain ⟨k, q, hk, rfl, rfl, hq, hat⟩ := hrel
    go_wp2
    · have hp : 0 < q := by omega
      have h8 := hat.lt8 hp hn
      go_round
      case rel => exact ⟨k + 1, q / 256, by omega, by go_num, rfl, by omega, hat.step hp⟩
      case measure => simp [intOf]; omega
    · have hp : q = 0 := by omega
      subst hp
      go_ret
      exact ⟨k, hat.done, hk, rfl, rfl⟩

set_option maxHeartbeats 400000 in
theorem refWidth_any (n : Nat) (w : World) (hn : n < 18446744073709551616) :
    Calls Try.prog 115 #[.int .u64 n] w fun e w' => ∃ k : Nat, (∀ m, 1 ≤ m → (k ≤ m ↔ n < 256 ^ m)) ∧ 1 ≤ k ∧ k ≤ 8 ∧ e = .returned (.int .i64 k) ∧ w' = w := by
  go_enter Try.func115, Try.ntmps115
  go_wp2
  go_loop [0, 3] (fun x i => ∃ k q : Nat, 1 ≤ k ∧ k ≤ 8 ∧ i = .int .i64 k ∧ x = .int .u64 q ∧ q < 18446744073709551616 ∧ WidthAt n k q) (fun _ i => 8 - (intOf i).toNat)
  case atStart => exact ⟨1, n, by omega, by omega, rfl, rfl, hn, .start n⟩
  case round =>
    obtain ⟨k, q, h1, hk, rfl, rfl, hq, hat⟩ := hrel
    go_wp2
    · have hp : 255 < q := by omega
      have h8 := hat.lt8 hp hn
      go_round
      case rel => exact ⟨k + 1, q / 256, by omega, by omega, by go_num, rfl, by omega, hat.step hp⟩
      case measure => simp [intOf]; omega
    · have hp : q ≤ 255 := by omega
      go_ret
      exact ⟨k, hat.done hp, h1, hk, rfl, rfl⟩

set_option maxRecDepth 100000 in
set_option maxHeartbeats 400000 in
theorem bytes_any (n k : Nat) (w : World) (hn : n < 18446744073709551616) (hk : k ≤ 8) :
    Calls Try.prog 108 #[.int .u64 n, .int .i64 k] w fun e w' => e = .returned (.string ⟨(be k n).toArray⟩) ∧ Below w.heap.size w w' := by
  go_enter Try.func108, Try.ntmps108
  go_wp2
  go_loopw [6, 10] (fun x j wr => ∃ i q : Nat, i ≤ k ∧ j = .int .i64 i ∧ x = .int .u64 q ∧ q < 18446744073709551616 ∧ ∃ A, BytesAt 8 n k i q A ∧ wr = w.alloc (.cells A 168)) (fun _ j _ => k - (intOf j).toNat)
  case atStart => exact ⟨0, n, Nat.zero_le _, rfl, rfl, hn, _, .start rfl, rfl⟩
  case round =>
    obtain ⟨i, q, hi, rfl, rfl, hq, A, hA, rfl⟩ := hrel
    have hsz := hA.1
    have HA := Lib.hid hA
    by_cases hlt : i < k
    · have e1 : IntKind.i64.wrap (IntKind.i64.wrap ((k : Int) - 1) - i) = ((k - 1 - i : Nat) : Int) := by
        rw [IntKind.wrap_i64, IntKind.wrap_i64]; omega
      obtain ⟨v0, hv⟩ : ∃ v, A[k - 1 - i]? = some v := ⟨A[k - 1 - i]'(by omega), Array.getElem?_eq_getElem (by omega)⟩
      clear hsz hA
      go_wp2
      go_roundw
      case rel => exact ⟨i + 1, q / 256, by omega, by go_num, rfl, by omega, _, HA.out.step hlt hk, rfl⟩
      case measure => simp [intOf]; omega
    · have hk2 : i = k := by omega
      subst hk2
      have hcv := run_convert_bytes_arg (P := Try.prog) (w.alloc (.cells A 168)) 83 5 Try.underlying83 Try.underlying5 w.heap.size 0 i 8 (numsOf (be i n)) (by rw [numsOf_length, be_length])
        (fun j hj => by rw [Nat.zero_add, World.cell?_alloc_new]; exact HA.out.cell hj) 9 Try.underlying9
      have hsl : ∀ W, (Instr.sliceAt 168 (.pointer (some ⟨w.heap.size, 0, none⟩)) none (some (.int .i64 (i : Int))) none).run Try.prog W = .ok (.slice (some ⟨w.heap.size, 0, none⟩) i 8) W := by
        intro W
        have h8 : (i : Int) ≤ Try.prog.arrayLen 168 := by
          rw [show Try.prog.arrayLen 168 = 8 from by kernel_rfl]; omega
        rw [run_sliceAt_array_h W 168 _ (by kernel_rfl) .i64 (i : Int) (by omega) h8]
        rw [show Try.prog.arrayLen 168 = 8 from by kernel_rfl, show (sizeOf (Try.prog.elem 168)).run Try.prog W = .ok 1 W from by kernel_rfl]
        simp [slicedAt, Result.andThen, Addr.add]
      clear hsz hA
      go_wp2
      go_ret
      exact ⟨ret_str (strOfNums_numsOf _), (Below.refl _ _).alloc (Nat.le_refl _) _⟩


set_option maxHeartbeats 400000 in
theorem fixed_any (n k : Nat) (w : World) (hn : n < 18446744073709551616) (h1 : 1 ≤ k) (hk : k ≤ 8) (hf : n < 256 ^ k) :
    Calls Try.prog 95 #[.int .u64 n, .int .i64 k] w fun e w' => e = .returned (.tuple #[.string ⟨(be k n).toArray⟩, .int .i64 0]) ∧ Below w.heap.size w w' := by
  have HF := Lib.hid hf
  clear hf
  go_enter Try.func95, Try.ntmps95
  go_wp2_with (first | (go_at_call 107; refine (least_any _ _ hn).mono ?_; rintro e w' ⟨m, hm, hm8, rfl, rfl⟩; have hmk := (hm k).2 HF.out; replace hm := Lib.hid hm) | (go_at_call 108; refine (bytes_any _ _ _ hn hk).mono ?_; rintro e w' ⟨rfl, hb⟩))
  go_ret2
  exact ⟨rfl, hb⟩

set_option maxHeartbeats 400000 in
theorem number_any (s : ByteArray) (w : World) (hs : s.size ≤ 8) :
    Calls Try.prog 105 #[.string s] w fun e w' => e = .returned (.int .u64 (un s.data.toList : Nat)) ∧ w' = w := by
  go_enter Try.func105, Try.ntmps105
  go_wp2
  go_loop [3, 7] (fun x i => ∃ k q : Nat, k ≤ s.size ∧ i = .int .i64 k ∧ x = .int .u64 q ∧ q < 256 ^ k ∧ Hid (q = un (s.data.toList.take k))) (fun _ i => s.size - (intOf i).toNat)
  case atStart => exact ⟨0, 0, Nat.zero_le _, rfl, rfl, by simp, rfl⟩
  case round =>
    obtain ⟨k, q, hk, rfl, rfl, hq, hun⟩ := hrel
    have HQ := Lib.hid hq
    clear hq
    by_cases hlt : k < s.size
    · have hor := Lib.hid (un_or (q := q) (k := k) s[k].toNat HQ.out (by omega) s[k].toNat_lt)
      go_wp2
      go_round
      case rel => exact ⟨k + 1, q * 256 + s[k].toNat, by omega, by go_num, by rw [hor.out], un_next HQ.out s[k].toNat_lt, by unfold Hid; rw [un_take s k hlt, ← hun.out]⟩
      case measure => simp [intOf]; omega
    · have HK := Lib.hid (show k = s.size by omega)
      go_wp2
      go_ret
      exact ⟨ret_nat (by rw [hun.out, HK.out, un_all]), rfl⟩

set_option maxHeartbeats 400000 in
theorem unfixed_any (s : ByteArray) (w : World) (h1 : 1 ≤ s.size) (hs : s.size ≤ 8) :
    Calls Try.prog 93 #[.string s] w fun e w' => e = .returned (.tuple #[.int .u64 (un s.data.toList : Nat), .int .i64 0]) ∧ w' = w := by
  go_enter Try.func93, Try.ntmps93
  go_wp2_with (go_at_call 105; refine (number_any _ _ hs).mono ?_; rintro e w' ⟨rfl, rfl⟩)
  go_ret2
  exact ⟨rfl, rfl⟩

set_option maxHeartbeats 400000 in
theorem refUnfixed_any (s : ByteArray) (w : World) (h1 : 1 ≤ s.size) (hs : s.size ≤ 8) :
    Calls Try.prog 106 #[.string s] w fun e w' => e = .returned (.tuple #[.int .u64 (un s.data.toList : Nat), .int .i64 0]) ∧ w' = w := by
  go_enter Try.func106, Try.ntmps106
  go_wp2
  go_loop [4, 5] (fun x i => ∃ k q : Nat, k ≤ s.size ∧ i = .int .i64 k ∧ x = .int .u64 q ∧ q < 256 ^ k ∧ q < 18446744073709551616 ∧ Hid (q = un (s.data.toList.take k))) (fun _ i => s.size - (intOf i).toNat)
  case atStart => exact ⟨0, 0, Nat.zero_le _, rfl, rfl, by simp, by omega, rfl⟩
  case round =>
    obtain ⟨k, q, hk, rfl, rfl, hq, hq2, hun⟩ := hrel
    have HQ := Lib.hid hq
    clear hq
    by_cases hlt : k < s.size
    · have hor := Lib.hid (un_add (q := q) (k := k) s[k].toNat HQ.out (by omega) s[k].toNat_lt)
      have hlt2 := Lib.hid (un_small (q := q) (k := k) s[k].toNat HQ.out (by omega) s[k].toNat_lt)
      go_wp2
      go_round
      case rel => exact ⟨k + 1, q * 256 + s[k].toNat, by omega, by go_num, by rw [hor.out], un_next HQ.out s[k].toNat_lt, hlt2.out, by unfold Hid; rw [un_take s k hlt, ← hun.out]⟩
      case measure => simp [intOf]; omega
    · have HK := Lib.hid (show k = s.size by omega)
      go_wp2
      go_ret2
      exact ⟨ret_nat2 (by rw [hun.out, HK.out, un_all]), rfl⟩

set_option maxRecDepth 100000 in
set_option maxHeartbeats 400000 in
theorem refBytes_any (n k : Nat) (w : World) (hn : n < 18446744073709551616) (hk : k ≤ 8) :
    Calls Try.prog 116 #[.int .u64 n, .int .i64 k] w fun e w' => e = .returned (.string ⟨(be k n).toArray⟩) ∧ Below w.heap.size w w' := by
  have hmk := run_make_row' (P := Try.prog) 83 5 (.int .u8 0) Try.underlying83 (bytes := 1) (by kernel_rfl) rfl .i64 .i64 k (by omega) (by omega)
  go_enter Try.func116, Try.ntmps116
  go_wp2
  go_loopw [0, 6] (fun x j wr => ∃ i q : Nat, i ≤ k ∧ j = .int .i64 (((k - i : Nat) : Int) - 1) ∧ x = .int .u64 q ∧ q < 18446744073709551616 ∧ ∃ A, BytesAt k n k i q A ∧ wr = w.alloc (.cells A 5)) (fun _ j _ => ((intOf j) + 1).toNat)
  case atStart => exact ⟨0, n, Nat.zero_le _, by go_num, rfl, hn, _, .start (by simp [madeCells]), rfl⟩
  case round =>
    obtain ⟨i, q, hi, rfl, rfl, hq, A, hA, rfl⟩ := hrel
    have hsz := hA.1
    have HA := Lib.hid hA
    by_cases hlt : i < k
    · obtain ⟨v0, hv⟩ : ∃ v, A[k - 1 - i]? = some v := ⟨A[k - 1 - i]'(by omega), Array.getElem?_eq_getElem (by omega)⟩
      have e1 : (((k - i : Nat) : Int) - 1) = ((k - 1 - i : Nat) : Int) := by omega
      have h0 : (0 : Int) ≤ ((k - 1 - i : Nat) : Int) := by omega
      clear hsz hA
      rw [e1]
      go_wp2
      go_roundw
      case rel => exact ⟨i + 1, q / 256, by omega, by rw [show k - (i + 1) = k - 1 - i by omega], rfl, by omega, _, HA.out.step hlt (Nat.le_refl _), rfl⟩
      case measure => simp [intOf]
    · obtain rfl : i = k := by omega
      have e1 : (((i - i : Nat) : Int) - 1) = -1 := by omega
      have hcv := run_convert_bytes_arg (P := Try.prog) (w.alloc (.cells A 5)) 83 5 Try.underlying83 Try.underlying5 w.heap.size 0 i i (numsOf (be i n)) (by rw [numsOf_length, be_length])
        (fun j hj => by rw [Nat.zero_add, World.cell?_alloc_new]; exact HA.out.cell hj) 9 Try.underlying9
      clear hsz hA
      rw [e1]
      go_wp2
      go_ret
      exact ⟨ret_str (strOfNums_numsOf _), (Below.refl _ _).alloc (Nat.le_refl _) _⟩

set_option maxHeartbeats 400000 in
theorem refFixed_any (n k : Nat) (w : World) (hn : n < 18446744073709551616) (h1 : 1 ≤ k) (hk : k ≤ 8) (hf : n < 256 ^ k) :
    Calls Try.prog 103 #[.int .u64 n, .int .i64 k] w fun e w' => e = .returned (.tuple #[.string ⟨(be k n).toArray⟩, .int .i64 0]) ∧ Below w.heap.size w w' := by
  have HF := Lib.hid hf
  clear hf
  go_enter Try.func103, Try.ntmps103
  go_wp2_with (first | (go_at_call 115; refine (refWidth_any _ _ hn).mono ?_; rintro e w' ⟨m, hm, hm1, hm8, rfl, rfl⟩; have hmk := (hm k h1).2 HF.out; replace hm := Lib.hid hm) | (go_at_call 116; refine (refBytes_any _ _ _ hn hk).mono ?_; rintro e w' ⟨rfl, hb⟩))
  go_ret2
  exact ⟨rfl, hb⟩
end Go.Proofs.Ytjpelmjocdodcaa
