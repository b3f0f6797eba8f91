/- crc.More, crc.Sum, and the reference's: what each call returns. -/
import Derived.Test.YtjpelmjocdodcaaProg
import Derived.Test.YtjpelmjocdodcaaPures
import Derived.Test.YtjpelmjocdodcaaKit
namespace Go.Proofs.Ytjpelmjocdodcaa
open Go.RowKit

set_option maxHeartbeats 400000 in
theorem shift_any (bit r : Nat) (a : Addr) (w : World) (hr1 : r < 4294967296) (hc : w.cell? a = some (.int .u32 r)) (hf : w.frozen? a = false) :
    Calls Try.prog 109 #[.int .u32 bit, .pointer (some a)] w fun e w' => e = .returned (.tuple #[]) ∧ w' = w.setCell a (.int .u32 (crcStep r bit : Nat)) := by
  have e1 := Lib.hid (and1_u32 r hr1)
  have e2 := Lib.hid (poly_half r hr1)
  go_enter Try.func109, Try.ntmps109
  go_wp2
  · rename_i h
    go_end0
    rw [e1.out] at h
    have h' : r % 2 ≠ bit := by simp only [bne_iff_ne, ne_eq] at h; omega
    refine ⟨rfl, ?_⟩
    rw [setCell_twice, e2.out, crcStep, if_pos h']
  · rename_i h
    go_end0
    rw [e1.out] at h
    have h' : ¬ r % 2 ≠ bit := by simp at h; omega
    refine ⟨rfl, ?_⟩
    rw [crcStep, if_neg h']
    rfl

set_option maxHeartbeats 400000 in
theorem refMore_any (c : Nat) (s : ByteArray) (w : World) (hr1 : c < 4294967296) (hs : s.size ≤ 140737488351232) :
    Calls Try.prog 104 #[.int .u32 c, .string s] w fun e w' => e = .returned (.int .u32 (crcMore c s.data.toList : Nat)) ∧ w' = w := by
  have e0 := Lib.hid (not_u32 c hr1)
  go_enter Try.func104, Try.ntmps104
  go_wp2
  rw [e0.out]
  have hx : 4294967295 - c < 4294967296 := by omega
  go_loop [5, 6] (fun r i => ∃ k : Nat, k ≤ s.size ∧ i = .int .i64 k ∧ r = .int .u32 (crcFold (4294967295 - c) (s.data.toList.take k) : Nat)) (fun _ i => s.size - (intOf i).toNat)
  case atStart => exact ⟨0, Nat.zero_le _, rfl, rfl⟩
  case round =>
    obtain ⟨k, hk, rfl, rfl⟩ := hrel
    have hR := crcFold_lt (l := s.data.toList.take k) hx
    by_cases hlt : k < s.size
    · have HT := Lib.hid (crcFold_take (4294967295 - c) s k hlt)
      generalize crcFold (4294967295 - c) (s.data.toList.take k) = R at hR HT
      go_wp2
      go_loop [5, 7] (fun r j => ∃ m : Nat, m ≤ 8 ∧ j = .int .i64 m ∧ r = .int .u32 (crcBits R (s[k]).toNat m : Nat)) (fun _ j => 8 - (intOf j).toNat)
      case atStart => exact ⟨0, by omega, rfl, rfl⟩
      case round =>
        obtain ⟨m, hm, rfl, rfl⟩ := hrel
        have hRm := crcBits_lt (c := s[k].toNat) hR m
        have hb : s[k].toNat < 256 := s[k].toNat_lt
        go_wp2
        · rename_i h
          go_round
          case rel => exact ⟨m + 1, by omega, by go_num, by rw [crc_yes hRm hb h]⟩
          case measure => simp [intOf]; omega
        · rename_i h
          go_round
          case rel => exact ⟨m + 1, by omega, by go_num, by rw [crc_no hRm hb h]⟩
          case measure => simp [intOf]; omega
        · obtain rfl : m = 8 := by omega
          go_round
          case rel => exact ⟨k + 1, by omega, by go_num, by rw [HT.out]; rfl⟩
          case measure => simp [intOf]; omega
    · have hk' : s.size ≤ k := by omega
      have HW := Lib.hid (crcFold_whole (4294967295 - c) s)
      have HK := Lib.hid (show k = s.size by omega)
      have HN := Lib.hid (not_u32 _ hR)
      go_wp2
      go_ret
      rw [HN.out, crcMore, HK.out, HW.out]
      exact ⟨rfl, rfl⟩

set_option maxHeartbeats 400000 in
theorem more_any (c : Nat) (s : ByteArray) (w : World) (hr1 : c < 4294967296) (hs : s.size ≤ 140737488351232) :
    Calls Try.prog 96 #[.int .u32 c, .string s] w fun e w' => e = .returned (.int .u32 (crcMore c s.data.toList : Nat)) ∧ Below w.heap.size w w' := by
  have e0 := Lib.hid (not_u32 c hr1)
  go_enter Try.func96, Try.ntmps96
  go_wp2
  rw [e0.out]
  have hx : 4294967295 - c < 4294967296 := by omega
  go_loopw [14] (fun i wr => ∃ k : Nat, k ≤ s.size ∧ i = .int .i64 k ∧ wr = w.alloc (.cells #[.int .u32 (crcFold (4294967295 - c) (s.data.toList.take k) : Nat)] 139)) (fun i _ => s.size - (intOf i).toNat)
  case atStart => exact ⟨0, Nat.zero_le _, rfl, rfl⟩
  case round =>
    obtain ⟨k, hk, rfl, rfl⟩ := hrel
    have hR := crcFold_lt (l := s.data.toList.take k) hx
    by_cases hlt : k < s.size
    · have HT := Lib.hid (crcFold_take (4294967295 - c) s k hlt)
      generalize crcFold (4294967295 - c) (s.data.toList.take k) = R at hR HT
      go_wp2
      go_loopw [17] (fun j wr => ∃ m : Nat, m ≤ 8 ∧ j = .int .i64 m ∧ wr = w.alloc (.cells #[.int .u32 (crcBits R (s[k]).toNat m : Nat)] 139)) (fun j _ => 8 - (intOf j).toNat)
      case atStart => exact ⟨0, by omega, rfl, rfl⟩
      case round =>
        obtain ⟨m, hm, rfl, rfl⟩ := hrel
        have hRm := crcBits_lt (c := s[k].toNat) hR m
        have hb : s[k].toNat < 256 := s[k].toNat_lt
        have hbit := Lib.hid (bit_u32 _ m hb)
        go_wp2_with (go_at_call 109; rw [hbit.out]; refine (shift_any _ (crcBits R s[k].toNat m) _ _ hRm (by simp) (by simp)).mono ?_; rintro e w' ⟨rfl, rfl⟩)
        · go_roundw
          case rel => exact ⟨m + 1, by omega, by go_num, by rw [crcBits]⟩
          case measure => simp [intOf]; omega
        · obtain rfl : m = 8 := by omega
          go_roundw
          case rel => exact ⟨k + 1, by omega, by go_num, by rw [HT.out]; rfl⟩
          case measure => simp [intOf]; omega
    · have hk' : s.size ≤ k := by omega
      have HW := Lib.hid (crcFold_whole (4294967295 - c) s)
      have HK := Lib.hid (show k = s.size by omega)
      have HN := Lib.hid (not_u32 _ hR)
      go_wp2
      go_ret
      rw [HN.out, crcMore, HK.out, HW.out]
      exact ⟨rfl, (Below.refl _ _).alloc (Nat.le_refl _) _⟩

end Go.Proofs.Ytjpelmjocdodcaa
