/- sacristanlaw07.SlotsCodes returns true, whatever its header and its string are, in every world. -/
import Derived.Test.YtgnhpbolmfbngaaSGH
import Derived.Test.YtgnhpbolmfbngaaSRDecode
import Derived.Test.YtgnhpbolmfbngaaKnown07
namespace Go.Proofs.Ytgnhpbolmfbngaa
open Go.RowKit

set_option maxRecDepth 100000 in
set_option maxHeartbeats 4000000 in
theorem slotsCodes_any (seq boot area first snaps : Int) (a : ByteArray) (w : World) (_ha : a.size ≤ 140737488351232) :
    Calls Try.prog 6 #[.agg #[.int .i64 seq, .int .i64 boot, .int .i64 area, .int .i64 first, .int .i64 snaps], .string a] w fun e w' => e = .returned (.bool true) ∧ Below w.heap.size w w' := by
  obtain ⟨l, rfl⟩ : ∃ l, a = S l := ⟨a.data.toList, (S_of a).symm⟩
  have q0 := alloc_new w (.cells #[.int .i64 seq, .int .i64 boot, .int .i64 area, .int .i64 first, .int .i64 snaps] 40)
  have B0 := alloc_below w (.cells #[.int .i64 seq, .int .i64 boot, .int .i64 area, .int .i64 first, .int .i64 snaps] 40)
  by_cases h2 : 2000 < l.length
  · have h2' : (2000 : Int) < (l.length : Int) := by omega
    go_enter Try.func6, Try.ntmps6
    go_wp2_with (go_at_call 19; refine (known07_any _).mono ?_; rintro e5 we ⟨rfl, b5⟩)
    go_ret
    exact ⟨rfl, below_step b5 B0 (Nat.le_refl _)⟩
  have h2' : ¬ (2000 : Int) < (l.length : Int) := by omega
  obtain ⟨⟨x, ee⟩, hr⟩ : ∃ r, hencOf seq boot area first snaps = r := ⟨_, rfl⟩
  have HR := Lib.hid hr
  clear hr _ha
  cases hdec : hdecodeOf l
  case none =>
      have HD := Lib.hid hdec
      clear hdec
      go_enter Try.func6, Try.ntmps6
      go_wp2_with (fail)
      revert q0 B0
      generalize w.alloc (.cells #[.int .i64 seq, .int .i64 boot, .int .i64 area, .int .i64 first, .int .i64 snaps] 40) = W
      intro q0 B0
      have k0 := (cell_of q0 0).trans rfl
      have k1 := (cell_of q0 1).trans rfl
      have k2 := (cell_of q0 2).trans rfl
      have k3 := (cell_of q0 3).trans rfl
      have k4 := (cell_of q0 4).trans rfl
      refine (sEncode_any seq boot area first snaps W).mono ?_
      rw [HR.out]
      rintro e w1 ⟨rfl, b1⟩
      have j0 := below_cell b1 k0
      have j1 := below_cell b1 k1
      have j2 := below_cell b1 k2
      have j3 := below_cell b1 k3
      have j4 := below_cell b1 k4
      clear k0 k1 k2 k3 k4 q0
      go_wp2_with (fail)
      refine (srEncode_any seq boot area first snaps w1).mono ?_
      rw [HR.out]
      rintro e w2 ⟨rfl, b2⟩
      have HB2 := Lib.hid (below_step b2 (below_step b1 B0 (Nat.le_refl _)) (Nat.le_refl _))
      clear j0 j1 j2 j3 j4 b1 b2 B0
      go_wp2_with (fail)
      refine (sDecode_any l _).mono ?_
      rw [hdecVal_none HD.out]
      unfold zhead hval
      rintro e w3 ⟨rfl, b3⟩
      have HB3 := Lib.hid (below_step b3 HB2.out (Nat.le_refl _))
      have q3 := alloc_new w3 (.cells #[.int .i64 0, .int .i64 0, .int .i64 0, .int .i64 0, .int .i64 0] 40)
      have B3 := alloc_below w3 (.cells #[.int .i64 0, .int .i64 0, .int .i64 0, .int .i64 0, .int .i64 0] 40)
      go_wp2_with (fail)
      revert q3 B3
      generalize w3.alloc (.cells #[.int .i64 0, .int .i64 0, .int .i64 0, .int .i64 0, .int .i64 0] 40) = X3
      intro q3 B3
      refine (srDecode_any l _).mono ?_
      rw [hdecVal_none HD.out]
      unfold zhead hval
      rintro e w4 ⟨rfl, b4⟩
      have i0 := below_cell b4 ((cell_of q3 0).trans rfl)
      have i1 := below_cell b4 ((cell_of q3 1).trans rfl)
      have i2 := below_cell b4 ((cell_of q3 2).trans rfl)
      have i3 := below_cell b4 ((cell_of q3 3).trans rfl)
      have i4 := below_cell b4 ((cell_of q3 4).trans rfl)
      have hlt : w3.heap.size < w4.heap.size := by
        have h1 := (Array.getElem?_eq_some_iff.1 q3).1
        have h2 := b4.size
        omega
      have HB4 := Lib.hid (below_step (alloc_below w4 (.cells #[.int .i64 0, .int .i64 0, .int .i64 0, .int .i64 0, .int .i64 0] 40)) (below_step b4 (below_step B3 HB3.out (Nat.le_refl _)) (Nat.le_refl _)) (Nat.le_refl _))
      clear b3 q3 B3 b4 HB3 HB2
      go_wp2_with (go_at_call 19; refine (known07_any _).mono ?_; rintro e5 we ⟨rfl, b5⟩)
      go_ret
      exact ⟨rfl, below_step b5 HB4.out (Nat.le_refl _)⟩
  case some b =>
      have HD := Lib.hid hdec
      clear hdec
      go_enter Try.func6, Try.ntmps6
      go_wp2_with (fail)
      revert q0 B0
      generalize w.alloc (.cells #[.int .i64 seq, .int .i64 boot, .int .i64 area, .int .i64 first, .int .i64 snaps] 40) = W
      intro q0 B0
      have k0 := (cell_of q0 0).trans rfl
      have k1 := (cell_of q0 1).trans rfl
      have k2 := (cell_of q0 2).trans rfl
      have k3 := (cell_of q0 3).trans rfl
      have k4 := (cell_of q0 4).trans rfl
      refine (sEncode_any seq boot area first snaps W).mono ?_
      rw [HR.out]
      rintro e w1 ⟨rfl, b1⟩
      have j0 := below_cell b1 k0
      have j1 := below_cell b1 k1
      have j2 := below_cell b1 k2
      have j3 := below_cell b1 k3
      have j4 := below_cell b1 k4
      clear k0 k1 k2 k3 k4 q0
      go_wp2_with (fail)
      refine (srEncode_any seq boot area first snaps w1).mono ?_
      rw [HR.out]
      rintro e w2 ⟨rfl, b2⟩
      have HB2 := Lib.hid (below_step b2 (below_step b1 B0 (Nat.le_refl _)) (Nat.le_refl _))
      clear j0 j1 j2 j3 j4 b1 b2 B0
      go_wp2_with (fail)
      refine (sDecode_any l _).mono ?_
      rw [hdecVal_some HD.out]
      unfold Hd.val hval
      rintro e w3 ⟨rfl, b3⟩
      have HB3 := Lib.hid (below_step b3 HB2.out (Nat.le_refl _))
      have q3 := alloc_new w3 (.cells #[.int .i64 b.seq, .int .i64 b.boot, .int .i64 b.area, .int .i64 b.first, .int .i64 b.snaps] 40)
      have B3 := alloc_below w3 (.cells #[.int .i64 b.seq, .int .i64 b.boot, .int .i64 b.area, .int .i64 b.first, .int .i64 b.snaps] 40)
      go_wp2_with (fail)
      revert q3 B3
      generalize w3.alloc (.cells #[.int .i64 b.seq, .int .i64 b.boot, .int .i64 b.area, .int .i64 b.first, .int .i64 b.snaps] 40) = X3
      intro q3 B3
      refine (srDecode_any l _).mono ?_
      rw [hdecVal_some HD.out]
      unfold Hd.val hval
      rintro e w4 ⟨rfl, b4⟩
      have i0 := below_cell b4 ((cell_of q3 0).trans rfl)
      have i1 := below_cell b4 ((cell_of q3 1).trans rfl)
      have i2 := below_cell b4 ((cell_of q3 2).trans rfl)
      have i3 := below_cell b4 ((cell_of q3 3).trans rfl)
      have i4 := below_cell b4 ((cell_of q3 4).trans rfl)
      have hlt : w3.heap.size < w4.heap.size := by
        have h1 := (Array.getElem?_eq_some_iff.1 q3).1
        have h2 := b4.size
        omega
      have HB4 := Lib.hid (below_step (alloc_below w4 (.cells #[.int .i64 b.seq, .int .i64 b.boot, .int .i64 b.area, .int .i64 b.first, .int .i64 b.snaps] 40)) (below_step b4 (below_step B3 HB3.out (Nat.le_refl _)) (Nat.le_refl _)) (Nat.le_refl _))
      clear b3 q3 B3 b4 HB3 HB2
      go_wp2_with (go_at_call 19; refine (known07_any _).mono ?_; rintro e5 we ⟨rfl, b5⟩)
      go_ret
      exact ⟨rfl, below_step b5 HB4.out (Nat.le_refl _)⟩
end Go.Proofs.Ytgnhpbolmfbngaa
