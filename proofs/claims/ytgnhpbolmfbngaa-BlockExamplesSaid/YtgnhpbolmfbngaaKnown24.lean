/- sacristanlaw24.known returns true, in every world. -/
import Derived.Test.YtgnhpbolmfbngaaBDecode
namespace Go.Proofs.Ytgnhpbolmfbngaa
open Go.RowKit

def kb : Blk := ⟨2, 3, 4, 5, [104, 101, 108, 108, 111]⟩
theorem kb_ok : kb.Ok := by unfold kb Blk.Ok; decide
set_option maxRecDepth 100000 in
set_option maxHeartbeats 1000000 in
theorem known24_any (w : World) : Calls Try.prog 12 #[] w fun e w' => e = .returned (.bool true) ∧ Below w.heap.size w w' := by
  have q0 := alloc_new w (.cells #[.int .i64 2, .int .i64 3, .int .i64 4, .int .i64 5, .string ⟨#[104, 101, 108, 108, 111]⟩] 31)
  have B0 := alloc_below w (.cells #[.int .i64 2, .int .i64 3, .int .i64 4, .int .i64 5, .string ⟨#[104, 101, 108, 108, 111]⟩] 31)
  have z0 := alloc_size w (.cells #[.int .i64 2, .int .i64 3, .int .i64 4, .int .i64 5, .string ⟨#[104, 101, 108, 108, 111]⟩] 31)
  go_enter Try.func12, Try.ntmps12
  go_wp2_with (fail)
  revert q0 B0 z0
  generalize w.alloc (.cells #[.int .i64 2, .int .i64 3, .int .i64 4, .int .i64 5, .string ⟨#[104, 101, 108, 108, 111]⟩] 31) = W
  intro q0 B0 z0
  refine (bEncode_ok kb W kb_ok).mono ?_
  rintro e w1 ⟨rfl, b1⟩
  have HL := Lib.hid (kb.sec_length (by decide))
  have HD := Lib.hid (decVal_some (decodeOf_sec kb_ok))
  obtain ⟨s, hs⟩ : ∃ s, kb.sec = s := ⟨_, rfl⟩
  rw [hs] at HL HD ⊢
  go_wp2_with (fail)
  refine (bDecode_any s w1).mono ?_
  rw [HD.out]
  rintro e w2 ⟨rfl, b2⟩
  have q2 : w2.heap[w.heap.size]? = some (.cells #[.int .i64 2, .int .i64 3, .int .i64 4, .int .i64 5, .string ⟨#[104, 101, 108, 108, 111]⟩] 31 (0, 0)) := by
    have h1 := b1.size
    rw [b2.block _ (by omega), b1.block _ (by omega), q0]
  have HB := Lib.hid (below_step b2 (below_step b1 B0 (Nat.le_refl _)) (Nat.le_refl _))
  have hlt : w.heap.size < w2.heap.size := (Array.getElem?_eq_some_iff.1 q2).1
  have c0 := (cell_of q2 0).trans rfl
  have c1 := (cell_of q2 1).trans rfl
  have c2 := (cell_of q2 2).trans rfl
  have c3 := (cell_of q2 3).trans rfl
  have c4 := (cell_of q2 4).trans rfl
  have HL' : (s.length : Int) = 80 := by have := HL.out; omega
  unfold Blk.val kb S
  dsimp only
  clear q0 q2 b1 b2 B0 z0 hs
  go_wp2
  go_ret
  exact ⟨rfl, HB.out.trans ((alloc_below _ _).mono (by omega))⟩
end Go.Proofs.Ytgnhpbolmfbngaa
