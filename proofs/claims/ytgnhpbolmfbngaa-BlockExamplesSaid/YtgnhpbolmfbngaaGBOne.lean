/- block.Encode on any block: one contract. -/
import Derived.Test.YtgnhpbolmfbngaaKnown24
namespace Go.Proofs.Ytgnhpbolmfbngaa
open Go.RowKit

/-- What Encode returns: the sector's bytes, and the error. -/
def encOf (life boot n off : Int) (d : List UInt8) : List UInt8 × Int :=
  if 36 < d.length then ([], 5) else if 0 ≤ life ∧ life ≤ 4294967295 ∧ 0 ≤ n ∧ n ≤ 4294967295 ∧ 1 ≤ boot ∧ boot ≤ 4294967295 ∧ 0 ≤ off ∧ off ≤ 281474976710655 ∧ 1 ≤ d.length then ((⟨life.toNat, boot.toNat, n.toNat, off.toNat, d⟩ : Blk).sec, 0) else ([], 2)
theorem encOf_cases (life boot n off : Int) (d : List UInt8) :
    (∃ b : Blk, b.Ok ∧ bval life boot n off d = b.val ∧ encOf life boot n off d = (b.sec, 0)) ∨ (36 < d.length ∧ encOf life boot n off d = ([], 5)) ∨
    (d.length ≤ 36 ∧ ¬ (0 ≤ life ∧ life ≤ 4294967295 ∧ 0 ≤ n ∧ n ≤ 4294967295 ∧ 1 ≤ boot ∧ boot ≤ 4294967295 ∧ 0 ≤ off ∧ off ≤ 281474976710655 ∧ 1 ≤ d.length) ∧ encOf life boot n off d = ([], 2)) := by
  unfold encOf
  by_cases h : 36 < d.length
  · rw [if_pos h]; exact .inr (.inl ⟨h, rfl⟩)
  · rw [if_neg h]
    by_cases hc : 0 ≤ life ∧ life ≤ 4294967295 ∧ 0 ≤ n ∧ n ≤ 4294967295 ∧ 1 ≤ boot ∧ boot ≤ 4294967295 ∧ 0 ≤ off ∧ off ≤ 281474976710655 ∧ 1 ≤ d.length
    · rw [if_pos hc]
      refine .inl ⟨⟨life.toNat, boot.toNat, n.toNat, off.toNat, d⟩, ?_, ?_, rfl⟩
      · unfold Blk.Ok; dsimp only; omega
      · unfold bval Blk.val
        dsimp only
        rw [Int.toNat_of_nonneg hc.1, Int.toNat_of_nonneg (by omega : 0 ≤ boot), Int.toNat_of_nonneg (by omega : 0 ≤ n), Int.toNat_of_nonneg (by omega : 0 ≤ off)]
    · rw [if_neg hc]; exact .inr (.inr ⟨by omega, hc, rfl⟩)
theorem bEncode_any (life boot n off : Int) (d : List UInt8) (w : World) :
    Calls Try.prog 17 #[bval life boot n off d] w fun e w' => e = .returned (.tuple #[.string (S (encOf life boot n off d).1), .int .i64 (encOf life boot n off d).2]) ∧ Below w.heap.size w w' := by
  rcases encOf_cases life boot n off d with ⟨b, ok, hv, he⟩ | ⟨hl, he⟩ | ⟨hl, hc, he⟩
  · rw [he, hv]; exact bEncode_ok b w ok
  · rw [he]; exact bEncode_long life boot n off d w hl
  · rw [he]; exact bEncode_arg life boot n off d w hl hc
end Go.Proofs.Ytgnhpbolmfbngaa
