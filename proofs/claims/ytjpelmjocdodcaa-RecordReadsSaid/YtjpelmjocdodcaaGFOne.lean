/- frame.Encode, sacristanref05.Encode on any frame: one contract (without law05). -/
import Derived.Test.YtjpelmjocdodcaaFDecode
import Derived.Test.YtjpelmjocdodcaaRef05Enc
namespace Go.Proofs.Ytjpelmjocdodcaa
open Go.RowKit

/-- What Encode returns: the sector's bytes, and the error. -/
def fencOf (boot lsn part parts kind : Int) (d : List UInt8) : List UInt8 × Int :=
  if 44 < d.length then ([], 5) else if FOk boot lsn part parts then ((⟨boot.toNat, lsn.toNat, part.toNat, parts.toNat, kind.toNat, d⟩ : Frm).sec, 0) else ([], 2)
theorem fencOf_cases (boot lsn part parts kind : Int) (d : List UInt8) (hk : 0 ≤ kind ∧ kind < 256) :
    (∃ b : Frm, b.Ok ∧ fval boot lsn part parts kind d = b.val ∧ fencOf boot lsn part parts kind d = (b.sec, 0)) ∨ (44 < d.length ∧ fencOf boot lsn part parts kind d = ([], 5)) ∨
    (d.length ≤ 44 ∧ ¬ FOk boot lsn part parts ∧ fencOf boot lsn part parts kind d = ([], 2)) := by
  unfold fencOf
  by_cases h : 44 < d.length
  · rw [if_pos h]; exact .inr (.inl ⟨h, rfl⟩)
  · rw [if_neg h]
    by_cases hc : FOk boot lsn part parts
    · rw [if_pos hc]
      unfold FOk at hc
      refine .inl ⟨⟨boot.toNat, lsn.toNat, part.toNat, parts.toNat, kind.toNat, d⟩, ?_, ?_, rfl⟩
      · unfold Frm.Ok; dsimp only; omega
      · unfold fval Frm.val
        dsimp only
        rw [Int.toNat_of_nonneg (by omega : 0 ≤ boot), Int.toNat_of_nonneg (by omega : 0 ≤ lsn), Int.toNat_of_nonneg (by omega : 0 ≤ part), Int.toNat_of_nonneg (by omega : 0 ≤ parts), Int.toNat_of_nonneg (by omega : 0 ≤ kind)]
    · rw [if_neg hc]; exact .inr (.inr ⟨by omega, hc, rfl⟩)
theorem fEncode_any (boot lsn part parts kind : Int) (d : List UInt8) (w : World) (hk : 0 ≤ kind ∧ kind < 256) :
    Calls Try.prog 68 #[fval boot lsn part parts kind d] w fun e w' => e = .returned (.tuple #[.string (S (fencOf boot lsn part parts kind d).1), .int .i64 (fencOf boot lsn part parts kind d).2]) ∧ Below w.heap.size w w' := by
  rcases fencOf_cases boot lsn part parts kind d hk with ⟨b, ok, hv, he⟩ | ⟨hl, he⟩ | ⟨hl, hc, he⟩
  · rw [he, hv]; exact fEncode_ok b w ok
  · rw [he]; exact fEncode_long boot lsn part parts kind d w hl
  · rw [he]; exact fEncode_arg boot lsn part parts kind d w hl hc
theorem frEncode_any (boot lsn part parts kind : Int) (d : List UInt8) (w : World) (hk : 0 ≤ kind ∧ kind < 256) :
    Calls Try.prog 69 #[fval boot lsn part parts kind d] w fun e w' => e = .returned (.tuple #[.string (S (fencOf boot lsn part parts kind d).1), .int .i64 (fencOf boot lsn part parts kind d).2]) ∧ Below w.heap.size w w' := by
  rcases fencOf_cases boot lsn part parts kind d hk with ⟨b, ok, hv, he⟩ | ⟨hl, he⟩ | ⟨hl, hc, he⟩
  · rw [he, hv]; exact frEncode_ok b w ok
  · rw [he]
    have h := frEncode_bad boot lsn part parts kind d w (.inl hl)
    rw [if_pos hl] at h
    exact h
  · rw [he]
    have h := frEncode_bad boot lsn part parts kind d w (.inr hc)
    rw [if_neg (by omega)] at h
    exact h
end Go.Proofs.Ytjpelmjocdodcaa
