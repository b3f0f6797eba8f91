/- slots.Encode on any header: one contract; headers that differ. -/
import Derived.Test.YtgnhpbolmfbngaaSDecode
namespace Go.Proofs.Ytgnhpbolmfbngaa
open Go.RowKit

/-- What Encode returns: the sector's bytes, and the error. -/
def hencOf (seq boot area first snaps : Int) : List UInt8 × Int :=
  if HOk seq boot area first snaps then ((⟨seq.toNat, boot.toNat, area.toNat, first.toNat, snaps.toNat⟩ : Hd).sec, 0) else ([], 2)
theorem henc_split (seq boot area first snaps : Int) :
    (∃ b : Hd, b.Ok ∧ seq = b.seq ∧ boot = b.boot ∧ area = b.area ∧ first = b.first ∧ snaps = b.snaps ∧ hencOf seq boot area first snaps = (b.sec, 0)) ∨ ∃ e : Int, (e == 0) = false ∧ hencOf seq boot area first snaps = ([], e) := by
  unfold hencOf
  by_cases hc : HOk seq boot area first snaps
  · rw [if_pos hc]
    unfold HOk at hc
    refine .inl ⟨⟨seq.toNat, boot.toNat, area.toNat, first.toNat, snaps.toNat⟩, ?_, ?_, ?_, ?_, ?_, ?_, rfl⟩
    · unfold Hd.Ok; dsimp only; omega
    · dsimp only; omega
    · dsimp only; omega
    · dsimp only; omega
    · dsimp only; omega
    · dsimp only; omega
  · rw [if_neg hc]; exact .inr ⟨2, rfl, rfl⟩
theorem hencOf_bad {seq boot area first snaps : Int} (h : ¬ HOk seq boot area first snaps) : hencOf seq boot area first snaps = ([], 2) := if_neg h
theorem hencOf_ok {b : Hd} (ok : b.Ok) : hencOf b.seq b.boot b.area b.first b.snaps = (b.sec, 0) := if_pos (Hd.hok ok)
theorem sEncode_any (seq boot area first snaps : Int) (w : World) :
    Calls Try.prog 20 #[hval seq boot area first snaps] w fun e w' => e = .returned (.tuple #[.string (S (hencOf seq boot area first snaps).1), .int .i64 (hencOf seq boot area first snaps).2]) ∧ Below w.heap.size w w' := by
  by_cases hc : HOk seq boot area first snaps
  · obtain ⟨b, ok, rfl, rfl, rfl, rfl, rfl⟩ := hok_hd hc
    rw [hencOf_ok ok]
    exact sEncode_ok b w ok
  · rw [hencOf_bad hc]
    exact sEncode_arg seq boot area first snaps w hc
theorem Hd.ne_cases {a b : Hd} (h : a ≠ b) : ((a.seq : Int) == b.seq) = false ∨ (((a.seq : Int) == b.seq) = true ∧ ((a.boot : Int) == b.boot) = false) ∨ (((a.seq : Int) == b.seq) = true ∧ ((a.boot : Int) == b.boot) = true ∧ ((a.area : Int) == b.area) = false) ∨
    (((a.seq : Int) == b.seq) = true ∧ ((a.boot : Int) == b.boot) = true ∧ ((a.area : Int) == b.area) = true ∧ ((a.first : Int) == b.first) = false) ∨
    (((a.seq : Int) == b.seq) = true ∧ ((a.boot : Int) == b.boot) = true ∧ ((a.area : Int) == b.area) = true ∧ ((a.first : Int) == b.first) = true ∧ ((a.snaps : Int) == b.snaps) = false) := by
  have hb : ∀ x y : Nat, x = y → ((x : Int) == y) = true := fun x y h => by rw [h]; exact beq_self_eq_true _
  have hn : ∀ x y : Nat, ¬ x = y → ((x : Int) == y) = false := fun x y h => beq_eq_false_iff_ne.2 (fun e => h (by omega))
  by_cases h1 : a.seq = b.seq
  · by_cases h2 : a.boot = b.boot
    · by_cases h3 : a.area = b.area
      · by_cases h4 : a.first = b.first
        · by_cases h5 : a.snaps = b.snaps
          · exact absurd (by cases a; cases b; simp_all) h
          · exact .inr (.inr (.inr (.inr ⟨hb _ _ h1, hb _ _ h2, hb _ _ h3, hb _ _ h4, hn _ _ h5⟩)))
        · exact .inr (.inr (.inr (.inl ⟨hb _ _ h1, hb _ _ h2, hb _ _ h3, hn _ _ h4⟩)))
      · exact .inr (.inr (.inl ⟨hb _ _ h1, hb _ _ h2, hn _ _ h3⟩))
    · exact .inr (.inl ⟨hb _ _ h1, hn _ _ h2⟩)
  · exact .inl (hn _ _ h1)
end Go.Proofs.Ytgnhpbolmfbngaa
