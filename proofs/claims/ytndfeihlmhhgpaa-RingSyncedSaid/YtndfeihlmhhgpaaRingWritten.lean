/- What sacristanlaw25.written and turned compute, on lists. -/
import Derived.Test.YtndfeihlmhhgpaaPWx1
import Derived.Test.YtndfeihlmhhgpaaRingLaw
import Derived.Test.YtndfeihlmhhgpaaRing
namespace Go.Proofs.Ytndfeihlmhhgpaa
open Go.RowKit Go.Proofs.YtndfeihlmhhgpaaW.PrintWords Go.Proofs.YtndfeihlmhhgpaaW.PrintLast Go.Proofs.YtndfeihlmhhgpaaW.PrintMore

theorem w64 {n : Int} (h0 : -9223372036854775808 ≤ n) (h1 : n ≤ 9223372036854775807) : wrap64 n = n := by unfold wrap64; omega
abbrev SB := PW.S29
def digits : ByteArray := ⟨#[48, 49, 50, 51, 52, 53, 54, 55, 56, 57]⟩
def wbit (steps i : Int) : Int := (shr .u64 steps (IntKind.u64.wrap (i.tmod 64))) % 2
def wlen (i : Int) : Int := 1 + i * 7 % 10
def wboot (steps : Int) : Nat → Int
  | 0 => 1
  | i + 1 => wboot steps i + wbit steps i
def woff : Nat → Int
  | 0 => 0
  | i + 1 => woff i + wlen i
def wblock (steps : Int) (i : Nat) : SB := ⟨7, wboot steps (i + 1), i, woff i, digits.extract 0 (wlen i).toNat⟩
theorem wlen_le (i : Int) : 1 ≤ wlen i ∧ wlen i ≤ 10 := by unfold wlen; omega
theorem wlen_size (i : Int) : ((digits.extract 0 (wlen i).toNat).size : Int) = wlen i := by
  have := wlen_le i
  rw [ByteArray.size_extract]
  show ((min (wlen i).toNat 10 - 0 : Nat) : Int) = wlen i
  omega
theorem wbit_le (steps i : Int) : 0 ≤ wbit steps i ∧ wbit steps i ≤ 1 := by unfold wbit; omega
theorem wboot_le (steps : Int) : ∀ i : Nat, 1 ≤ wboot steps i ∧ wboot steps i ≤ 1 + i
  | 0 => by simp [wboot]
  | i + 1 => by
    have h1 := wboot_le steps i
    have h2 := wbit_le steps i
    unfold wboot
    omega
theorem woff_le : ∀ i : Nat, 0 ≤ woff i ∧ woff i ≤ 10 * i
  | 0 => by simp [woff]
  | i + 1 => by
    have h1 := woff_le i
    have h2 := wlen_le i
    unfold woff
    omega
theorem shr_range (steps s : Int) (h0 : 0 ≤ steps) (h1 : steps ≤ 18446744073709551615) : 0 ≤ shr .u64 steps s ∧ shr .u64 steps s ≤ 18446744073709551615 := by
  unfold shr
  have hp : (1 : Int) ≤ 2 ^ min s.toNat (IntKind.u64).bits := Int.pow_pos (by omega)
  exact ⟨Int.ediv_nonneg h0 (by omega), Int.le_trans (Int.ediv_le_self _ h0) h1⟩
theorem wbit_bits (steps s : Int) (h0 : 0 ≤ steps) (h1 : steps ≤ 18446744073709551615) : Go.bits .and .u64 (shr .u64 steps s) 1 = shr .u64 steps s % 2 := by
  obtain ⟨a, b⟩ := shr_range steps s h0 h1
  exact and_one_u64 _ a b
/-- The blocks with the numbers from a to b - 1. -/
def wrow (steps : Int) (a b : Nat) : List SB := (List.range' a (b - a)).map (wblock steps)
theorem wrow_snoc (steps : Int) (a b : Nat) (h : a ≤ b) : wrow steps a (b + 1) = wrow steps a b ++ [wblock steps b] := by
  unfold wrow
  rw [show b + 1 - a = (b - a) + 1 by omega, List.range'_concat, List.map_append, Nat.one_mul, show a + (b - a) = b by omega]
  rfl
theorem wrow_nil (steps : Int) (a b : Nat) (h : b ≤ a) : wrow steps a b = [] := by unfold wrow; rw [show b - a = 0 by omega]; rfl
theorem written_from (steps : Int) (h0 : 0 ≤ steps) (h1 : steps ≤ 18446744073709551615) (a n : Nat) (hn : n ≤ 100) : ∀ (j i : Nat), i + j = n →
    PW.sacristanlaw25_written.l0 (j + 1) a n steps (wrow steps a i) (wboot steps i) (woff i) i = some (wrow steps a n)
  | 0, i, h => by
    obtain rfl : i = n := by omega
    unfold PW.sacristanlaw25_written.l0
    rw [if_neg (by omega)]
  | j + 1, i, h => by
    have ih := written_from steps h0 h1 a n hn j (i + 1) (by omega)
    have hX : (a ≤ i ∧ (i : Int) ≥ a) ∨ (¬ (i : Int) ≥ a ∧ i ≤ a ∧ i + 1 ≤ a) := by omega
    have hlen : (wrow steps a i).length < 2932031007402 := by
      have e : (wrow steps a i).length = i - a := by unfold wrow; rw [List.length_map, List.length_range']
      rw [e]
      omega
    have hw7 : wrap64 ((i : Int) * 7) = i * 7 := w64 (by omega) (by omega)
    have ht : ((i : Int) * 7).tmod 10 = i * 7 % 10 := Int.tmod_eq_emod_of_nonneg (by omega)
    have hl := wlen_le (i : Int)
    have hwl : wrap64 (1 + (i : Int) * 7 % 10) = wlen i := w64 (by unfold wlen at hl; omega) (by unfold wlen at hl; omega)
    have hbit := wbit_le steps i
    have hboot := wboot_le steps i
    have hoff := woff_le i
    have hb1 : wrap64 (wboot steps i + wrap64 (wbit steps i)) = wboot steps (i + 1) := by
      rw [w64 (n := wbit steps i) (by omega) (by omega), w64 (by omega) (by omega)]; rfl
    have ho1 : wrap64 (woff i + wlen i) = woff (i + 1) := by rw [w64 (by omega) (by omega)]; rfl
    have hi1 : wrap64 ((i : Int) + 1) = ((i + 1 : Nat) : Int) := by rw [w64 (by omega) (by omega)]; rfl
    have hs : 0 ≤ IntKind.u64.wrap ((i : Int).tmod 64) := by rw [IntKind.wrap_u64]; omega
    have c1 : (i : Int) < n := by omega
    have c2 : (0 : Int) ≤ wlen i := by omega
    have c3 : wlen i ≤ 10 := hl.2
    have hsz := wlen_size (i : Int)
    have hbb := wbit_bits steps (IntKind.u64.wrap ((i : Int).tmod 64)) h0 h1
    have hbe : shr .u64 steps (IntKind.u64.wrap ((i : Int).tmod 64)) % 2 = wbit steps i := rfl
    rw [hbe] at hbb
    unfold PW.sacristanlaw25_written.l0
    rw [if_pos c1, if_pos hs, hw7, ht, hwl, if_pos c2, if_pos c3, hbb, hb1]
    change (if (i : Int) ≥ a then (if (wrow steps a i).length < 2932031007402 then PW.sacristanlaw25_written.l0 (j + 1) a n steps (wrow steps a i ++ [wblock steps i]) (wboot steps (i + 1)) (wrap64 (woff i + ((digits.extract 0 (wlen i).toNat).size : Int))) (wrap64 ((i : Int) + 1)) else none) else PW.sacristanlaw25_written.l0 (j + 1) a n steps (wrow steps a i) (wboot steps (i + 1)) (wrap64 (woff i + ((digits.extract 0 (wlen i).toNat).size : Int))) (wrap64 ((i : Int) + 1))) = _
    rw [hsz, ho1, hi1]
    rcases hX with ⟨ha, c4⟩ | ⟨c4, d1, d2⟩
    · rw [if_pos c4, if_pos hlen, ← wrow_snoc steps a i ha]
      exact ih
    · rw [if_neg c4, wrow_nil steps a i d1]
      rw [wrow_nil steps a (i + 1) d2] at ih
      exact ih
theorem written_is (steps : Int) (h0 : 0 ≤ steps) (h1 : steps ≤ 18446744073709551615) (a n : Nat) (hn : n ≤ 100) : PW.sacristanlaw25_written.f (n + 1) a n steps = some (wrow steps a n) := by
  have := written_from steps h0 h1 a n hn n 0 (by omega)
  rw [wrow_nil steps a 0 (by omega)] at this
  exact this
end Go.Proofs.Ytndfeihlmhhgpaa
