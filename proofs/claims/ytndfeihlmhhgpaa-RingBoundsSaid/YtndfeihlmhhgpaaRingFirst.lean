/- ring.First without division; what one more block does. -/
import Derived.Test.YtndfeihlmhhgpaaRingSmall
namespace Go.Proofs.Ytndfeihlmhhgpaa
open Go.RowKit

theorem rcheck_in {f b n : Int} (h1 : 2 ≤ f) (h2 : f ≤ 64) (h3 : 1 ≤ b) (h4 : b ≤ 64) (h5 : 0 ≤ n) (h6 : n ≤ 4294967295) : rcheck f b n = 0 := by
  unfold rcheck; rw [if_pos ⟨⟨h1, h2⟩, h3, h4⟩, if_pos ⟨h5, h6⟩]
/-- First, told without division: q files ahead of block k, r blocks into the file. -/
theorem rFirst_next {f b q r : Int} (h1 : 2 ≤ f) (h2 : f ≤ 64) (h3 : 1 ≤ b) (h4 : b ≤ 64) (hr0 : 0 ≤ r) (hr1 : r < b) (hq : 0 ≤ q) (hk : q * b + r ≤ 4294967294) : rFirst f b (q * b + r + 1) = max 0 (q * b - f * b + b) := by
  have hqb : 0 ≤ q * b := Int.mul_nonneg hq (by omega)
  unfold rFirst
  rw [if_pos ⟨rcheck_in h1 h2 h3 h4 (by omega) (by omega), by omega⟩]
  have hd : (q * b + r + 1 - 1) / b = q := by
    rw [show q * b + r + 1 - 1 = r + q * b by omega, Int.add_mul_ediv_right _ _ (by omega), Int.ediv_eq_zero_of_lt hr0 hr1]
    omega
  rw [hd, Int.add_mul, Int.sub_mul, Int.one_mul]
theorem turn_facts {f b k : Int} (h1 : 2 ≤ f) (h2 : f ≤ 64) (h3 : 1 ≤ b) (h4 : b ≤ 64) (hk0 : 0 ≤ k) (hk1 : k ≤ 4294967293) :
    (rFirst f b (k + 1) = rFirst f b k ∨ (k % b = 0 ∧ rFirst f b (k + 1) = rFirst f b k + b)) ∧ 0 ≤ rFirst f b (k + 1) ∧ rFirst f b (k + 1) ≤ k ∧ k - rFirst f b (k + 1) < f * b ∧ (f * b ≤ k → k - f * b < rFirst f b (k + 1)) ∧ 0 ≤ rFirst f b k ∧ rFirst f b k ≤ k := by
  have hr0 := Int.emod_nonneg k (by omega : b ≠ 0)
  have hr1 := Int.emod_lt_of_pos k (by omega : 0 < b)
  have hq0 := Int.ediv_nonneg hk0 (by omega : 0 ≤ b)
  have hkk : k = k / b * b + k % b := by have := Int.mul_ediv_add_emod k b; rw [Int.mul_comm] at this; omega
  generalize k % b = r at *
  generalize k / b = q at *
  subst hkk
  have e1 := rFirst_next h1 h2 h3 h4 hr0 hr1 hq0 (by omega)
  have hfb : 2 * b ≤ f * b := Int.mul_le_mul_of_nonneg_right h1 (by omega)
  have hqb : 0 ≤ q * b := Int.mul_nonneg hq0 (by omega)
  have hcase : q * b + b ≤ f * b ∨ f * b ≤ q * b := by
    by_cases h : q + 1 ≤ f
    · left
      have := Int.mul_le_mul_of_nonneg_right h (by omega : 0 ≤ b)
      rw [Int.add_mul, Int.one_mul] at this
      exact this
    · right
      exact Int.mul_le_mul_of_nonneg_right (by omega) (by omega : 0 ≤ b)
  rw [e1]
  by_cases hr : r = 0
  · subst hr
    have e0 : rFirst f b (q * b + 0) = max 0 (q * b - f * b) := by
      by_cases hq : q = 0
      · subst hq
        unfold rFirst
        rw [if_neg (by rw [Int.zero_mul]; simp)]
        omega
      · have := rFirst_next h1 h2 h3 h4 (r := b - 1) (q := q - 1) (by omega) (by omega) (by omega) (by rw [Int.sub_mul]; omega)
        rw [Int.sub_mul, Int.one_mul, show q * b - b + (b - 1) + 1 = q * b + 0 by omega] at this
        rw [this]
        omega
    rw [e0]
    omega
  · have e0 := rFirst_next h1 h2 h3 h4 (r := r - 1) (q := q) (by omega) (by omega) hq0 (by omega)
    rw [show q * b + (r - 1) + 1 = q * b + r by omega] at e0
    rw [e0]
    omega
theorem turn_sector {f b k m : Int} (h1 : 2 ≤ f) (h2 : f ≤ 64) (h3 : 1 ≤ b) (h4 : b ≤ 64) (hk1 : k ≤ 4294967293) (hm0 : 0 ≤ m) (hm : m < k) (hd : k - m < f * b) : rSector f b m ≠ rSector f b k := by
  unfold rSector
  rw [if_pos (rcheck_in h1 h2 h3 h4 hm0 (by omega)), if_pos (rcheck_in h1 h2 h3 h4 (by omega) (by omega))]
  intro h
  have := Int.emod_emod_of_dvd
  have hz : (k - m) % (f * b) = 0 := Int.emod_eq_emod_iff_emod_sub_eq_zero.mp h.symm
  rw [Int.emod_eq_of_lt (by omega) hd] at hz
  omega

end Go.Proofs.Ytndfeihlmhhgpaa
