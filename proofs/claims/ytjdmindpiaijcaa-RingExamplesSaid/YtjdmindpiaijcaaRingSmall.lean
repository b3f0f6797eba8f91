/- ring.check, ring.oldest, First, Sector, Begins; the reference's. -/
import Derived.Test.YtjdmindpiaijcaaProg
import Derived.Test.YtjdmindpiaijcaaFrame
import Derived.Test.YtjdmindpiaijcaaRingPure
namespace Go.Proofs.Ytjdmindpiaijcaa
open Go.RowKit

def rcheck (files blocks n : Int) : Int :=
  if (2 ≤ files ∧ files ≤ 64) ∧ (1 ≤ blocks ∧ blocks ≤ 64) then (if 0 ≤ n ∧ n ≤ 4294967295 then 0 else 3) else 2

set_option maxHeartbeats 400000 in
theorem rfrom_any (n lo hi : Int) (w : World) :
    Calls Try.prog 11 #[.int .i64 n, .int .i64 lo, .int .i64 hi] w fun e w' => e = .returned (.bool (decide (lo ≤ n) && decide (n ≤ hi))) ∧ w' = w := by
  by_cases h1 : lo ≤ n <;> by_cases h2 : n ≤ hi
  all_goals
    go_enter Try.func11, Try.ntmps11
    go_wp2
    go_ret
    simp [h1, h2]
theorem and_of {p q : Prop} [Decidable p] [Decidable q] {x : Bool} (h : (decide p && decide q) = x) : (p ∧ q) ↔ x = true := by
  subst h; simp
set_option maxHeartbeats 400000 in
theorem rcheck_any (files blocks n : Int) (w : World) :
    Calls Try.prog 9 #[.int .i64 files, .int .i64 blocks, .int .i64 n] w fun e w' => e = .returned (.int .i64 (rcheck files blocks n)) ∧ w' = w := by
  cases h1 : (decide ((2 : Int) ≤ files) && decide (files ≤ 64)) <;> cases h2 : (decide ((1 : Int) ≤ blocks) && decide (blocks ≤ 64)) <;> cases h3 : (decide ((0 : Int) ≤ n) && decide (n ≤ 4294967295))
  all_goals
    have e1 := Lib.hid (and_of h1)
    have e2 := Lib.hid (and_of h2)
    have e3 := Lib.hid (and_of h3)
    go_enter Try.func9, Try.ntmps9
    go_wp2_with (go_at_call 11; refine (rfrom_any _ _ _ _).mono ?_; rintro e w' ⟨rfl, rfl⟩)
    go_ret
    exact ⟨ret_int (by unfold rcheck; simp [e1.out, e2.out, e3.out]), rfl⟩
set_option maxHeartbeats 400000 in
theorem roldest_any (files blocks file : Int) (w : World) (h1 : 0 ≤ files) (h2 : files ≤ 64) (h3 : 0 ≤ blocks) (h4 : blocks ≤ 64) (h5 : 0 ≤ file) (h6 : file ≤ 4294967295) :
    Calls Try.prog 10 #[.int .i64 files, .int .i64 blocks, .int .i64 file] w fun e w' => e = .returned (.int .i64 (max 0 ((file - files + 1) * blocks))) ∧ w' = w := by
  have hm : -(64 * 64) ≤ (file - files + 1) * blocks ∧ (file - files + 1) * blocks ≤ 4294967296 * 64 := by
    have a1 : -64 ≤ file - files + 1 := by omega
    have a2 : file - files + 1 ≤ 4294967296 := by omega
    constructor
    · have := Int.mul_le_mul_of_nonneg_right a1 h3
      have h64 : -64 * blocks ≥ -(64 * 64) := by omega
      omega
    · have := Int.mul_le_mul a2 h4 h3 (by omega)
      omega
  obtain ⟨hm1, hm2⟩ := hm
  have hw : IntKind.i64.wrap ((file - files + 1) * blocks) = (file - files + 1) * blocks := by rw [IntKind.wrap_i64]; omega
  go_enter Try.func10, Try.ntmps10
  go_wp2
  all_goals
    go_ret
    exact ⟨ret_int (by omega), rfl⟩
def rFirst (files blocks n : Int) : Int := if rcheck files blocks n = 0 ∧ n ≠ 0 then max 0 (((n - 1) / blocks - files + 1) * blocks) else 0
def rSector (files blocks n : Int) : Int := if rcheck files blocks n = 0 then n % (files * blocks) else 0
def rBegins (blocks n : Int) : Bool := if rcheck 2 blocks n = 0 then n % blocks == 0 else false
theorem rcheck_ok {files blocks n : Int} (h : rcheck files blocks n = 0) : (2 ≤ files ∧ files ≤ 64) ∧ (1 ≤ blocks ∧ blocks ≤ 64) ∧ 0 ≤ n ∧ n ≤ 4294967295 := by
  unfold rcheck at h
  split at h
  · rename_i h1
    split at h
    · rename_i h2; exact ⟨h1.1, h1.2, h2⟩
    · omega
  · omega
theorem rcheck_cases (files blocks n : Int) : rcheck files blocks n = 0 ∨ rcheck files blocks n = 2 ∨ rcheck files blocks n = 3 := by
  unfold rcheck; split <;> (try split) <;> simp

set_option maxHeartbeats 400000 in
theorem rFirst_any (files blocks n : Int) (w : World) :
    Calls Try.prog 6 #[.int .i64 files, .int .i64 blocks, .int .i64 n] w fun e w' => e = .returned (.tuple #[.int .i64 (rFirst files blocks n), .int .i64 (rcheck files blocks n)]) ∧ w' = w := by
  by_cases h : rcheck files blocks n = 0
  · obtain ⟨⟨h1, h2⟩, ⟨h3, h4⟩, h5, h6⟩ := rcheck_ok h
    have HC := Lib.hid h
    clear h
    by_cases hn : n = 0
    · subst hn
      go_enter Try.func6, Try.ntmps6
      go_wp2_with (go_at_call 9; refine (rcheck_any _ _ _ _).mono ?_; rw [HC.out]; rintro e w' ⟨rfl, rfl⟩)
      go_ret2
      exact ⟨by unfold rFirst; rw [HC.out, if_neg (by simp)]; rfl, rfl⟩
    · have hq : 0 ≤ (n - 1) / blocks ∧ (n - 1) / blocks ≤ 4294967295 := by
        have := Int.ediv_le_self blocks (by omega : 0 ≤ n - 1)
        exact ⟨Int.ediv_nonneg (by omega) (by omega), by omega⟩
      obtain ⟨hq0, hq1⟩ := hq
      have hn0 : (n == 0) = false := by simpa using hn
      have hn1 : 0 < n := by omega
      have HN := Lib.hid hn
      clear hn
      have f0 : 0 ≤ files := by omega
      have b0 : 0 ≤ blocks := by omega
      go_enter Try.func6, Try.ntmps6
      go_wp2_with (first | (go_at_call 9; refine (rcheck_any _ _ _ _).mono ?_; rw [HC.out]; rintro e w' ⟨rfl, rfl⟩) | (go_at_call 10; refine (roldest_any _ _ _ _ f0 h2 b0 h4 hq0 hq1).mono ?_; rintro e w' ⟨rfl, rfl⟩))
      go_ret2
      exact ⟨by unfold rFirst; rw [HC.out, if_pos ⟨rfl, HN.out⟩]; rfl, rfl⟩
  · have hc := rcheck_cases files blocks n
    have hf : rFirst files blocks n = 0 := by unfold rFirst; rw [if_neg (by simp [h])]
    rw [hf]
    have hne : (rcheck files blocks n != 0) = true := by simpa using h
    revert hne
    generalize hr : rcheck files blocks n = r
    intro hne
    have HR := Lib.hid hr
    clear hr hf hc h
    go_enter Try.func6, Try.ntmps6
    go_wp2_with (go_at_call 9; refine (rcheck_any _ _ _ _).mono ?_; rw [HR.out]; rintro e w' ⟨rfl, rfl⟩)
    go_ret2
    exact ⟨rfl, rfl⟩
end Go.Proofs.Ytjdmindpiaijcaa
