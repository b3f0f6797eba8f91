/- ring.Sector, Begins; the reference's check, least, First, Sector, Begins. -/
import Derived.Test.YtndfeihlmhhgpaaRingSmall
namespace Go.Proofs.Ytndfeihlmhhgpaa
open Go.RowKit

theorem mul_span {files blocks : Int} (h1 : 2 ≤ files) (h2 : files ≤ 64) (h3 : 1 ≤ blocks) (h4 : blocks ≤ 64) : 1 ≤ files * blocks ∧ files * blocks ≤ 4096 := by
  constructor
  · have : 1 * 1 ≤ files * blocks := Int.mul_le_mul (by omega) h3 (by omega) (by omega)
    omega
  · have := Int.mul_le_mul h2 h4 (by omega) (by omega)
    omega

set_option maxHeartbeats 400000 in
theorem rSector_any (files blocks n : Int) (w : World) :
    Calls Try.prog 21 #[.int .i64 files, .int .i64 blocks, .int .i64 n] w fun e w' => e = .returned (.tuple #[.int .i64 (rSector files blocks n), .int .i64 (rcheck files blocks n)]) ∧ w' = w := by
  by_cases h : rcheck files blocks n = 0
  · obtain ⟨⟨h1, h2⟩, ⟨h3, h4⟩, h5, h6⟩ := rcheck_ok h
    have HC := Lib.hid h
    clear h
    obtain ⟨m1, m2⟩ := mul_span h1 h2 h3 h4
    have hz : ¬ files * blocks = 0 := by omega
    have hw : IntKind.i64.wrap (files * blocks) = files * blocks := by rw [IntKind.wrap_i64]; omega
    have ht : n.tmod (files * blocks) = n % (files * blocks) := Int.tmod_eq_emod_of_nonneg h5
    go_enter Try.func21, Try.ntmps21
    go_wp2_with (go_at_call 36; refine (rcheck_any _ _ _ _).mono ?_; rw [HC.out]; rintro e w' ⟨rfl, rfl⟩)
    go_ret2
    exact ⟨by unfold rSector; rw [HC.out, if_pos rfl]; rfl, rfl⟩
  · have hf : rSector files blocks n = 0 := by unfold rSector; rw [if_neg h]
    rw [hf]
    have hne : (rcheck files blocks n != 0) = true := by simpa using h
    revert hne
    generalize hr : rcheck files blocks n = r
    intro hne
    have HR := Lib.hid hr
    clear hr hf h
    go_enter Try.func21, Try.ntmps21
    go_wp2_with (go_at_call 36; refine (rcheck_any _ _ _ _).mono ?_; rw [HR.out]; rintro e w' ⟨rfl, rfl⟩)
    go_ret2
    exact ⟨rfl, rfl⟩

set_option maxHeartbeats 400000 in
theorem rBegins_any (blocks n : Int) (w : World) :
    Calls Try.prog 24 #[.int .i64 blocks, .int .i64 n] w fun e w' => e = .returned (.tuple #[.bool (rBegins blocks n), .int .i64 (rcheck 2 blocks n)]) ∧ w' = w := by
  by_cases h : rcheck 2 blocks n = 0
  · obtain ⟨⟨h1, h2⟩, ⟨h3, h4⟩, h5, h6⟩ := rcheck_ok h
    have HC := Lib.hid h
    clear h
    have ht : n.tmod blocks = n % blocks := Int.tmod_eq_emod_of_nonneg h5
    go_enter Try.func24, Try.ntmps24
    go_wp2_with (go_at_call 36; refine (rcheck_any _ _ _ _).mono ?_; rw [HC.out]; rintro e w' ⟨rfl, rfl⟩)
    go_ret2
    exact ⟨by unfold rBegins; rw [HC.out, if_pos rfl]; rfl, rfl⟩
  · have hf : rBegins blocks n = false := by unfold rBegins; rw [if_neg h]
    rw [hf]
    have hne : (rcheck 2 blocks n != 0) = true := by simpa using h
    revert hne
    generalize hr : rcheck 2 blocks n = r
    intro hne
    have HR := Lib.hid hr
    clear hr hf h
    go_enter Try.func24, Try.ntmps24
    go_wp2_with (go_at_call 36; refine (rcheck_any _ _ _ _).mono ?_; rw [HR.out]; rintro e w' ⟨rfl, rfl⟩)
    go_ret2
    exact ⟨rfl, rfl⟩

set_option maxHeartbeats 1000000 in
theorem refCheck_any (files blocks n : Int) (w : World) :
    Calls Try.prog 42 #[.int .i64 files, .int .i64 blocks, .int .i64 n] w fun e w' => e = .returned (.int .i64 (rcheck files blocks n)) ∧ w' = w := by
  by_cases h1 : files < 2 <;> by_cases h2 : 64 < files <;> by_cases h3 : blocks < 1 <;> by_cases h4 : 64 < blocks <;> by_cases h5 : n < 0 <;> by_cases h6 : 4294967296 ≤ n
  all_goals first | (exfalso; omega) | skip
  all_goals
    have HR : Hid (rcheck files blocks n = rcheck files blocks n) := rfl
    revert HR
    generalize hr : rcheck files blocks n = r
    intro _
    have HR := Lib.hid hr
    clear hr
    go_enter Try.func42, Try.ntmps42
    go_wp2
    go_ret
    refine ⟨ret_int ?_, rfl⟩
    rw [← HR.out]
    unfold rcheck
    first | rw [if_neg (by omega)] | (rw [if_pos ⟨⟨by omega, by omega⟩, by omega, by omega⟩]; first | rw [if_pos ⟨by omega, by omega⟩] | rw [if_neg (by omega)])

set_option maxHeartbeats 400000 in
theorem refLeast_any (files blocks file : Int) (w : World) (h1 : 0 ≤ files) (h2 : files ≤ 64) (h3 : 0 ≤ blocks) (h4 : blocks ≤ 64) (h5 : 0 ≤ file) (h6 : file ≤ 4294967295) :
    Calls Try.prog 43 #[.int .i64 files, .int .i64 blocks, .int .i64 file] w fun e w' => e = .returned (.int .i64 (max 0 ((file - files + 1) * blocks))) ∧ w' = w := by
  have hm : -(64 * 64) ≤ (file - files + 1) * blocks ∧ (file - files + 1) * blocks ≤ 4294967296 * 64 := by
    have a1 : -64 ≤ file - files + 1 := by omega
    have a2 : file - files + 1 ≤ 4294967296 := by omega
    constructor
    · have := Int.mul_le_mul_of_nonneg_right a1 h3
      have h64 : -64 * blocks ≥ -(64 * 64) := by omega
      omega
    · have := Int.mul_le_mul a2 h4 h3 (by omega)
      omega
  obtain ⟨hm1, hm2⟩ := hm
  have hw : IntKind.i64.wrap ((file - files + 1) * blocks) = (file - files + 1) * blocks := by rw [IntKind.wrap_i64]; omega
  go_enter Try.func43, Try.ntmps43
  go_wp2
  all_goals
    go_ret
    exact ⟨ret_int (by omega), rfl⟩
set_option maxHeartbeats 400000 in
theorem refFirst_any (files blocks n : Int) (w : World) :
    Calls Try.prog 23 #[.int .i64 files, .int .i64 blocks, .int .i64 n] w fun e w' => e = .returned (.tuple #[.int .i64 (rFirst files blocks n), .int .i64 (rcheck files blocks n)]) ∧ w' = w := by
  by_cases h : rcheck files blocks n = 0
  · obtain ⟨⟨h1, h2⟩, ⟨h3, h4⟩, h5, h6⟩ := rcheck_ok h
    have HC := Lib.hid h
    clear h
    by_cases hn : n = 0
    · subst hn
      go_enter Try.func23, Try.ntmps23
      go_wp2_with (go_at_call 42; refine (refCheck_any _ _ _ _).mono ?_; rw [HC.out]; rintro e w' ⟨rfl, rfl⟩)
      go_ret2
      exact ⟨by unfold rFirst; rw [HC.out, if_neg (by simp)]; rfl, rfl⟩
    · have hq : 0 ≤ (n - 1) / blocks ∧ (n - 1) / blocks ≤ 4294967295 := by
        have := Int.ediv_le_self blocks (by omega : 0 ≤ n - 1)
        exact ⟨Int.ediv_nonneg (by omega) (by omega), by omega⟩
      obtain ⟨hq0, hq1⟩ := hq
      have hn0 : (n == 0) = false := by simpa using hn
      have hn1 : 0 < n := by omega
      have HN := Lib.hid hn
      clear hn
      have f0 : 0 ≤ files := by omega
      have b0 : 0 ≤ blocks := by omega
      go_enter Try.func23, Try.ntmps23
      go_wp2_with (first | (go_at_call 42; refine (refCheck_any _ _ _ _).mono ?_; rw [HC.out]; rintro e w' ⟨rfl, rfl⟩) | (go_at_call 43; refine (refLeast_any _ _ _ _ f0 h2 b0 h4 hq0 hq1).mono ?_; rintro e w' ⟨rfl, rfl⟩))
      go_ret2
      exact ⟨by unfold rFirst; rw [HC.out, if_pos ⟨rfl, HN.out⟩]; rfl, rfl⟩
  · have hf : rFirst files blocks n = 0 := by unfold rFirst; rw [if_neg (by simp [h])]
    rw [hf]
    have hne : (rcheck files blocks n != 0) = true := by simpa using h
    revert hne
    generalize hr : rcheck files blocks n = r
    intro hne
    have HR := Lib.hid hr
    clear hr hf h
    go_enter Try.func23, Try.ntmps23
    go_wp2_with (go_at_call 42; refine (refCheck_any _ _ _ _).mono ?_; rw [HR.out]; rintro e w' ⟨rfl, rfl⟩)
    go_ret2
    exact ⟨rfl, rfl⟩
set_option maxHeartbeats 400000 in
theorem refSector_any (files blocks n : Int) (w : World) :
    Calls Try.prog 22 #[.int .i64 files, .int .i64 blocks, .int .i64 n] w fun e w' => e = .returned (.tuple #[.int .i64 (rSector files blocks n), .int .i64 (rcheck files blocks n)]) ∧ w' = w := by
  by_cases h : rcheck files blocks n = 0
  · obtain ⟨⟨h1, h2⟩, ⟨h3, h4⟩, h5, h6⟩ := rcheck_ok h
    have HC := Lib.hid h
    clear h
    obtain ⟨m1, m2⟩ := mul_span h1 h2 h3 h4
    have hz : ¬ files * blocks = 0 := by omega
    have hw : IntKind.i64.wrap (files * blocks) = files * blocks := by rw [IntKind.wrap_i64]; omega
    have ht : n.tmod (files * blocks) = n % (files * blocks) := Int.tmod_eq_emod_of_nonneg h5
    go_enter Try.func22, Try.ntmps22
    go_wp2_with (go_at_call 42; refine (refCheck_any _ _ _ _).mono ?_; rw [HC.out]; rintro e w' ⟨rfl, rfl⟩)
    go_ret2
    exact ⟨by unfold rSector; rw [HC.out, if_pos rfl]; rfl, rfl⟩
  · have hf : rSector files blocks n = 0 := by unfold rSector; rw [if_neg h]
    rw [hf]
    have hne : (rcheck files blocks n != 0) = true := by simpa using h
    revert hne
    generalize hr : rcheck files blocks n = r
    intro hne
    have HR := Lib.hid hr
    clear hr hf h
    go_enter Try.func22, Try.ntmps22
    go_wp2_with (go_at_call 42; refine (refCheck_any _ _ _ _).mono ?_; rw [HR.out]; rintro e w' ⟨rfl, rfl⟩)
    go_ret2
    exact ⟨rfl, rfl⟩

set_option maxHeartbeats 400000 in
theorem refBegins_any (blocks n : Int) (w : World) :
    Calls Try.prog 25 #[.int .i64 blocks, .int .i64 n] w fun e w' => e = .returned (.tuple #[.bool (rBegins blocks n), .int .i64 (rcheck 2 blocks n)]) ∧ w' = w := by
  by_cases h : rcheck 2 blocks n = 0
  · obtain ⟨⟨h1, h2⟩, ⟨h3, h4⟩, h5, h6⟩ := rcheck_ok h
    have HC := Lib.hid h
    clear h
    have ht : n.tmod blocks = n % blocks := Int.tmod_eq_emod_of_nonneg h5
    go_enter Try.func25, Try.ntmps25
    go_wp2_with (go_at_call 42; refine (refCheck_any _ _ _ _).mono ?_; rw [HC.out]; rintro e w' ⟨rfl, rfl⟩)
    go_ret2
    exact ⟨by unfold rBegins; rw [HC.out, if_pos rfl]; rfl, rfl⟩
  · have hf : rBegins blocks n = false := by unfold rBegins; rw [if_neg h]
    rw [hf]
    have hne : (rcheck 2 blocks n != 0) = true := by simpa using h
    revert hne
    generalize hr : rcheck 2 blocks n = r
    intro hne
    have HR := Lib.hid hr
    clear hr hf h
    go_enter Try.func25, Try.ntmps25
    go_wp2_with (go_at_call 42; refine (refCheck_any _ _ _ _).mono ?_; rw [HR.out]; rintro e w' ⟨rfl, rfl⟩)
    go_ret2
    exact ⟨rfl, rfl⟩

end Go.Proofs.Ytndfeihlmhhgpaa
