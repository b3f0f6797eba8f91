/- ring.Sector, Begins; the reference's check, least, First, Sector, Begins. -/
import Derived.Test.YtjdmindpiaijcaaRingSmall
namespace Go.Proofs.Ytjdmindpiaijcaa
open Go.RowKit

theorem mul_span {files blocks : Int} (h1 : 2 ≤ files) (h2 : files ≤ 64) (h3 : 1 ≤ blocks) (h4 : blocks ≤ 64) : 1 ≤ files * blocks ∧ files * blocks ≤ 4096 := by
  constructor
  · have : 1 * 1 ≤ files * blocks := Int.mul_le_mul (by omega) h3 (by omega) (by omega)
    omega
  · have := Int.mul_le_mul h2 h4 (by omega) (by omega)
    omega

set_option maxHeartbeats 400000 in
theorem rSector_any (files blocks n : Int) (w : World) :
    Calls Try.prog 4 #[.int .i64 files, .int .i64 blocks, .int .i64 n] w fun e w' => e = .returned (.tuple #[.int .i64 (rSector files blocks n), .int .i64 (rcheck files blocks n)]) ∧ w' = w := by
  by_cases h : rcheck files blocks n = 0
  · obtain ⟨⟨h1, h2⟩, ⟨h3, h4⟩, h5, h6⟩ := rcheck_ok h
    have HC := Lib.hid h
    clear h
    obtain ⟨m1, m2⟩ := mul_span h1 h2 h3 h4
    have hz : ¬ files * blocks = 0 := by omega
    have hw : IntKind.i64.wrap (files * blocks) = files * blocks := by rw [IntKind.wrap_i64]; omega
    have ht : n.tmod (files * blocks) = n % (files * blocks) := Int.tmod_eq_emod_of_nonneg h5
    go_enter Try.func4, Try.ntmps4
    go_wp2_with (go_at_call 9; refine (rcheck_any _ _ _ _).mono ?_; rw [HC.out]; rintro e w' ⟨rfl, rfl⟩)
    go_ret2
    exact ⟨by unfold rSector; rw [HC.out, if_pos rfl]; rfl, rfl⟩
  · have hf : rSector files blocks n = 0 := by unfold rSector; rw [if_neg h]
    rw [hf]
    have hne : (rcheck files blocks n != 0) = true := by simpa using h
    revert hne
    generalize hr : rcheck files blocks n = r
    intro hne
    have HR := Lib.hid hr
    clear hr hf h
    go_enter Try.func4, Try.ntmps4
    go_wp2_with (go_at_call 9; refine (rcheck_any _ _ _ _).mono ?_; rw [HR.out]; rintro e w' ⟨rfl, rfl⟩)
    go_ret2
    exact ⟨rfl, rfl⟩

set_option maxHeartbeats 400000 in
theorem rBegins_any (blocks n : Int) (w : World) :
    Calls Try.prog 5 #[.int .i64 blocks, .int .i64 n] w fun e w' => e = .returned (.tuple #[.bool (rBegins blocks n), .int .i64 (rcheck 2 blocks n)]) ∧ w' = w := by
  by_cases h : rcheck 2 blocks n = 0
  · obtain ⟨⟨h1, h2⟩, ⟨h3, h4⟩, h5, h6⟩ := rcheck_ok h
    have HC := Lib.hid h
    clear h
    have ht : n.tmod blocks = n % blocks := Int.tmod_eq_emod_of_nonneg h5
    go_enter Try.func5, Try.ntmps5
    go_wp2_with (go_at_call 9; refine (rcheck_any _ _ _ _).mono ?_; rw [HC.out]; rintro e w' ⟨rfl, rfl⟩)
    go_ret2
    exact ⟨by unfold rBegins; rw [HC.out, if_pos rfl]; rfl, rfl⟩
  · have hf : rBegins blocks n = false := by unfold rBegins; rw [if_neg h]
    rw [hf]
    have hne : (rcheck 2 blocks n != 0) = true := by simpa using h
    revert hne
    generalize hr : rcheck 2 blocks n = r
    intro hne
    have HR := Lib.hid hr
    clear hr hf h
    go_enter Try.func5, Try.ntmps5
    go_wp2_with (go_at_call 9; refine (rcheck_any _ _ _ _).mono ?_; rw [HR.out]; rintro e w' ⟨rfl, rfl⟩)
    go_ret2
    exact ⟨rfl, rfl⟩




end Go.Proofs.Ytjdmindpiaijcaa
