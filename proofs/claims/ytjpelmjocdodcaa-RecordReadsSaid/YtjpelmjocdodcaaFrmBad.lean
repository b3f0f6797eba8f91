/- frame.Encode of a frame that is not valid. -/
import Derived.Test.YtjpelmjocdodcaaFrm
namespace Go.Proofs.Ytjpelmjocdodcaa
open Go.RowKit

def fval (boot lsn part parts kind : Int) (d : List UInt8) : Value := .agg #[.int .i64 boot, .int .i64 lsn, .int .i64 part, .int .i64 parts, .int .u8 kind, .string (S d)]
/-- The fields of a frame that is valid. -/
def FOk (boot lsn part parts : Int) : Prop := 1 ≤ boot ∧ boot ≤ 4294967295 ∧ 1 ≤ lsn ∧ lsn ≤ 281474976710655 ∧ 1 ≤ parts ∧ parts ≤ 255 ∧ 0 ≤ part ∧ part < parts
instance (boot lsn part parts : Int) : Decidable (FOk boot lsn part parts) := by unfold FOk; infer_instance

set_option maxRecDepth 100000 in
set_option maxHeartbeats 1000000 in
theorem fEncode_long (boot lsn part parts kind : Int) (d : List UInt8) (w : World) (h : 44 < d.length) :
    Calls Try.prog 68 #[fval boot lsn part parts kind d] w fun e w' => e = .returned (.tuple #[.string ⟨#[]⟩, .int .i64 5]) ∧ Below w.heap.size w w' := by
  unfold fval
  go_enter Try.func68, Try.ntmps68
  go_wp2
  go_ret2
  exact ⟨rfl, (Below.refl _ _).alloc (Nat.le_refl _) _⟩

set_option maxRecDepth 100000 in
set_option maxHeartbeats 2000000 in
theorem fEncode_arg (boot lsn part parts kind : Int) (d : List UInt8) (w : World) (h : d.length ≤ 44) (bad : ¬ FOk boot lsn part parts) :
    Calls Try.prog 68 #[fval boot lsn part parts kind d] w fun e w' => e = .returned (.tuple #[.string ⟨#[]⟩, .int .i64 2]) ∧ Below w.heap.size w w' := by
  unfold fval
  unfold FOk at bad
  by_cases t1 : (decide ((1:Int) ≤ boot) && decide (boot ≤ 4294967295)) = true
  · by_cases t2 : (decide ((1:Int) ≤ lsn) && decide (lsn ≤ 281474976710655)) = true
    · by_cases t3 : (decide ((1:Int) ≤ parts) && decide (parts ≤ 255)) = true
      · obtain ⟨q, hq⟩ : ∃ q : Int, parts - 1 = q := ⟨_, rfl⟩
        have t4 : (decide ((0:Int) ≤ part) && decide (part ≤ q)) = false := by
          simp at t1 t2 t3
          rw [Bool.eq_false_iff]
          intro hc
          simp at hc
          omega
        have hw : IntKind.i64.wrap (parts - 1) = q := by
          simp at t3
          rw [IntKind.wrap_i64]
          omega
        clear bad hq
        go_enter Try.func68, Try.ntmps68
        go_wp2_with (go_at_call 85; refine (ffrom_any _ _ _ _).mono ?_; rintro e w' ⟨rfl, rfl⟩)
        go_ret2
        exact ⟨rfl, (Below.refl _ _).alloc (Nat.le_refl _) _⟩
      · rw [Bool.not_eq_true] at t3
        clear bad
        go_enter Try.func68, Try.ntmps68
        go_wp2_with (go_at_call 85; refine (ffrom_any _ _ _ _).mono ?_; rintro e w' ⟨rfl, rfl⟩)
        go_ret2
        exact ⟨rfl, (Below.refl _ _).alloc (Nat.le_refl _) _⟩
    · rw [Bool.not_eq_true] at t2
      clear bad
      go_enter Try.func68, Try.ntmps68
      go_wp2_with (go_at_call 85; refine (ffrom_any _ _ _ _).mono ?_; rintro e w' ⟨rfl, rfl⟩)
      go_ret2
      exact ⟨rfl, (Below.refl _ _).alloc (Nat.le_refl _) _⟩
  · rw [Bool.not_eq_true] at t1
    clear bad
    go_enter Try.func68, Try.ntmps68
    go_wp2_with (go_at_call 85; refine (ffrom_any _ _ _ _).mono ?_; rintro e w' ⟨rfl, rfl⟩)
    go_ret2
    exact ⟨rfl, (Below.refl _ _).alloc (Nat.le_refl _) _⟩
end Go.Proofs.Ytjpelmjocdodcaa
