/- block.Encode of a block that is not valid. -/
import Derived.Test.YtgnhpbolmfbngaaBlock
namespace Go.Proofs.Ytgnhpbolmfbngaa
open Go.RowKit

def bval (life boot n off : Int) (d : List UInt8) : Value := .agg #[.int .i64 life, .int .i64 boot, .int .i64 n, .int .i64 off, .string (S d)]

set_option maxRecDepth 100000 in
set_option maxHeartbeats 1000000 in
theorem bEncode_long (life boot n off : Int) (d : List UInt8) (w : World) (h : 36 < d.length) :
    Calls Try.prog 17 #[bval life boot n off d] w fun e w' => e = .returned (.tuple #[.string ⟨#[]⟩, .int .i64 5]) ∧ Below w.heap.size w w' := by
  unfold bval
  go_enter Try.func17, Try.ntmps17
  go_wp2
  go_ret2
  exact ⟨rfl, (Below.refl _ _).alloc (Nat.le_refl _) _⟩

set_option maxRecDepth 100000 in
set_option maxHeartbeats 2000000 in
theorem bEncode_arg (life boot n off : Int) (d : List UInt8) (w : World) (h : d.length ≤ 36)
    (bad : ¬ (0 ≤ life ∧ life ≤ 4294967295 ∧ 0 ≤ n ∧ n ≤ 4294967295 ∧ 1 ≤ boot ∧ boot ≤ 4294967295 ∧ 0 ≤ off ∧ off ≤ 281474976710655 ∧ 1 ≤ d.length)) :
    Calls Try.prog 17 #[bval life boot n off d] w fun e w' => e = .returned (.tuple #[.string ⟨#[]⟩, .int .i64 2]) ∧ Below w.heap.size w w' := by
  unfold bval
  by_cases t1 : (decide ((0:Int) ≤ life) && decide (life ≤ 4294967295)) = true
  · by_cases t2 : (decide ((0:Int) ≤ n) && decide (n ≤ 4294967295)) = true
    · by_cases t3 : (decide ((1:Int) ≤ boot) && decide (boot ≤ 4294967295)) = true
      · by_cases t4 : (decide ((0:Int) ≤ off) && decide (off ≤ 281474976710655)) = true
        · have hd : d = [] := by
            simp at t1 t2 t3 t4
            cases d with
            | nil => rfl
            | cons x l => exact absurd ⟨t1.1, t1.2, t2.1, t2.2, t3.1, t3.2, t4.1, t4.2, by simp⟩ bad
          subst hd
          clear bad
          go_enter Try.func17, Try.ntmps17
          go_wp2_with (go_at_call 46; refine (bfrom_any _ _ _ _).mono ?_; rintro e w' ⟨rfl, rfl⟩)
          go_ret2
          exact ⟨rfl, (Below.refl _ _).alloc (Nat.le_refl _) _⟩
        · rw [Bool.not_eq_true] at t4
          clear bad
          go_enter Try.func17, Try.ntmps17
          go_wp2_with (go_at_call 46; refine (bfrom_any _ _ _ _).mono ?_; rintro e w' ⟨rfl, rfl⟩)
          go_ret2
          exact ⟨rfl, (Below.refl _ _).alloc (Nat.le_refl _) _⟩
      · rw [Bool.not_eq_true] at t3
        clear bad
        go_enter Try.func17, Try.ntmps17
        go_wp2_with (go_at_call 46; refine (bfrom_any _ _ _ _).mono ?_; rintro e w' ⟨rfl, rfl⟩)
        go_ret2
        exact ⟨rfl, (Below.refl _ _).alloc (Nat.le_refl _) _⟩
    · rw [Bool.not_eq_true] at t2
      clear bad
      go_enter Try.func17, Try.ntmps17
      go_wp2_with (go_at_call 46; refine (bfrom_any _ _ _ _).mono ?_; rintro e w' ⟨rfl, rfl⟩)
      go_ret2
      exact ⟨rfl, (Below.refl _ _).alloc (Nat.le_refl _) _⟩
  · rw [Bool.not_eq_true] at t1
    clear bad
    go_enter Try.func17, Try.ntmps17
    go_wp2_with (go_at_call 46; refine (bfrom_any _ _ _ _).mono ?_; rintro e w' ⟨rfl, rfl⟩)
    go_ret2
    exact ⟨rfl, (Below.refl _ _).alloc (Nat.le_refl _) _⟩
end Go.Proofs.Ytgnhpbolmfbngaa
