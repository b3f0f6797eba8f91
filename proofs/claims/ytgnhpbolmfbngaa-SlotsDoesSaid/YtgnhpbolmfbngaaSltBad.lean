/- slots.Encode of a header that is not valid. -/
import Derived.Test.YtgnhpbolmfbngaaSlt
namespace Go.Proofs.Ytgnhpbolmfbngaa
open Go.RowKit

set_option maxRecDepth 100000 in
set_option maxHeartbeats 2000000 in
theorem sEncode_arg (seq boot area first snaps : Int) (w : World) (bad : ¬ HOk seq boot area first snaps) :
    Calls Try.prog 20 #[hval seq boot area first snaps] w fun e w' => e = .returned (.tuple #[.string ⟨#[]⟩, .int .i64 2]) ∧ Below w.heap.size w w' := by
  unfold hval
  unfold HOk at bad
  by_cases t1 : (decide ((1:Int) ≤ seq) && decide (seq ≤ 281474976710655)) = true
  · by_cases t2 : (decide ((1:Int) ≤ first) && decide (first ≤ 281474976710655)) = true
    · by_cases t3 : (decide ((1:Int) ≤ boot) && decide (boot ≤ 4294967295)) = true
      · by_cases t4 : (decide ((0:Int) ≤ area) && decide (area ≤ 1)) = true
        · have t5 : (decide ((0:Int) ≤ snaps) && decide (snaps ≤ 65535)) = false := by
            simp at t1 t2 t3 t4
            rw [Bool.eq_false_iff]
            intro hc
            simp at hc
            omega
          clear bad
          go_enter Try.func20, Try.ntmps20
          go_wp2_with (go_at_call 52; refine (sfrom_any _ _ _ _).mono ?_; rintro e w' ⟨rfl, rfl⟩)
          go_ret2
          exact ⟨rfl, (Below.refl _ _).alloc (Nat.le_refl _) _⟩
        · rw [Bool.not_eq_true] at t4
          clear bad
          go_enter Try.func20, Try.ntmps20
          go_wp2_with (go_at_call 52; refine (sfrom_any _ _ _ _).mono ?_; rintro e w' ⟨rfl, rfl⟩)
          go_ret2
          exact ⟨rfl, (Below.refl _ _).alloc (Nat.le_refl _) _⟩
      · rw [Bool.not_eq_true] at t3
        clear bad
        go_enter Try.func20, Try.ntmps20
        go_wp2_with (go_at_call 52; refine (sfrom_any _ _ _ _).mono ?_; rintro e w' ⟨rfl, rfl⟩)
        go_ret2
        exact ⟨rfl, (Below.refl _ _).alloc (Nat.le_refl _) _⟩
    · rw [Bool.not_eq_true] at t2
      clear bad
      go_enter Try.func20, Try.ntmps20
      go_wp2_with (go_at_call 52; refine (sfrom_any _ _ _ _).mono ?_; rintro e w' ⟨rfl, rfl⟩)
      go_ret2
      exact ⟨rfl, (Below.refl _ _).alloc (Nat.le_refl _) _⟩
  · rw [Bool.not_eq_true] at t1
    clear bad
    go_enter Try.func20, Try.ntmps20
    go_wp2_with (go_at_call 52; refine (sfrom_any _ _ _ _).mono ?_; rintro e w' ⟨rfl, rfl⟩)
    go_ret2
    exact ⟨rfl, (Below.refl _ _).alloc (Nat.le_refl _) _⟩
end Go.Proofs.Ytgnhpbolmfbngaa
