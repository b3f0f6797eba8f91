/- sacristanlaw24.many: n bytes. -/
import Derived.Test.YtgnhpbolmfbngaaGBOne
import Derived.Test.YtgnhpbolmfbngaaWf
namespace Go.Proofs.Ytgnhpbolmfbngaa
open Go.RowKit

set_option maxHeartbeats 400000 in
theorem many_any (c : UInt8) (n : Nat) (w : World) (hn : n ≤ 1000) :
    Calls Try.prog 16 #[.int .u8 c.toNat, .int .i64 n] w fun e w' => e = .returned (.string (S (List.replicate n c))) ∧ Below w.heap.size w w' := by
  have hmk := run_make_row' (P := Try.prog) 54 5 (.int .u8 0) Try.underlying54 (bytes := 1) (by kernel_rfl) rfl .i64 .i64 n (by omega) (by omega)
  go_enter Try.func16, Try.ntmps16
  go_wp2
  go_loopw [6] (fun v6 wr => ∃ i : Nat, i ≤ n ∧ v6 = .int .i64 i ∧ ∃ A : Array Value, Hid (A.size = n) ∧ Hid (∀ j, j < i → A[j]? = some (.int .u8 c.toNat)) ∧ wr = w.alloc (.cells A 5)) (fun v6 _ => n - (intOf v6).toNat)
  case atStart => exact ⟨0, Nat.zero_le _, rfl, _, by unfold Hid; simp [madeCells], fun j hj => absurd hj (by omega), rfl⟩
  case round =>
    obtain ⟨i, hi, rfl, A, hs, ha, rfl⟩ := hrel
    by_cases hlt : i < n
    · obtain ⟨v0, hv⟩ : ∃ v, A[i]? = some v := ⟨A[i]'(by rw [hs.out]; exact hlt), Array.getElem?_eq_getElem (by rw [hs.out]; exact hlt)⟩
      go_wp2
      go_roundw
      case rel => exact ⟨i + 1, by omega, by go_num, _, by unfold Hid; rw [Array.size_setIfInBounds]; exact hs.out, fun j hj => by
        by_cases h : j = i
        · subst h; rw [Array.getElem?_setIfInBounds_self_of_lt (by rw [hs.out]; exact hlt)]
        · rw [Array.getElem?_setIfInBounds_ne (by omega)]; exact ha.out j (by omega), rfl⟩
      case measure => simp [intOf]; omega
    · obtain rfl : i = n := by omega
      have hcv := run_convert_bytes_arg (P := Try.prog) (w.alloc (.cells A 5)) 54 5 Try.underlying54 Try.underlying5 w.heap.size 0 i i (numsOf (List.replicate i c)) (by rw [numsOf_length, List.length_replicate])
        (fun j hj => by
          rw [Nat.zero_add, World.cell?_alloc_new]
          rw [ha.out j hj]; simp [numsOf, hj, List.getD_eq_getElem?_getD]) 9 Try.underlying9
      rw [strOfNums_numsOf] at hcv
      go_wp2
      go_ret
      exact ⟨rfl, (Below.refl _ _).alloc (Nat.le_refl _) _⟩
end Go.Proofs.Ytgnhpbolmfbngaa
