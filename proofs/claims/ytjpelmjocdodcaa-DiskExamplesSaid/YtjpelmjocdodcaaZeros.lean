/- sacristanref05.Zeros: what each call returns. -/
import Derived.Test.YtjpelmjocdodcaaFixed
namespace Go.Proofs.Ytjpelmjocdodcaa
open Go.RowKit

set_option maxHeartbeats 400000 in
theorem rzeros_any (k : Nat) (w : World) (hk : k ≤ 1000) :
    Calls Try.prog 92 #[.int .i64 k] w fun e w' => e = .returned (.string (S (List.replicate k 0))) ∧ Below w.heap.size w w' := by
  have hmk := run_make_row' (P := Try.prog) 83 5 (.int .u8 0) Try.underlying83 (bytes := 1) (by kernel_rfl) rfl .i64 .i64 k (by omega) (by omega)
  have hcv := run_convert_bytes_arg (P := Try.prog) (w.alloc (.cells (madeCells #[.int .u8 0] k) 5)) 83 5 Try.underlying83 Try.underlying5 w.heap.size 0 k k (numsOf (List.replicate k 0)) (by rw [numsOf_length, List.length_replicate])
    (fun j hj => by rw [Nat.zero_add, World.cell?_alloc_new]; simp [madeCells, numsOf, hj, List.getD_eq_getElem?_getD, Nat.mod_one]) 9 Try.underlying9
  rw [strOfNums_numsOf] at hcv
  go_enter Try.func92, Try.ntmps92
  go_wp2
  go_ret
  exact ⟨rfl, (Below.refl _ _).alloc (Nat.le_refl _) _⟩
end Go.Proofs.Ytjpelmjocdodcaa
