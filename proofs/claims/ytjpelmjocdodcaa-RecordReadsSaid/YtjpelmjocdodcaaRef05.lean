/- sacristanref05.Zeros, sacristanref05.Check: what each call returns. -/
import Derived.Test.YtjpelmjocdodcaaFrmBad
namespace Go.Proofs.Ytjpelmjocdodcaa
open Go.RowKit

set_option maxHeartbeats 400000 in
theorem rzeros_any (k : Nat) (w : World) (hk : k ≤ 1000) :
    Calls Try.prog 92 #[.int .i64 k] w fun e w' => e = .returned (.string (S (List.replicate k 0))) ∧ Below w.heap.size w w' := by
  have hmk := run_make_row' (P := Try.prog) 83 5 (.int .u8 0) Try.underlying83 (bytes := 1) (by kernel_rfl) rfl .i64 .i64 k (by omega) (by omega)
  have hcv := run_convert_bytes_arg (P := Try.prog) (w.alloc (.cells (madeCells #[.int .u8 0] k) 5)) 83 5 Try.underlying83 Try.underlying5 w.heap.size 0 k k (numsOf (List.replicate k 0)) (by rw [numsOf_length, List.length_replicate])
    (fun j hj => by rw [Nat.zero_add, World.cell?_alloc_new]; simp [madeCells, numsOf, hj, List.getD_eq_getElem?_getD, Nat.mod_one]) 9 Try.underlying9
  rw [strOfNums_numsOf] at hcv
  go_enter Try.func92, Try.ntmps92
  go_wp2
  go_ret
  exact ⟨rfl, (Below.refl _ _).alloc (Nat.le_refl _) _⟩

set_option maxRecDepth 100000 in
set_option maxHeartbeats 2000000 in
theorem fCheck_long (boot lsn part parts kind : Int) (d : List UInt8) (w : World) (h : 44 < d.length) :
    Calls Try.prog 89 #[fval boot lsn part parts kind d] w fun e w' => e = .returned (.int .i64 5) ∧ Below w.heap.size w w' := by
  unfold fval
  go_enter Try.func89, Try.ntmps89
  go_wp2
  go_ret
  exact ⟨rfl, (Below.refl _ _).alloc (Nat.le_refl _) _⟩
set_option maxRecDepth 100000 in
set_option maxHeartbeats 4000000 in
theorem fCheck_ok (boot lsn part parts kind : Int) (d : List UInt8) (w : World) (h : d.length ≤ 44) (ok : FOk boot lsn part parts) :
    Calls Try.prog 89 #[fval boot lsn part parts kind d] w fun e w' => e = .returned (.int .i64 0) ∧ Below w.heap.size w w' := by
  obtain ⟨h1, h2, h3, h4, h5, h6, h7, h8⟩ := ok
  unfold fval
  have g1 : ¬ boot < 1 := by omega
  have g2 : ¬ 4294967296 ≤ boot := by omega
  have g3 : ¬ lsn < 1 := by omega
  have g4 : ¬ 281474976710656 ≤ lsn := by omega
  have g5 : ¬ parts < 1 := by omega
  have g6 : ¬ 255 < parts := by omega
  have g7 : ¬ part < 0 := by omega
  have g8 : ¬ parts ≤ part := by omega
  go_enter Try.func89, Try.ntmps89
  go_wp2
  go_ret
  exact ⟨rfl, (Below.refl _ _).alloc (Nat.le_refl _) _⟩
set_option maxRecDepth 100000 in
set_option maxHeartbeats 8000000 in
theorem fCheck_arg (boot lsn part parts kind : Int) (d : List UInt8) (w : World) (h : d.length ≤ 44) (bad : ¬ FOk boot lsn part parts) :
    Calls Try.prog 89 #[fval boot lsn part parts kind d] w fun e w' => e = .returned (.int .i64 2) ∧ Below w.heap.size w w' := by
  have h44 : ¬ (44 : Int) < (d.length : Int) := by omega
  unfold fval
  by_cases g1 : boot < 1
  · clear bad
    go_enter Try.func89, Try.ntmps89
    go_wp2
    go_ret
    exact ⟨rfl, (Below.refl _ _).alloc (Nat.le_refl _) _⟩
  by_cases g2 : 4294967296 ≤ boot
  · clear bad
    go_enter Try.func89, Try.ntmps89
    go_wp2
    go_ret
    exact ⟨rfl, (Below.refl _ _).alloc (Nat.le_refl _) _⟩
  by_cases g3 : lsn < 1
  · clear bad
    go_enter Try.func89, Try.ntmps89
    go_wp2
    go_ret
    exact ⟨rfl, (Below.refl _ _).alloc (Nat.le_refl _) _⟩
  by_cases g4 : 281474976710656 ≤ lsn
  · clear bad
    go_enter Try.func89, Try.ntmps89
    go_wp2
    go_ret
    exact ⟨rfl, (Below.refl _ _).alloc (Nat.le_refl _) _⟩
  by_cases g5 : parts < 1
  · clear bad
    go_enter Try.func89, Try.ntmps89
    go_wp2
    go_ret
    exact ⟨rfl, (Below.refl _ _).alloc (Nat.le_refl _) _⟩
  by_cases g6 : 255 < parts
  · clear bad
    go_enter Try.func89, Try.ntmps89
    go_wp2
    go_ret
    exact ⟨rfl, (Below.refl _ _).alloc (Nat.le_refl _) _⟩
  by_cases g7 : part < 0
  · clear bad
    go_enter Try.func89, Try.ntmps89
    go_wp2
    go_ret
    exact ⟨rfl, (Below.refl _ _).alloc (Nat.le_refl _) _⟩
  have g8 : parts ≤ part := by
    unfold FOk at bad
    omega
  clear bad
  go_enter Try.func89, Try.ntmps89
  go_wp2
  go_ret
  exact ⟨rfl, (Below.refl _ _).alloc (Nat.le_refl _) _⟩
end Go.Proofs.Ytjpelmjocdodcaa
