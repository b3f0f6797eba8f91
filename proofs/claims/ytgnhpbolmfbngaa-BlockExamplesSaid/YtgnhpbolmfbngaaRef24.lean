/- sacristanref05.Zeros, sacristanref24.Check: what each call returns. -/
import Derived.Test.YtgnhpbolmfbngaaBlockBad
namespace Go.Proofs.Ytgnhpbolmfbngaa
open Go.RowKit

set_option maxHeartbeats 400000 in
theorem zeros_any (k : Nat) (w : World) (hk : k ≤ 1000) :
    Calls Try.prog 56 #[.int .i64 k] w fun e w' => e = .returned (.string (S (List.replicate k 0))) ∧ Below w.heap.size w w' := by
  have hmk := run_make_row' (P := Try.prog) 54 5 (.int .u8 0) Try.underlying54 (bytes := 1) (by kernel_rfl) rfl .i64 .i64 k (by omega) (by omega)
  have hcv := run_convert_bytes_arg (P := Try.prog) (w.alloc (.cells (madeCells #[.int .u8 0] k) 5)) 54 5 Try.underlying54 Try.underlying5 w.heap.size 0 k k (numsOf (List.replicate k 0)) (by rw [numsOf_length, List.length_replicate])
    (fun j hj => by rw [Nat.zero_add, World.cell?_alloc_new]; simp [madeCells, numsOf, hj, List.getD_eq_getElem?_getD, Nat.mod_one]) 9 Try.underlying9
  rw [strOfNums_numsOf] at hcv
  go_enter Try.func56, Try.ntmps56
  go_wp2
  go_ret
  exact ⟨rfl, (Below.refl _ _).alloc (Nat.le_refl _) _⟩

/-- The fields of a block that is valid. -/
def BOk (life boot n off : Int) (d : List UInt8) : Prop := 0 ≤ life ∧ life ≤ 4294967295 ∧ 0 ≤ n ∧ n ≤ 4294967295 ∧ 1 ≤ boot ∧ boot ≤ 4294967295 ∧ 0 ≤ off ∧ off ≤ 281474976710655 ∧ 1 ≤ d.length
set_option maxRecDepth 100000 in
set_option maxHeartbeats 2000000 in
theorem rCheck_long (life boot n off : Int) (d : List UInt8) (w : World) (h : 36 < d.length) :
    Calls Try.prog 45 #[bval life boot n off d] w fun e w' => e = .returned (.int .i64 5) ∧ Below w.heap.size w w' := by
  unfold bval
  go_enter Try.func45, Try.ntmps45
  go_wp2
  go_ret
  exact ⟨rfl, (Below.refl _ _).alloc (Nat.le_refl _) _⟩
set_option maxRecDepth 100000 in
set_option maxHeartbeats 4000000 in
theorem rCheck_ok (life boot n off : Int) (d : List UInt8) (w : World) (h : d.length ≤ 36) (ok : BOk life boot n off d) :
    Calls Try.prog 45 #[bval life boot n off d] w fun e w' => e = .returned (.int .i64 0) ∧ Below w.heap.size w w' := by
  obtain ⟨h1, h2, h3, h4, h5, h6, h7, h8, h9⟩ := ok
  unfold bval
  have g1 : ¬ life < 0 := by omega
  have g2 : ¬ 4294967296 ≤ life := by omega
  have g3 : ¬ n < 0 := by omega
  have g4 : ¬ 4294967296 ≤ n := by omega
  have g5 : ¬ boot < 1 := by omega
  have g6 : ¬ 4294967296 ≤ boot := by omega
  have g7 : ¬ off < 0 := by omega
  have g8 : ¬ 281474976710656 ≤ off := by omega
  have g9 : ((d.length : Int) == 0) = false := by rw [beq_eq_false_iff_ne]; omega
  go_enter Try.func45, Try.ntmps45
  go_wp2
  go_ret
  exact ⟨rfl, (Below.refl _ _).alloc (Nat.le_refl _) _⟩
set_option maxRecDepth 100000 in
set_option maxHeartbeats 8000000 in
theorem rCheck_arg (life boot n off : Int) (d : List UInt8) (w : World) (h : d.length ≤ 36) (bad : ¬ BOk life boot n off d) :
    Calls Try.prog 45 #[bval life boot n off d] w fun e w' => e = .returned (.int .i64 2) ∧ Below w.heap.size w w' := by
  have h36 : ¬ (36 : Int) < (d.length : Int) := by omega
  unfold bval
  by_cases g1 : life < 0
  · clear bad
    go_enter Try.func45, Try.ntmps45
    go_wp2
    go_ret
    exact ⟨rfl, (Below.refl _ _).alloc (Nat.le_refl _) _⟩
  by_cases g2 : 4294967296 ≤ life
  · clear bad
    go_enter Try.func45, Try.ntmps45
    go_wp2
    go_ret
    exact ⟨rfl, (Below.refl _ _).alloc (Nat.le_refl _) _⟩
  by_cases g3 : n < 0
  · clear bad
    go_enter Try.func45, Try.ntmps45
    go_wp2
    go_ret
    exact ⟨rfl, (Below.refl _ _).alloc (Nat.le_refl _) _⟩
  by_cases g4 : 4294967296 ≤ n
  · clear bad
    go_enter Try.func45, Try.ntmps45
    go_wp2
    go_ret
    exact ⟨rfl, (Below.refl _ _).alloc (Nat.le_refl _) _⟩
  by_cases g5 : boot < 1
  · clear bad
    go_enter Try.func45, Try.ntmps45
    go_wp2
    go_ret
    exact ⟨rfl, (Below.refl _ _).alloc (Nat.le_refl _) _⟩
  by_cases g6 : 4294967296 ≤ boot
  · clear bad
    go_enter Try.func45, Try.ntmps45
    go_wp2
    go_ret
    exact ⟨rfl, (Below.refl _ _).alloc (Nat.le_refl _) _⟩
  by_cases g7 : off < 0
  · clear bad
    go_enter Try.func45, Try.ntmps45
    go_wp2
    go_ret
    exact ⟨rfl, (Below.refl _ _).alloc (Nat.le_refl _) _⟩
  by_cases g8 : 281474976710656 ≤ off
  · clear bad
    go_enter Try.func45, Try.ntmps45
    go_wp2
    go_ret
    exact ⟨rfl, (Below.refl _ _).alloc (Nat.le_refl _) _⟩
  · have g9 : ((d.length : Int) == 0) = true := by
      rw [beq_iff_eq]
      unfold BOk at bad
      omega
    clear bad
    go_enter Try.func45, Try.ntmps45
    go_wp2
    go_ret
    exact ⟨rfl, (Below.refl _ _).alloc (Nat.le_refl _) _⟩
end Go.Proofs.Ytgnhpbolmfbngaa
