/- A disk that is nil, and a copy without a fuse. Many. -/
import Derived.Test.YtjpelmjocdodcaaBothSame
import Derived.Test.YtjpelmjocdodcaaSector
namespace Go.Proofs.Ytjpelmjocdodcaa
open Go.RowKit Go.ChangeMaps

set_option maxRecDepth 100000 in
set_option maxHeartbeats 1000000 in
theorem dsetfull_nil (b : Bool) (w : World) :
    Calls Try.prog 33 #[.pointer none, .bool b] w fun e w' => e = .returned (.tuple #[]) ∧ w' = w := by
  go_enter Try.func33, Try.ntmps33
  go_wp2
  go_end0
  exact ⟨rfl, rfl⟩
set_option maxRecDepth 100000 in
set_option maxHeartbeats 2000000 in
theorem dread_nil (i : Int) (w : World) :
    Calls Try.prog 22 #[.pointer none, .int .i64 i] w fun e w' => e = .returned (.tuple #[.string ⟨#[]⟩, .int .i64 1]) ∧ Below w.heap.size w w' := by
  obtain ⟨n0, n1, n2, n3, n4⟩ := three_new w (.cells #[.int .i64 i] 3) (.cells #[.string ⟨#[]⟩] 9) (.cells #[.int .i64 0] 30)
  go_enter Try.func22, Try.ntmps22
  go_wp2_with (fail)
  generalize ((w.alloc (.cells #[.int .i64 i] 3)).alloc (.cells #[.string ⟨#[]⟩] 9)).alloc (.cells #[.int .i64 0] 30) = W at n0 n1 n2 n3 n4 ⊢
  have c1 : W.cell? ⟨w.heap.size + 1, 0, none⟩ = some (.string ⟨#[]⟩) := (cell_of n1 0).trans rfl
  have c2 : W.cell? ⟨w.heap.size + 1 + 1, 0, none⟩ = some (.int .i64 0) := (cell_of n2 0).trans rfl
  have f1 := free_of n1 0
  have f2 := free_of n2 0
  have N4 := Lib.hid n4
  clear n0 n1 n2 n3 n4
  refine (dhas_nil i W).mono ?_
  rintro e w' ⟨rfl, rfl⟩
  go_wp2
  have x1 : ((w'.setCell ⟨w.heap.size + 1, 0, none⟩ (.string ⟨#[]⟩)).setCell ⟨w.heap.size + 1 + 1, 0, none⟩ (.int .i64 1)).cell? ⟨w.heap.size + 1, 0, none⟩ = some (.string ⟨#[]⟩) := by go_simp
  have x2 : ((w'.setCell ⟨w.heap.size + 1, 0, none⟩ (.string ⟨#[]⟩)).setCell ⟨w.heap.size + 1 + 1, 0, none⟩ (.int .i64 1)).cell? ⟨w.heap.size + 1 + 1, 0, none⟩ = some (.int .i64 1) := by go_simp
  refine bodyPost_ret (results_cells2 rfl _ _ _ _ (.string ⟨#[]⟩) (.int .i64 1) rfl rfl (by simp [loadVar, go_sem, x1]) (by simp [loadVar, go_sem, x2])) rfl ?_
  exact ⟨rfl, (N4.out.setCell (by simp) _).setCell (by simp; omega) _⟩
set_option maxRecDepth 100000 in
set_option maxHeartbeats 1000000 in
theorem dwrite_nil (i : Int) (s : ByteArray) (w : World) :
    Calls Try.prog 19 #[.pointer none, .int .i64 i, .string s] w fun e w' => e = .returned (.int .i64 1) ∧ w' = w := by
  go_enter Try.func19, Try.ntmps19
  go_wp2_with (go_at_call 50; refine (dhas_nil _ _).mono ?_; rintro e w' ⟨rfl, rfl⟩)
  go_ret
  exact ⟨rfl, rfl⟩
set_option maxRecDepth 100000 in
set_option maxHeartbeats 1000000 in
theorem dsync_nil (w : World) :
    Calls Try.prog 26 #[.pointer none] w fun e w' => e = .returned (.int .i64 1) ∧ w' = w := by
  go_enter Try.func26, Try.ntmps26
  go_wp2
  go_ret
  exact ⟨rfl, rfl⟩
set_option maxRecDepth 100000 in
set_option maxHeartbeats 1000000 in
theorem ddurable_nil (i : Int) (w : World) :
    Calls Try.prog 21 #[.pointer none, .int .i64 i] w fun e w' => e = .returned (.string ⟨#[]⟩) ∧ w' = w := by
  go_enter Try.func21, Try.ntmps21
  go_wp2_with (go_at_call 50; refine (dhas_nil _ _).mono ?_; rintro e w' ⟨rfl, rfl⟩)
  go_ret
  exact ⟨rfl, rfl⟩
set_option maxRecDepth 100000 in
set_option maxHeartbeats 1000000 in
theorem dsectors_nil (w : World) :
    Calls Try.prog 35 #[.pointer none] w fun e w' => e = .returned (.int .i64 0) ∧ w' = w := by
  go_enter Try.func35, Try.ntmps35
  go_wp2
  go_ret
  exact ⟨rfl, rfl⟩
set_option maxRecDepth 100000 in
set_option maxHeartbeats 1000000 in
theorem dpending_nil (w : World) :
    Calls Try.prog 18 #[.pointer none] w fun e w' => e = .returned (.slice none 0 0) ∧ w' = w := by
  go_enter Try.func18, Try.ntmps18
  go_wp2
  go_ret
  exact ⟨rfl, rfl⟩
set_option maxRecDepth 100000 in
set_option maxHeartbeats 1000000 in
theorem dfull_nil (w : World) :
    Calls Try.prog 34 #[.pointer none] w fun e w' => e = .returned (.bool false) ∧ w' = w := by
  go_enter Try.func34, Try.ntmps34
  go_wp2
  go_ret
  exact ⟨rfl, rfl⟩
set_option maxRecDepth 100000 in
set_option maxHeartbeats 1000000 in
theorem dcopy_nil (f : Option Addr) (w : World) :
    Calls Try.prog 31 #[.pointer none, .pointer f] w fun e w' => e = .returned (.pointer none) ∧ w' = w := by
  go_enter Try.func31, Try.ntmps31
  go_wp2
  go_ret
  exact ⟨rfl, rfl⟩
set_option maxRecDepth 100000 in
set_option maxHeartbeats 1000000 in
theorem dcopy_nofuse (d : Addr) (w : World) :
    Calls Try.prog 31 #[.pointer (some d), .pointer none] w fun e w' => e = .returned (.pointer none) ∧ w' = w := by
  go_enter Try.func31, Try.ntmps31
  go_wp2
  go_ret
  exact ⟨rfl, rfl⟩
set_option maxRecDepth 100000 in
set_option maxHeartbeats 1000000 in
theorem dnew_nofuse (w : World) :
    Calls Try.prog 24 #[.int .i64 1, .pointer none] w fun e w' => e = .returned (.tuple #[.pointer none, .int .i64 1]) ∧ w' = w := by
  go_enter Try.func24, Try.ntmps24
  go_wp2
  go_ret2
  exact ⟨rfl, rfl⟩
set_option maxRecDepth 100000 in
set_option maxHeartbeats 1000000 in
theorem dnew_most (w : World) :
    Calls Try.prog 24 #[.int .i64 65537, .pointer none] w fun e w' => e = .returned (.tuple #[.pointer none, .int .i64 3]) ∧ w' = w := by
  go_enter Try.func24, Try.ntmps24
  go_wp2
  go_ret2
  exact ⟨rfl, rfl⟩
set_option maxRecDepth 100000 in
set_option maxHeartbeats 1000000 in
theorem dcrash_nil (keep torn bytes : Int) (w : World) :
    Calls Try.prog 23 #[.pointer none, .agg #[.int .u64 keep, .int .i64 torn, .int .i64 bytes]] w fun e w' => e = .returned (.tuple #[]) ∧ Below w.heap.size w w' := by
  have b1 := Lib.hid (alloc_below w (.cells #[.int .u64 keep, .int .i64 torn, .int .i64 bytes] 39))
  go_enter Try.func23, Try.ntmps23
  go_wp2
  refine bodyPost_ret (results_none rfl _ _ _) rfl ?_
  exact ⟨rfl, b1.out⟩
set_option maxHeartbeats 400000 in
theorem manyd_any (c : UInt8) (n : Nat) (w : World) (hn : n ≤ 100000) :
    Calls Try.prog 28 #[.int .u8 c.toNat, .int .i64 n] w fun e w' => e = .returned (.string (S (List.replicate n c))) ∧ Below w.heap.size w w' := by
  have hmk := run_make_row' (P := Try.prog) 83 5 (.int .u8 0) Try.underlying83 (bytes := 1) (by kernel_rfl) rfl .i64 .i64 n (by omega) (by omega)
  go_enter Try.func28, Try.ntmps28
  go_wp2
  go_loopw [6] (fun v6 wr => ∃ i : Nat, i ≤ n ∧ v6 = .int .i64 i ∧ ∃ A : Array Value, Hid (A.size = n) ∧ Hid (∀ j, j < i → A[j]? = some (.int .u8 c.toNat)) ∧ wr = w.alloc (.cells A 5)) (fun v6 _ => n - (intOf v6).toNat)
  case atStart => exact ⟨0, Nat.zero_le _, rfl, _, by unfold Hid; simp [madeCells], fun j hj => absurd hj (by omega), rfl⟩
  case round =>
    obtain ⟨i, hi, rfl, A, hs, ha, rfl⟩ := hrel
    by_cases hlt : i < n
    · obtain ⟨v0, hv⟩ : ∃ v, A[i]? = some v := ⟨A[i]'(by rw [hs.out]; exact hlt), Array.getElem?_eq_getElem (by rw [hs.out]; exact hlt)⟩
      go_wp2
      go_roundw
      case rel => exact ⟨i + 1, by omega, by go_num, _, by unfold Hid; rw [Array.size_setIfInBounds]; exact hs.out, fun j hj => by
        by_cases h : j = i
        · subst h; rw [Array.getElem?_setIfInBounds_self_of_lt (by rw [hs.out]; exact hlt)]
        · rw [Array.getElem?_setIfInBounds_ne (by omega)]; exact ha.out j (by omega), rfl⟩
      case measure => simp [intOf]; omega
    · obtain rfl : i = n := by omega
      have hcv := run_convert_bytes_arg (P := Try.prog) (w.alloc (.cells A 5)) 83 5 Try.underlying83 Try.underlying5 w.heap.size 0 i i (numsOf (List.replicate i c)) (by rw [numsOf_length, List.length_replicate])
        (fun j hj => by
          rw [Nat.zero_add, World.cell?_alloc_new]
          rw [ha.out j hj]; simp [numsOf, hj, List.getD_eq_getElem?_getD]) 9 Try.underlying9
      rw [strOfNums_numsOf] at hcv
      go_wp2
      go_ret
      exact ⟨rfl, (Below.refl _ _).alloc (Nat.le_refl _) _⟩
end Go.Proofs.Ytjpelmjocdodcaa
