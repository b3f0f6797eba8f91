/- sacristanlaw04.Sector: the sector of a seed. -/
import Derived.Test.YtjpelmjocdodcaaDiskPure
import Derived.Test.YtjpelmjocdodcaaFixed
import Derived.Test.YtjpelmjocdodcaaAddr
namespace Go.Proofs.Ytjpelmjocdodcaa
open Go.RowKit Go.ChangeMaps

def sectorOf (b : Nat) : List UInt8 := (List.range 80).map fun j => UInt8.ofNat (b + 7 * j)
theorem sectorOf_length (b : Nat) : (sectorOf b).length = 80 := by simp [sectorOf]
theorem sectorOf_get (b j : Nat) (h : j < 80) : (sectorOf b).getD j 0 = UInt8.ofNat (b + 7 * j) := by
  unfold sectorOf
  rw [List.getD_eq_getElem?_getD, List.getElem?_map, List.getElem?_range h]
  rfl
set_option maxRecDepth 100000 in
set_option maxHeartbeats 800000 in
theorem sector_any (b : Nat) (_hb : b < 256) (w : World) :
    Calls Try.prog 20 #[.int .u8 b] w fun e w' => e = .returned (.string (S (sectorOf b))) ∧ Below w.heap.size w w' := by
  have hmk0 := run_make_row' (P := Try.prog) 83 5 (.int .u8 0) Try.underlying83 (bytes := 1) (by kernel_rfl) rfl .i64 .i64 80 (by omega) (by omega) w
  obtain ⟨C, hC⟩ : ∃ C, madeCells #[.int .u8 0] 80 = C := ⟨_, rfl⟩
  have hCs : C.size = 80 := by rw [← hC]; simp [madeCells]
  rw [hC] at hmk0
  have hmk : (Instr.makeSlice 83 (.int .i64 80) (.int .i64 80)).run Try.prog w = .ok (.slice (some ⟨w.heap.size, 0, none⟩) 80 80) (w.alloc (.cells C 5)) := hmk0
  have HCS := Lib.hid hCs
  clear hmk0 hC hCs
  go_enter Try.func20, Try.ntmps20
  go_wp2_with (fail)
  go_loopw [4] (fun v4 wr => ∃ i : Nat, i ≤ 80 ∧ v4 = .int .i64 i ∧ ∃ A : Array Value, Hid (A.size = 80) ∧ Hid (∀ j, j < i → A[j]? = some (.int .u8 (UInt8.ofNat (b + 7 * j)).toNat)) ∧ wr = w.alloc (.cells A 5)) (fun v4 _ => 80 - (intOf v4).toNat)
  case atStart => exact ⟨0, Nat.zero_le _, rfl, C, HCS.out, fun j hj => absurd hj (by omega), rfl⟩
  case round =>
    obtain ⟨i, hi, rfl, A, hs, ha, rfl⟩ := hrel
    by_cases hlt : i < 80
    · obtain ⟨v0, hv⟩ : ∃ v, A[i]? = some v := ⟨A[i]'(by rw [hs.out]; exact hlt), Array.getElem?_eq_getElem (by rw [hs.out]; exact hlt)⟩
      have hv' : Hid (((UInt8.ofNat (b + 7 * i)).toNat : Int) = ((b : Int) + 7 * i) % 256) := by unfold Hid; rw [UInt8.toNat_ofNat']; omega
      go_wp2
      go_roundw
      case rel => exact ⟨i + 1, by omega, by go_num, _, by unfold Hid; rw [Array.size_setIfInBounds]; exact hs.out, fun j hj => by
        by_cases h : j = i
        · subst h; rw [Array.getElem?_setIfInBounds_self_of_lt (by rw [hs.out]; exact hlt), hv'.out]
        · rw [Array.getElem?_setIfInBounds_ne (by omega)]; exact ha.out j (by omega), rfl⟩
      case measure => simp [intOf]; omega
    · obtain rfl : i = 80 := by omega
      have hcv0 := run_convert_bytes_arg (P := Try.prog) (w.alloc (.cells A 5)) 83 5 Try.underlying83 Try.underlying5 w.heap.size 0 80 80 (numsOf (sectorOf b)) (by rw [numsOf_length, sectorOf_length])
        (fun j hj => by
          rw [Nat.zero_add, World.cell?_alloc_new, ha.out j hj, ← sectorOf_get b j hj]
          simp [numsOf, List.getD_eq_getElem?_getD, List.getElem?_map]
          cases (sectorOf b)[j]? <;> simp) 9 Try.underlying9
      rw [strOfNums_numsOf, S_mk] at hcv0
      have hcv := hcv0
      go_wp2
      go_ret
      exact ⟨rfl, (Below.refl _ _).alloc (Nat.le_refl _) _⟩
end Go.Proofs.Ytjpelmjocdodcaa
