/- sacristanlaw04.Many: n bytes. RecordExamples: the plain part. -/
import Derived.Test.YtjpelmjocdodcaaSector
import Derived.Test.YtjpelmjocdodcaaRecBack
namespace Go.Proofs.Ytjpelmjocdodcaa
open Go.RowKit

set_option maxHeartbeats 400000 in
theorem many_any (c : UInt8) (n : Nat) (w : World) (hn : n ≤ 100000) :
    Calls Try.prog 28 #[.int .u8 c.toNat, .int .i64 n] w fun e w' => e = .returned (.string (S (List.replicate n c))) ∧ Below w.heap.size w w' := by
  have hmk := run_make_row' (P := Try.prog) 83 5 (.int .u8 0) Try.underlying83 (bytes := 1) (by kernel_rfl) rfl .i64 .i64 n (by omega) (by omega)
  go_enter Try.func28, Try.ntmps28
  go_wp2
  go_loopw [6] (fun v6 wr => ∃ i : Nat, i ≤ n ∧ v6 = .int .i64 i ∧ ∃ A : Array Value, Hid (A.size = n) ∧ Hid (∀ j, j < i → A[j]? = some (.int .u8 c.toNat)) ∧ wr = w.alloc (.cells A 5)) (fun v6 _ => n - (intOf v6).toNat)
  case atStart => exact ⟨0, Nat.zero_le _, rfl, _, by unfold Hid; simp [madeCells], fun j hj => absurd hj (by omega), rfl⟩
  case round =>
    obtain ⟨i, hi, rfl, A, hs, ha, rfl⟩ := hrel
    by_cases hlt : i < n
    · obtain ⟨v0, hv⟩ : ∃ v, A[i]? = some v := ⟨A[i]'(by rw [hs.out]; exact hlt), Array.getElem?_eq_getElem (by rw [hs.out]; exact hlt)⟩
      go_wp2
      go_roundw
      case rel => exact ⟨i + 1, by omega, by go_num, _, by unfold Hid; rw [Array.size_setIfInBounds]; exact hs.out, fun j hj => by
        by_cases h : j = i
        · subst h; rw [Array.getElem?_setIfInBounds_self_of_lt (by rw [hs.out]; exact hlt)]
        · rw [Array.getElem?_setIfInBounds_ne (by omega)]; exact ha.out j (by omega), rfl⟩
      case measure => simp [intOf]; omega
    · obtain rfl : i = n := by omega
      have hcv := run_convert_bytes_arg (P := Try.prog) (w.alloc (.cells A 5)) 83 5 Try.underlying83 Try.underlying5 w.heap.size 0 i i (numsOf (List.replicate i c)) (by rw [numsOf_length, List.length_replicate])
        (fun j hj => by
          rw [Nat.zero_add, World.cell?_alloc_new]
          rw [ha.out j hj]; simp [numsOf, hj, List.getD_eq_getElem?_getD]) 9 Try.underlying9
      rw [strOfNums_numsOf] at hcv
      go_wp2
      go_ret
      exact ⟨rfl, (Below.refl _ _).alloc (Nat.le_refl _) _⟩
end Go.Proofs.Ytjpelmjocdodcaa
namespace Go.Proofs.Ytjpelmjocdodcaa
open Go.RowKit

def xdata : List UInt8 := List.replicate 50 120
def xs0 : List UInt8 := (recF 1 5 2 xdata 0).sec
def xs1 : List UInt8 := (recF 1 5 2 xdata 1).sec
theorem x_ok : ROk 1 5 := by unfold ROk; decide
theorem x_len : xdata.length = 50 := List.length_replicate
theorem x_secs : recSecs 1 5 2 xdata = ([xs0, xs1], 0) := by
  rw [recSecs_ok (by rw [x_len]; decide) x_ok]
  rfl
theorem x_bad : recSecs 0 5 2 xdata = ([], 2) := recSecs_bad (by rw [x_len]; decide) (by unfold ROk; decide)
theorem x_long : recSecs 0 5 2 (List.replicate 4097 120) = ([], 5) := recSecs_long (by rw [List.length_replicate]; decide)
theorem xs0_len : xs0.length = 80 := (recF 1 5 2 xdata 0).sec_length (rpiece_le _ _)
theorem xs1_len : xs1.length = 80 := (recF 1 5 2 xdata 1).sec_length (rpiece_le _ _)
def xD : Dk := ((Dk.new 10).write 3 xs0).write 4 xs1
theorem x_np : npart xdata.length = 2 := by rw [x_len]; rfl
theorem xD_at : RAt xD.read 3 1 5 2 xdata := fun k hk => by
  rw [x_np] at hk
  unfold xD
  rcases k with _ | _ | k
  · rw [write_read, if_neg (by omega), write_read, if_pos rfl]; rfl
  · rw [write_read, if_pos rfl]; rfl
  · omega
theorem xE {a c : Int} (h1 : 0 ≤ a) (h2 : a ≤ c) (h3 : c ≤ 10) : readE xD .idle a c = 0 := by
  have h : (xD.S.length : Int) = 10 := rfl
  unfold readE
  rw [if_neg (by omega), if_neg (by decide)]
theorem xE3 {a c : Int} (h : a < 0 ∨ c < a ∨ 10 < c) : readE xD .idle a c = 3 := by
  have hl : (xD.S.length : Int) = 10 := rfl
  unfold readE
  rw [if_pos (by omega)]
theorem x_found {c b : Int} (h1 : 5 ≤ c) (h2 : c ≤ 10) (hb : b ≤ 1) : readVal xD .idle 3 c 5 b = .tuple #[.agg #[.int .i64 1, .int .i64 5, .int .i64 0, .int .i64 2, .int .u8 2, .string (S xdata)], .int .i64 0] := by
  unfold readVal
  rw [if_pos (xE (by omega) (by omega) h2), show ((3 : Int).toNat) = 3 from rfl, xD_at.found (by decide) (by rw [x_len]; decide) x_ok (by rw [x_np]; omega) hb]
  show Value.tuple #[(rfound 1 5 2 xdata).val, .int .i64 0] = _
  rw [rfound_val (by decide) x_ok, x_np]
  rfl
theorem x_none {a c l b : Int} (h0 : 0 ≤ a) (h1 : a ≤ c) (h2 : c ≤ 10) (hr : recRead xD.read a.toNat c.toNat l b = none) : readVal xD .idle a c l b = .tuple #[zfrm, .int .i64 12] := by
  unfold readVal
  rw [if_pos (xE h0 h1 h2), hr]
  rfl
theorem x_range {a c l b : Int} (h : a < 0 ∨ c < a ∨ 10 < c) : readVal xD .idle a c l b = .tuple #[zfrm, .int .i64 3] := by
  unfold readVal
  rw [xE3 h, if_neg (by decide)]
theorem x_at0 : xD.read 3 = (recF 1 5 2 xdata 0).sec := xD_at 0 (by rw [x_np]; decide)
theorem x_at1 : xD.read 4 = (recF 1 5 2 xdata 1).sec := xD_at 1 (by rw [x_np]; decide)
theorem x_dead {l b : Int} : readVal xD .blown 3 5 l b = .tuple #[zfrm, .int .i64 10] := by
  have hl : (xD.S.length : Int) = 10 := rfl
  have h : readE xD .blown 3 5 = 10 := by
    unfold readE
    rw [if_neg (by omega)]
    rfl
  unfold readVal
  rw [h, if_neg (by decide)]
/-- The reads of the table. -/
def XRow (a c l b e : Int) : Prop := readVal xD .idle a c l b = .tuple #[zfrm, .int .i64 e]
theorem x0 : XRow 3 4 5 1 12 := x_none (by decide) (by decide) (by decide) (RAt.not x_at0 (by rw [x_np]; decide) (by decide) (by rw [x_len]; decide) x_ok (by rw [x_np]; decide))
theorem x1 : XRow 4 5 5 1 12 := x_none (by decide) (by decide) (by decide) (RAt.not x_at1 (by rw [x_np]; decide) (by decide) (by rw [x_len]; decide) x_ok (by decide))
theorem x2 : XRow 3 5 6 1 12 := x_none (by decide) (by decide) (by decide) (RAt.not x_at0 (by rw [x_np]; decide) (by decide) (by rw [x_len]; decide) x_ok (by decide))
theorem x3 : XRow 3 5 5 2 12 := x_none (by decide) (by decide) (by decide) (RAt.not x_at0 (by rw [x_np]; decide) (by decide) (by rw [x_len]; decide) x_ok (by decide))
theorem x4 : XRow 5 5 5 1 12 := x_none (by decide) (by decide) (by decide) (recRead_first (by decide))
theorem x5 : XRow 5 4 1 1 3 := x_range (by decide)
theorem x6 : XRow 0 999 1 1 3 := x_range (by decide)
theorem x7 : XRow (-1) 5 1 1 3 := x_range (by decide)
theorem x9 : XRow 10 10 5 1 12 := x_none (by decide) (by decide) (by decide) (recRead_first (by decide))
theorem parts_ex : partsOf 0 = (1, 0) ∧ partsOf 44 = (1, 0) ∧ partsOf 45 = (2, 0) ∧ partsOf 4096 = (94, 0) ∧ partsOf 4097 = (0, 5) ∧ partsOf (-1) = (0, 3) := ⟨rfl, rfl, rfl, rfl, rfl, rfl⟩
end Go.Proofs.Ytjpelmjocdodcaa
