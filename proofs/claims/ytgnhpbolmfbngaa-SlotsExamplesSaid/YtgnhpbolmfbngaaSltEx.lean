/- SlotsExamples: the plain part. -/
import Derived.Test.YtgnhpbolmfbngaaSlotsMore
import Derived.Test.YtgnhpbolmfbngaaBothCrash
import Derived.Test.YtgnhpbolmfbngaaKnown07
namespace Go.Proofs.Ytgnhpbolmfbngaa
open Go.RowKit

def h11 : Hd := ⟨1, 1, 0, 1, 0⟩
def h22 : Hd := ⟨2, 2, 0, 1, 0⟩
theorem h11_ok : h11.Ok := by decide
theorem h22_ok : h22.Ok := by decide
def eD1 : Dk := ((Dk.new 2).write 1 h11.sec).sync
def eD2 : Dk := eD1.write 0 h22.sec
def eD3 : Dk := eD2.crash 0 0 60
def yD : Dk := (Dk.new 2).write 0 h11.sec
theorem e_save1 : saveD (Dk.new 2) .idle h11 = (0, eD1, .idle) := rfl
theorem e_save2 : saveD eD1 (.armed 1) h22 = (10, eD2, .blown) := rfl
theorem ld_none {D : Dk} (h0 : hdAt D 0 = none) (h1 : hdAt D 1 = none) : loadVal D = .tuple #[zhead, .int .i64 6] := by
  have en : newest D = none := by unfold newest; rw [h0, h1]; rfl
  unfold loadVal
  rw [en]
  rfl
theorem ld_one {D : Dk} (h0 : hdAt D 0 = none) (h1 : hdAt D 1 = some h11) : loadVal D = .tuple #[hval 1 1 0 1 0, .int .i64 0] := by
  have en : newest D = some h11 := by unfold newest; rw [h0, h1]; rfl
  unfold loadVal
  rw [en]
  rfl
theorem e_load0 : loadVal (Dk.new 2) = .tuple #[zhead, .int .i64 6] := ld_none (hdAt_none hd_zero) (hdAt_none hd_zero)
theorem e_load1 : loadVal eD1 = .tuple #[hval 1 1 0 1 0, .int .i64 0] := ld_one (hdAt_none hd_zero) (hdAt_some (b := h11) rfl h11_ok rfl)
theorem e_torn : hdecodeOf (eD3.read 0) = none := Option.isNone_iff_eq_none.1 (by kernel_rfl)
theorem e_load3 : loadVal eD3 = .tuple #[hval 1 1 0 1 0, .int .i64 0] := ld_one (hdAt_none e_torn) (hdAt_some (b := h11) rfl h11_ok rfl)
theorem y_read : yD.read 0 = h11.sec := rfl
theorem y_at : hdAt yD 0 = none := by
  unfold hdAt
  rw [y_read, hdecodeOf_sec h11_ok]
  rfl
theorem y_load : loadVal yD = .tuple #[zhead, .int .i64 6] := ld_none y_at (hdAt_none hd_zero)
theorem e_bad0 : ¬ HOk 0 1 0 1 0 := by decide
theorem e_bad2 : ¬ HOk 1 1 2 1 0 := by decide
theorem e_bads : ¬ HOk 1 1 0 1 65536 := by decide
theorem h11_val : h11.val = .agg #[.int .i64 1, .int .i64 1, .int .i64 0, .int .i64 1, .int .i64 0] := rfl
theorem h22_val : h22.val = .agg #[.int .i64 2, .int .i64 2, .int .i64 0, .int .i64 1, .int .i64 0] := rfl
theorem keep1w {W w' : World} {S : Nat → Prop} {a : Addr} {x : Value} (h : W.cell? a = some x) (k : Keeps S W w') (ha : ¬ S a.block) : w'.cell? a = some x := k.cell h ha
end Go.Proofs.Ytgnhpbolmfbngaa
