/- sacristanlaw25.RingNumbers returns true, whatever the numbers are and in every world. No conditions. -/
import Derived.Test.YtholdgefpjepfaaKnown
import Derived.Test.YtholdgefpjepfaaRingMore
namespace Go.Proofs.Ytholdgefpjepfaa
open Go.RowKit

set_option maxHeartbeats 1000000 in
theorem ringNumbers_any (files blocks n : Int) (w : World) (_h0 : (Lit.int .i64 files).wf = true) (_h1 : (Lit.int .i64 blocks).wf = true) (_h2 : (Lit.int .i64 n).wf = true) :
    Calls Try.prog 6 #[.int .i64 files, .int .i64 blocks, .int .i64 n] w fun e w' => e = .returned (.bool true) ∧ Below w.heap.size w w' := by
  generalize hs : rSector files blocks n = s
  generalize hf : rFirst files blocks n = f
  generalize hb : rBegins blocks n = b
  generalize hc : rcheck files blocks n = c
  generalize hd : rcheck 2 blocks n = d
  have HS := Lib.hid hs
  have HF := Lib.hid hf
  have HB := Lib.hid hb
  have HC := Lib.hid hc
  have HD := Lib.hid hd
  clear hs hf hb hc hd
  go_enter Try.func6, Try.ntmps6
  go_wp2_with (first
    | (go_at_call 46; refine (rSector_any _ _ _ _).mono ?_; rw [HS.out, HC.out]; rintro e w' ⟨rfl, rfl⟩)
    | (go_at_call 47; refine (refSector_any _ _ _ _).mono ?_; rw [HS.out, HC.out]; rintro e w' ⟨rfl, rfl⟩)
    | (go_at_call 41; refine (rFirst_any _ _ _ _).mono ?_; rw [HF.out, HC.out]; rintro e w' ⟨rfl, rfl⟩)
    | (go_at_call 48; refine (refFirst_any _ _ _ _).mono ?_; rw [HF.out, HC.out]; rintro e w' ⟨rfl, rfl⟩)
    | (go_at_call 49; refine (rBegins_any _ _ _).mono ?_; rw [HB.out, HD.out]; rintro e w' ⟨rfl, rfl⟩)
    | (go_at_call 50; refine (refBegins_any _ _ _).mono ?_; rw [HB.out, HD.out]; rintro e w' ⟨rfl, rfl⟩)
    | (go_at_call 45; refine (known25_any _).mono ?_; rintro e w' ⟨rfl, hb⟩))
  go_ret
  exact ⟨rfl, hb⟩
end Go.Proofs.Ytholdgefpjepfaa
