/- RecordSectors. -/
import Derived.Test.YtjpelmjocdodcaaKnown06
import Derived.Test.YtjpelmjocdodcaaEqStrs
import Derived.Test.YtjpelmjocdodcaaRefSec
namespace Go.Proofs.Ytjpelmjocdodcaa
open Go.RowKit Go.ChangeMaps

set_option maxRecDepth 100000 in
set_option maxHeartbeats 2000000 in
theorem recordSectors_any (n boot lsn kind : Int) (hkd : 0 ≤ kind ∧ kind < 256) (t : List UInt8) (w : World) :
    Calls Try.prog 9 #[.int .i64 n, .int .i64 boot, .int .i64 lsn, .int .u8 kind, .string (S t)] w fun e w' => e = .returned (.bool true) ∧ Below w.heap.size w w' := by
  have HO := Lib.hid (fun W : World => known06_any W)
  by_cases h : 5000 < t.length
  · have h' : (5000 : Int) < (t.length : Int) := by omega
    go_enter Try.func9, Try.ntmps9
    go_wp2_with (go_at_call 38; refine (HO.out _).mono ?_; rintro e w2 ⟨rfl, bk⟩)
    go_ret
    exact ⟨rfl, bk⟩
  · have h' : ¬ (5000 : Int) < (t.length : Int) := by omega
    obtain ⟨⟨p1, p2⟩, hp⟩ : ∃ p, partsOf n = p := ⟨_, rfl⟩
    have hp1 := parts_any n w
    have hp2 := rparts_any n w
    rw [hp] at hp1 hp2
    dsimp only at hp1 hp2
    have HP1 := Lib.hid hp1
    have HP2 := Lib.hid hp2
    have HT := Lib.hid h
    clear hp hp1 hp2
    go_enter Try.func9, Try.ntmps9
    go_wp2_with (first | (go_at_call 39; refine HP1.out.mono ?_; rintro e w' ⟨rfl, rfl⟩) | (go_at_call 40; refine HP2.out.mono ?_; rintro e w' ⟨rfl, rfl⟩) | fail)
    have hs1 := sectors_any boot lsn kind hkd t (by have := HT.out; omega) w'
    have hle := recSecs_le boot lsn kind t
    have hs2 := fun W => rsectors_any boot lsn kind hkd t (by have := HT.out; omega) W
    obtain ⟨⟨L, er⟩, hL⟩ : ∃ p, recSecs boot lsn kind t = p := ⟨_, rfl⟩
    rw [hL] at hs1 hle
    have hs2' := fun W => by have := hs2 W; rw [hL] at this; exact this
    dsimp only at hs1 hs2' hle
    have HS2 := Lib.hid hs2'
    have HLE := Lib.hid hle
    clear hs2 hs2' hL hle
    refine hs1.mono ?_
    rintro e w1 ⟨A1, cap1, rfl, hr1, b1, -⟩
    have HR1 := Lib.hid hr1
    have HB1 := Lib.hid b1
    clear hr1 b1 hs1
    go_wp2_with (fail)
    refine (HS2.out _).mono ?_
    rintro e w2 ⟨A2, cap2, rfl, hr2, b2, -⟩
    have hr1' := row_keeps (S := fun _ => False) HR1.out (.of_below b2) (fun _ _ => id)
    have he := eqStrs_any _ _ L L (by have := HLE.out; omega) (by have := HLE.out; omega) w2 hr1' hr2
    have HB2 := Lib.hid (below_step b2 HB1.out (Nat.le_refl _))
    rw [decide_eq_true rfl] at he
    clear hr2 hr1' b2
    go_wp2_with (fail)
    refine he.mono ?_
    rintro e w3 ⟨rfl, b3⟩
    have HB3 := Lib.hid (below_step b3 HB2.out (Nat.le_refl _))
    clear b3 he
    go_wp2_with (go_at_call 38; refine (HO.out _).mono ?_; rintro e w4 ⟨rfl, bk⟩)
    go_ret
    exact ⟨rfl, below_step bk HB3.out (Nat.le_refl _)⟩
theorem recordSectors_row (a0 a1 a2 a3 : Int) (a4 : ByteArray) (W : World) (_w0 : (Lit.int .i64 a0).wf = true) (_w1 : (Lit.int .i64 a1).wf = true) (_w2 : (Lit.int .i64 a2).wf = true) (w3 : (Lit.int .u8 a3).wf = true) (_w4 : a4.size ≤ 140737488351232) :
    Calls Try.prog 9 #[.int .i64 a0, .int .i64 a1, .int .i64 a2, .int .u8 a3, .string a4] W fun e w' => e = .returned (.bool true) ∧ Below W.heap.size W w' := by
  simp [Lit.wf, IntKind.min, IntKind.max, IntKind.signed, IntKind.bits] at w3
  obtain ⟨t, rfl⟩ : ∃ t, a4 = S t := ⟨a4.data.toList, (S_of a4).symm⟩
  exact recordSectors_any a0 a1 a2 a3 (by omega) t W
end Go.Proofs.Ytjpelmjocdodcaa
