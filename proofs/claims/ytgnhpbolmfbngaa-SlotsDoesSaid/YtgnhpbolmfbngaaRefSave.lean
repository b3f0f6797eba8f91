/- sacristanref07.Save. -/
import Derived.Test.YtgnhpbolmfbngaaSlotsMore
import Derived.Test.YtgnhpbolmfbngaaSRDecode
import Derived.Test.YtgnhpbolmfbngaaBoth
namespace Go.Proofs.Ytgnhpbolmfbngaa
open Go.RowKit Go.ChangeMaps

theorem RAfter.trans {w w1 w2 : World} {r g sb : Nat} {pv pv1 : Value} {D : Dk} {z : Fz} (k1 : Keeps (ROwn r g sb pv) w w1) (n1 : ∀ k, pv1.ownBlock = some k → pv.ownBlock = some k ∨ w.heap.size ≤ k) (a : RAfter w1 w2 r g sb pv1 D z) : RAfter w w2 r g sb pv D z := by
  obtain ⟨v2, h2, z2, k2, n2⟩ := a
  have hs := k1.size
  refine ⟨v2, h2, z2, ?_, fun k hk => ?_⟩
  · have e1 : Keeps (fun k => ROwn r g sb pv k ∨ w.heap.size ≤ k) w w1 := k1.mono (fun k _ h => .inl h)
    have e2 : Keeps (fun k => ROwn r g sb pv k ∨ w.heap.size ≤ k) w1 w2 := k2.mono (fun k _ h => rown_new n1 h)
    exact (e1.trans e2).mono (fun k hk h => h.resolve_right (by omega))
  · rcases n2 k hk with h | h
    · exact n1 k h
    · exact .inr (Nat.le_trans hs h)
set_option maxRecDepth 100000 in
set_option maxHeartbeats 4000000 in
theorem rSave_ok (w0 w : World) (x d f m : Nat) (v : Value) (r g sb : Nat) (pv : Value) (D : Dk) (z : Fz) (E : Dk) (y : Fz) (b : Hd) (h : BothAt w0 w x d f m v r g sb pv D z E y) (ok : b.Ok) (h2 : 2 ≤ E.S.length) (hP : E.P.length ≤ 999999) :
    Calls Try.prog 38 #[.pointer (some ⟨r, 0, none⟩), b.val] w fun e w' => e = .returned (.int .i64 (saveD E y b).1) ∧ RAfter w w' r g sb pv (saveD E y b).2.1 (saveD E y b).2.2 := by
  have HOK := Lib.hid ok
  have HH := Lib.hid h
  have HP1 := Lib.hid (show E.P.length ≤ 1000000 by omega)
  have HD2 := Lib.hid h2
  obtain ⟨q, hq⟩ : ∃ q, b.seq % 2 = q := ⟨_, rfl⟩
  have hqi : (b.seq : Int) % 2 = (q : Int) := by omega
  have HQ := Lib.hid (show q < E.S.length by omega)
  have HW := Lib.hid (show saveD E y b = if y.burn.1 = 0 then doSync (E.write q b.sec) y.burn.2 else (y.burn.1, E, y.burn.2) by unfold saveD; rw [hq])
  have m1 := alloc_new w (.cells #[.int .i64 b.seq, .int .i64 b.boot, .int .i64 b.area, .int .i64 b.first, .int .i64 b.snaps] 40)
  have m2 := alloc_below w (.cells #[.int .i64 b.seq, .int .i64 b.boot, .int .i64 b.area, .int .i64 b.first, .int .i64 b.snaps] 40)
  clear ok h2 h hP hq
  unfold Hd.val hval
  go_enter Try.func38, Try.ntmps38
  go_wp2_with (fail)
  generalize w.alloc (.cells #[.int .i64 b.seq, .int .i64 b.boot, .int .i64 b.area, .int .i64 b.first, .int .i64 b.snaps] 40) = W at m1 m2 ⊢
  refine (srEncode_ok b W HOK.out).mono ?_
  rintro e w1 ⟨rfl, b1⟩
  have c0 : w1.cell? ⟨w.heap.size, 0, none⟩ = some (.int .i64 b.seq) := below_cell b1 ((cell_of m1 0).trans rfl)
  have HBL := Lib.hid (below_step b1 m2 (Nat.le_refl _))
  have HB1 := Lib.hid (HH.out.below HBL.out)
  have cr := HB1.out.rat.c0
  have h2i : ¬ (E.S.length : Int) < 2 := by have := HD2.out; omega
  clear m1 m2 b1
  go_wp2_with (fail)
  refine (rdwrite_any r g sb pv E y q b.sec w1 HB1.out.rat HB1.out.rfz HP1.out).mono ?_
  rw [doWrite_at HQ.out b.sec_length]
  rcases Fz.burn_cases y with ⟨hb, _⟩ | hb
  · rw [if_pos hb] at HW ⊢
    rintro e w3 ⟨rfl, ha⟩
    obtain ⟨pv3, h3, z3, k3, n3⟩ := ha
    have H3 := Lib.hid h3
    have Z3 := Lib.hid z3
    have K3 := Lib.hid ((Keeps.of_below HBL.out).trans ((k3.mono (fun k _ => id) : Keeps (ROwn r g sb pv) w1 w3)))
    have N3 := Lib.hid (fun k hk => (n3 k hk).imp_right (Nat.le_trans HBL.out.size))
    clear h3 z3 k3 n3 h2i c0 cr
    go_wp2_with (fail)
    refine (rdsync_any r g sb pv3 _ _ w3 H3.out Z3.out).mono ?_
    rintro e w4 ⟨rfl, ha4⟩
    have HA4 := Lib.hid (RAfter.trans K3.out N3.out ha4)
    clear ha4
    go_wp2_with (fail)
    go_ret
    rw [HW.out]
    exact ⟨rfl, HA4.out⟩
  · have hb0 : ¬ y.burn.1 = 0 := by rw [hb]; decide
    rw [if_neg hb0] at HW ⊢
    rw [hb] at HW ⊢
    rintro e w3 ⟨rfl, ha⟩
    have HA3 := Lib.hid (RAfter.trans (Keeps.of_below HBL.out) (fun k hk => .inl hk) ha)
    clear ha h2i c0 hb0 hb cr
    go_wp2_with (fail)
    go_ret
    rw [HW.out]
    exact ⟨rfl, HA3.out⟩
set_option maxRecDepth 100000 in
set_option maxHeartbeats 2000000 in
theorem rSave_arg (r : Nat) (seq boot area first snaps : Int) (w : World) (bad : ¬ HOk seq boot area first snaps) :
    Calls Try.prog 38 #[.pointer (some ⟨r, 0, none⟩), hval seq boot area first snaps] w fun e w' => e = .returned (.int .i64 2) ∧ Below w.heap.size w w' := by
  have HBAD := Lib.hid bad
  have m2 := alloc_below w (.cells #[.int .i64 seq, .int .i64 boot, .int .i64 area, .int .i64 first, .int .i64 snaps] 40)
  clear bad
  unfold hval
  go_enter Try.func38, Try.ntmps38
  go_wp2_with (fail)
  generalize w.alloc (.cells #[.int .i64 seq, .int .i64 boot, .int .i64 area, .int .i64 first, .int .i64 snaps] 40) = W at m2 ⊢
  refine (srEncode_arg seq boot area first snaps W HBAD.out).mono ?_
  rintro e w1 ⟨rfl, b1⟩
  have HB1 := Lib.hid (below_step b1 m2 (Nat.le_refl _))
  clear m2 b1
  go_wp2
  go_ret
  exact ⟨rfl, HB1.out⟩
set_option maxRecDepth 100000 in
set_option maxHeartbeats 2000000 in
theorem rSave_range (r g sb : Nat) (pv : Value) (E : Dk) (b : Hd) (w : World) (ok : b.Ok) (h2 : E.S.length < 2) (h : RefAt w r g sb pv E) :
    Calls Try.prog 38 #[.pointer (some ⟨r, 0, none⟩), b.val] w fun e w' => e = .returned (.int .i64 3) ∧ Below w.heap.size w w' := by
  have HOK := Lib.hid ok
  have HH := Lib.hid h
  have h2i : (E.S.length : Int) < 2 := by omega
  have m2 := alloc_below w (.cells #[.int .i64 b.seq, .int .i64 b.boot, .int .i64 b.area, .int .i64 b.first, .int .i64 b.snaps] 40)
  clear ok h2 h
  unfold Hd.val hval
  go_enter Try.func38, Try.ntmps38
  go_wp2_with (fail)
  generalize w.alloc (.cells #[.int .i64 b.seq, .int .i64 b.boot, .int .i64 b.area, .int .i64 b.first, .int .i64 b.snaps] 40) = W at m2 ⊢
  refine (srEncode_ok b W HOK.out).mono ?_
  rintro e w1 ⟨rfl, b1⟩
  have HB1 := Lib.hid (below_step b1 m2 (Nat.le_refl _))
  have cr := (HH.out.below HB1.out).c0
  clear m2 b1
  go_wp2
  go_ret
  exact ⟨rfl, HB1.out⟩
end Go.Proofs.Ytgnhpbolmfbngaa
