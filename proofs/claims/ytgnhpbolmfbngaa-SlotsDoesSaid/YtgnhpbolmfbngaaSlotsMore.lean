/- slots.Save and slots.Load, whatever header, disk and fuse. -/
import Derived.Test.YtgnhpbolmfbngaaSlots
namespace Go.Proofs.Ytgnhpbolmfbngaa
open Go.RowKit Go.ChangeMaps

set_option maxRecDepth 100000 in
set_option maxHeartbeats 2000000 in
theorem sSave_nil (seq boot area first snaps : Int) (w : World) :
    Calls Try.prog 26 #[.pointer none, hval seq boot area first snaps] w fun e w' => e = .returned (.int .i64 1) ∧ Below w.heap.size w w' := by
  unfold hval
  go_enter Try.func26, Try.ntmps26
  go_wp2
  go_ret
  exact ⟨rfl, alloc_below _ _⟩
set_option maxRecDepth 100000 in
set_option maxHeartbeats 2000000 in
theorem sSave_arg (d : Nat) (seq boot area first snaps : Int) (w : World) (bad : ¬ HOk seq boot area first snaps) :
    Calls Try.prog 26 #[.pointer (some ⟨d, 0, none⟩), hval seq boot area first snaps] w fun e w' => e = .returned (.int .i64 2) ∧ Below w.heap.size w w' := by
  have HBAD := Lib.hid bad
  have m2 := alloc_below w (.cells #[.int .i64 seq, .int .i64 boot, .int .i64 area, .int .i64 first, .int .i64 snaps] 40)
  clear bad
  unfold hval
  go_enter Try.func26, Try.ntmps26
  go_wp2_with (fail)
  generalize w.alloc (.cells #[.int .i64 seq, .int .i64 boot, .int .i64 area, .int .i64 first, .int .i64 snaps] 40) = W at m2 ⊢
  refine (sEncode_arg seq boot area first snaps W HBAD.out).mono ?_
  rintro e w1 ⟨rfl, b1⟩
  have HB1 := Lib.hid (below_step b1 m2 (Nat.le_refl _))
  clear b1 m2
  go_wp2_with (fail)
  go_ret
  exact ⟨rfl, HB1.out⟩
set_option maxRecDepth 100000 in
set_option maxHeartbeats 2000000 in
theorem sSave_range (d f m : Nat) (v : Value) (D : Dk) (b : Hd) (w : World) (ok : b.Ok) (h2 : D.S.length < 2) (h : DiskAt w d f m v D) :
    Calls Try.prog 26 #[.pointer (some ⟨d, 0, none⟩), b.val] w fun e w' => e = .returned (.int .i64 3) ∧ Below w.heap.size w w' := by
  have HOK := Lib.hid ok
  have HH := Lib.hid h
  have h2i : (D.S.length : Int) < 2 := by omega
  have m2 := alloc_below w (.cells #[.int .i64 b.seq, .int .i64 b.boot, .int .i64 b.area, .int .i64 b.first, .int .i64 b.snaps] 40)
  clear ok h2 h
  unfold Hd.val hval
  go_enter Try.func26, Try.ntmps26
  go_wp2_with (fail)
  generalize w.alloc (.cells #[.int .i64 b.seq, .int .i64 b.boot, .int .i64 b.area, .int .i64 b.first, .int .i64 b.snaps] 40) = W at m2 ⊢
  refine (sEncode_ok b W HOK.out).mono ?_
  rintro e w1 ⟨rfl, b1⟩
  have HB1 := Lib.hid (below_step b1 m2 (Nat.le_refl _))
  clear b1 m2
  go_wp2_with (fail)
  refine (dsectors_any d f m v D w1 (HH.out.below HB1.out)).mono ?_
  rintro e w2 ⟨rfl, rfl⟩
  go_wp2_with (fail)
  go_ret
  exact ⟨rfl, HB1.out⟩
set_option maxRecDepth 100000 in
set_option maxHeartbeats 2000000 in
theorem sLoad_nil (w : World) : Calls Try.prog 27 #[.pointer none] w fun e w' => e = .returned (.tuple #[zhead, .int .i64 1]) ∧ Below w.heap.size w w' := by
  have HQ := Lib.hid (alloc_new w (.cells #[.int .i64 0, .int .i64 0, .int .i64 0, .int .i64 0, .int .i64 0] 40))
  have HB := Lib.hid (alloc_below w (.cells #[.int .i64 0, .int .i64 0, .int .i64 0, .int .i64 0, .int .i64 0] 40))
  go_enter Try.func27, Try.ntmps27
  go_wp2
  exact bodyPost_ret (results_cell2 rfl _ _ w.heap.size _ 40 (0, 0) rfl HQ.out _ Try.underlying40 rfl (by kernel_rfl)) rfl ⟨rfl, HB.out⟩
set_option maxRecDepth 100000 in
set_option maxHeartbeats 2000000 in
theorem sLoad_range (d f m : Nat) (v : Value) (D : Dk) (w : World) (h2 : D.S.length < 2) (h : DiskAt w d f m v D) :
    Calls Try.prog 27 #[.pointer (some ⟨d, 0, none⟩)] w fun e w' => e = .returned (.tuple #[zhead, .int .i64 3]) ∧ Below w.heap.size w w' := by
  have HQ := Lib.hid (alloc_new w (.cells #[.int .i64 0, .int .i64 0, .int .i64 0, .int .i64 0, .int .i64 0] 40))
  have HB := Lib.hid (alloc_below w (.cells #[.int .i64 0, .int .i64 0, .int .i64 0, .int .i64 0, .int .i64 0] 40))
  have HH := Lib.hid h
  have h2i : (D.S.length : Int) < 2 := by omega
  clear h h2
  go_enter Try.func27, Try.ntmps27
  go_wp2_with (fail)
  generalize w.alloc (.cells #[.int .i64 0, .int .i64 0, .int .i64 0, .int .i64 0, .int .i64 0] 40) = W at HQ HB ⊢
  refine (dsectors_any d f m v D W (HH.out.below HB.out)).mono ?_
  rintro e w2 ⟨rfl, rfl⟩
  go_wp2_with (refine wpList_store_block rfl 40 _ _ rfl w.heap.size #[.int .i64 0, .int .i64 0, .int .i64 0, .int .i64 0, .int .i64 0] rfl rfl 40 _ HQ.out (by kernel_rfl) rfl (by simp [Value.oneCell']) ?_)
  exact bodyPost_ret (results_cell2 rfl _ _ w.heap.size _ 40 (0, 0) rfl (setBlock_same (Array.getElem?_eq_some_iff.1 HQ.out).1 _) _ Try.underlying40 rfl (by kernel_rfl)) rfl ⟨rfl, (Keeps.setBlock (S := fun x => x = w.heap.size) (.refl _ _) (fun _ => rfl) _).belowOf HB.out HB.out.size (fun x hx e => by omega)⟩
set_option maxRecDepth 100000 in
set_option maxHeartbeats 4000000 in
theorem sLoad_dead (d f m : Nat) (v : Value) (D : Dk) (z : Fz) (w : World) (h2 : 2 ≤ D.S.length) (h : DiskAt w d f m v D) (hz : FzAt w f z) (hd : z.dead = true) :
    Calls Try.prog 27 #[.pointer (some ⟨d, 0, none⟩)] w fun e w' => e = .returned (.tuple #[zhead, .int .i64 10]) ∧ Below w.heap.size w w' := by
  have HQ := Lib.hid (alloc_new w (.cells #[.int .i64 0, .int .i64 0, .int .i64 0, .int .i64 0, .int .i64 0] 40))
  have HB := Lib.hid (alloc_below w (.cells #[.int .i64 0, .int .i64 0, .int .i64 0, .int .i64 0, .int .i64 0] 40))
  have HH := Lib.hid h
  have HZ := Lib.hid hz
  have h2i : ¬ (D.S.length : Int) < 2 := by omega
  have HRD : Hid (doRead D z 0 = ([], 10)) := by
    have he : hasE D 0 = 0 := if_pos ⟨by omega, by omega⟩
    unfold Hid doRead
    rw [if_pos he, hd]
    rfl
  clear h h2 hz hd
  go_enter Try.func27, Try.ntmps27
  go_wp2_with (fail)
  generalize w.alloc (.cells #[.int .i64 0, .int .i64 0, .int .i64 0, .int .i64 0, .int .i64 0] 40) = W at HQ HB ⊢
  refine (dsectors_any d f m v D W (HH.out.below HB.out)).mono ?_
  rintro e w2 ⟨rfl, rfl⟩
  go_wp2_with (fail)
  have b5 := alloc_below w2 (.cells #[.int .i64 0, .int .i64 0, .int .i64 0, .int .i64 0, .int .i64 0, .int .i64 0, .int .i64 0, .int .i64 0, .int .i64 0, .int .i64 0] 105)
  have HQ5 := Lib.hid ((b5.block _ (Array.getElem?_eq_some_iff.1 HQ.out).1).trans HQ.out)
  have HB5 := Lib.hid (below_step b5 HB.out (Nat.le_refl _))
  clear b5
  generalize w2.alloc (.cells #[.int .i64 0, .int .i64 0, .int .i64 0, .int .i64 0, .int .i64 0, .int .i64 0, .int .i64 0, .int .i64 0, .int .i64 0, .int .i64 0] 105) = W5 at HQ5 HB5 ⊢
  refine wp_loop_rounds 1 ?_
  rw [rounds_succ]
  go_wp2_with (fail)
  refine (dread_any d f m v D z 0 W5 (HH.out.below HB5.out) (HZ.out.below HB5.out)).mono ?_
  rw [HRD.out]
  rintro e w6 ⟨rfl, b6⟩
  have HQ6 := Lib.hid ((b6.block _ (Array.getElem?_eq_some_iff.1 HQ5.out).1).trans HQ5.out)
  have HB6 := Lib.hid (below_step b6 HB5.out (Nat.le_refl _))
  clear b6
  go_wp2_with (refine wpList_store_block rfl 40 _ _ rfl w.heap.size #[.int .i64 0, .int .i64 0, .int .i64 0, .int .i64 0, .int .i64 0] rfl rfl 40 _ HQ6.out (by kernel_rfl) rfl (by simp [Value.oneCell']) ?_)
  exact bodyPost_ret (results_cell2 rfl _ _ w.heap.size _ 40 (0, 0) rfl (setBlock_same (Array.getElem?_eq_some_iff.1 HQ6.out).1 _) _ Try.underlying40 rfl (by kernel_rfl)) rfl ⟨rfl, (Keeps.setBlock (S := fun x => x = w.heap.size) (.refl _ _) (fun _ => rfl) _).belowOf HB6.out HB6.out.size (fun x hx e => by omega)⟩
end Go.Proofs.Ytgnhpbolmfbngaa
