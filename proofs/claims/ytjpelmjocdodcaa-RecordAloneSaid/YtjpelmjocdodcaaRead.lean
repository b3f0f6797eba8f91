/- record.Read. -/
import Derived.Test.YtjpelmjocdodcaaReadPure
import Derived.Test.YtjpelmjocdodcaaSlEqual
import Derived.Test.YtjpelmjocdodcaaDiskRead
import Derived.Test.YtjpelmjocdodcaaLab
namespace Go.Proofs.Ytjpelmjocdodcaa
open Go.RowKit Go.ChangeMaps

def recVal : Option Frm → Value
  | some f => .tuple #[f.val, .int .i64 0]
  | none => .tuple #[zfrm, .int .i64 12]
/-- What Read returns. -/
def readVal (D : Dk) (z : Fz) (a n lsn boot : Int) : Value :=
  if readE D z a n = 0 then recVal (recRead D.read a.toNat n.toNat lsn boot) else .tuple #[zfrm, .int .i64 (readE D z a n)]
abbrev zcells : Array Value := #[.int .i64 0, .int .i64 0, .int .i64 0, .int .i64 0, .int .u8 0, .string ⟨#[]⟩]
set_option maxRecDepth 100000 in
set_option maxHeartbeats 4000000 in
theorem read_nil (a n lsn boot : Int) (w : World) :
    Calls Try.prog 46 #[.pointer none, .int .i64 a, .int .i64 n, .int .i64 lsn, .int .i64 boot] w fun e w' => e = .returned (.tuple #[zfrm, .int .i64 1]) ∧ Below w.heap.size w w' := by
  have n0 := alloc_new w (.cells zcells 77)
  have b0 := alloc_below w (.cells zcells 77)
  have B0 := Lib.hid b0
  have N0 := Lib.hid n0
  clear n0 b0
  go_enter Try.func46, Try.ntmps46
  go_wp2_with (refine wpList_store_block rfl 77 _ _ rfl w.heap.size zcells rfl rfl 77 zcells N0.out (by kernel_rfl) rfl (by simp [Value.oneCell']) ?_)
  exact bodyPost_ret (results_cell2 rfl _ _ w.heap.size _ 77 (0, 0) rfl (setBlock_same (Array.getElem?_eq_some_iff.1 N0.out).1 _) _ Try.underlying77 rfl (by kernel_rfl)) rfl ⟨rfl, (Keeps.setBlock (S := fun x => x = w.heap.size) (.refl _ _) (fun _ => rfl) _).belowOf B0.out B0.out.size (fun x hx e => by omega)⟩
set_option maxRecDepth 100000 in
set_option maxHeartbeats 4000000 in
theorem read_range (d f m : Nat) (v : Value) (D : Dk) (z : Fz) (a n lsn boot : Int) (w : World) (h : Lab w d f m v D z) (hr : a < 0 ∨ n < a ∨ (D.S.length : Int) < n) :
    Calls Try.prog 46 #[.pointer (some ⟨d, 0, none⟩), .int .i64 a, .int .i64 n, .int .i64 lsn, .int .i64 boot] w fun e w' => e = .returned (.tuple #[zfrm, .int .i64 3]) ∧ Below w.heap.size w w' := by
  have n0 := alloc_new w (.cells zcells 77)
  have b0 := alloc_below w (.cells zcells 77)
  have HD := Lib.hid (h.disk.below b0)
  have B0 := Lib.hid b0
  have N0 := Lib.hid n0
  clear n0 b0 h
  by_cases h1 : a < 0
  · clear hr
    go_enter Try.func46, Try.ntmps46
    go_wp2_with (refine wpList_store_block rfl 77 _ _ rfl w.heap.size zcells rfl rfl 77 zcells N0.out (by kernel_rfl) rfl (by simp [Value.oneCell']) ?_)
    exact bodyPost_ret (results_cell2 rfl _ _ w.heap.size _ 77 (0, 0) rfl (setBlock_same (Array.getElem?_eq_some_iff.1 N0.out).1 _) _ Try.underlying77 rfl (by kernel_rfl)) rfl ⟨rfl, (Keeps.setBlock (S := fun x => x = w.heap.size) (.refl _ _) (fun _ => rfl) _).belowOf B0.out B0.out.size (fun x hx e => by omega)⟩
  · by_cases h2 : n < a
    · clear hr
      go_enter Try.func46, Try.ntmps46
      go_wp2_with (refine wpList_store_block rfl 77 _ _ rfl w.heap.size zcells rfl rfl 77 zcells N0.out (by kernel_rfl) rfl (by simp [Value.oneCell']) ?_)
      exact bodyPost_ret (results_cell2 rfl _ _ w.heap.size _ 77 (0, 0) rfl (setBlock_same (Array.getElem?_eq_some_iff.1 N0.out).1 _) _ Try.underlying77 rfl (by kernel_rfl)) rfl ⟨rfl, (Keeps.setBlock (S := fun x => x = w.heap.size) (.refl _ _) (fun _ => rfl) _).belowOf B0.out B0.out.size (fun x hx e => by omega)⟩
    · have h3 : (D.S.length : Int) < n := by omega
      clear hr
      go_enter Try.func46, Try.ntmps46
      go_wp2_with (first | (go_at_call 35; refine (dsectors_any d f m v D _ HD.out).mono ?_; rintro e w' ⟨rfl, rfl⟩) | refine wpList_store_block rfl 77 _ _ rfl w.heap.size zcells rfl rfl 77 zcells N0.out (by kernel_rfl) rfl (by simp [Value.oneCell']) ?_)
      exact bodyPost_ret (results_cell2 rfl _ _ w.heap.size _ 77 (0, 0) rfl (setBlock_same (Array.getElem?_eq_some_iff.1 N0.out).1 _) _ Try.underlying77 rfl (by kernel_rfl)) rfl ⟨rfl, (Keeps.setBlock (S := fun x => x = w.heap.size) (.refl _ _) (fun _ => rfl) _).belowOf B0.out B0.out.size (fun x hx e => by omega)⟩
set_option maxRecDepth 100000 in
set_option maxHeartbeats 4000000 in
theorem read_dead (d f m : Nat) (v : Value) (D : Dk) (z : Fz) (a n lsn boot : Int) (w : World) (h : Lab w d f m v D z) (h1 : ¬ a < 0) (h2 : ¬ n < a) (h3 : ¬ (D.S.length : Int) < n) (hz : z.dead = true) :
    Calls Try.prog 46 #[.pointer (some ⟨d, 0, none⟩), .int .i64 a, .int .i64 n, .int .i64 lsn, .int .i64 boot] w fun e w' => e = .returned (.tuple #[zfrm, .int .i64 10]) ∧ Below w.heap.size w w' := by
  have n0 := alloc_new w (.cells zcells 77)
  have b0 := alloc_below w (.cells zcells 77)
  have h' := h.below b0
  have hrd := dread_any d f m v D z 0 (w.alloc (.cells zcells 77)) h'.disk h'.fuse
  have h0 : doRead D z 0 = ([], 10) := by
    have := h.disk.ok
    unfold Dk.Ok at this
    unfold doRead
    rw [if_pos (by unfold hasE; rw [if_pos (by omega)]), if_pos hz]
  rw [h0] at hrd
  dsimp only at hrd
  have HD := Lib.hid h'.disk
  have B0 := Lib.hid b0
  have N0 := Lib.hid n0
  clear n0 b0 h h' h0 hz
  go_enter Try.func46, Try.ntmps46
  go_wp2_with (first | (go_at_call 35; refine (dsectors_any d f m v D _ HD.out).mono ?_; rintro e w' ⟨rfl, rfl⟩) | fail)
  refine hrd.mono ?_
  rintro e w2 ⟨rfl, b2⟩
  have N2 := Lib.hid ((b2.block _ (Array.getElem?_eq_some_iff.1 N0.out).1).trans N0.out)
  have B2 := Lib.hid (below_step b2 B0.out (Nat.le_refl _))
  clear b2 hrd
  go_wp2_with (refine wpList_store_block rfl 77 _ _ rfl w.heap.size zcells rfl rfl 77 zcells N2.out (by kernel_rfl) rfl (by simp [Value.oneCell']) ?_)
  exact bodyPost_ret (results_cell2 rfl _ _ w.heap.size _ 77 (0, 0) rfl (setBlock_same (Array.getElem?_eq_some_iff.1 N2.out).1 _) _ Try.underlying77 rfl (by kernel_rfl)) rfl ⟨rfl, (Keeps.setBlock (S := fun x => x = w.heap.size) (.refl _ _) (fun _ => rfl) _).belowOf B2.out B2.out.size (fun x hx e => by omega)⟩
end Go.Proofs.Ytjpelmjocdodcaa
