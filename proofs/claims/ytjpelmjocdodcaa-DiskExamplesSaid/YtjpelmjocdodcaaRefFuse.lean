/- sacristanref03: what each call does. -/
import Derived.Test.YtjpelmjocdodcaaFuse
namespace Go.Proofs.Ytjpelmjocdodcaa
open Go.RowKit Go.ChangeMaps

def Fz.rarmed : Fz → Bool
  | .idle => false
  | _ => true
def Fz.rcells (z : Fz) : Array Value := #[.bool z.rarmed, .bool z.dead, .int .i64 z.left]
def Fz.robj (z : Fz) : Obj := .cells z.rcells 115 (0, 0)
/-- Block f is the reference's fuse z. -/
def RFzAt (w : World) (f : Nat) (z : Fz) : Prop := w.heap[f]? = some (.cells z.rcells 115 (0, 0)) ∧ z.left ≤ 9223372036854775807
theorem RFzAt.set {w : World} {f : Nat} {z : Fz} (h : RFzAt w f z) {z' : Fz} (hz : z'.left ≤ 9223372036854775807) : RFzAt (setBlock w f z'.robj) f z' :=
  ⟨setBlock_same (Array.getElem?_eq_some_iff.1 h.1).1 _, hz⟩
theorem RFzAt.keeps {w w' : World} {f : Nat} {z : Fz} {S : Nat → Prop} (h : RFzAt w f z) (k : Keeps S w w') (hf : ¬ S f) : RFzAt w' f z :=
  ⟨(k.block f (Array.getElem?_eq_some_iff.1 h.1).1 hf).trans h.1, h.2⟩
theorem RFzAt.lt {w : World} {f : Nat} {z : Fz} (h : RFzAt w f z) : f < w.heap.size := (Array.getElem?_eq_some_iff.1 h.1).1
set_option maxHeartbeats 800000 in
theorem rfburn_any (f : Nat) (z : Fz) (w : World) (h : RFzAt w f z) :
    Calls Try.prog 79 #[.pointer (some ⟨f, 0, none⟩)] w fun e w' => e = .returned (.int .i64 z.burn.1) ∧ w' = setBlock w f z.burn.2.robj := by
  have c0 : w.cell? ⟨f, 0, none⟩ = some (.bool z.rarmed) := (cell_of h.1 0).trans rfl
  have c1 : w.cell? ⟨f, 1, none⟩ = some (.bool z.dead) := (cell_of h.1 1).trans rfl
  have c2 : w.cell? ⟨f, 2, none⟩ = some (.int .i64 z.left) := (cell_of h.1 2).trans rfl
  have f1 := free_of h.1 1
  have f2 := free_of h.1 2
  have HS := Lib.hid (setBlock_self h.1)
  have H := Lib.hid h
  clear h
  rcases z with _ | ⟨_ | k⟩ | _
  all_goals simp only [Fz.rarmed, Fz.dead, Fz.left] at c0 c1 c2
  · go_enter Try.func79, Try.ntmps79
    go_wp2
    go_ret
    exact ⟨rfl, HS.out.symm⟩
  · go_enter Try.func79, Try.ntmps79
    go_wp2
    go_ret
    exact ⟨rfl, setCell_block H.out.1 1 (.bool true)⟩
  · have hk : k + 1 ≤ 9223372036854775807 := H.out.2
    have hw : IntKind.i64.wrap (((k + 1 : Nat) : Int) - 1) = (k : Int) := by rw [IntKind.wrap_i64]; omega
    have hw' : IntKind.i64.wrap ((k : Int) + 1 - 1) = (k : Int) := by rw [IntKind.wrap_i64]; omega
    have hz : (((k + 1 : Nat) : Int) == 0) = false := by rw [beq_eq_false_iff_ne]; omega
    go_enter Try.func79, Try.ntmps79
    go_wp2
    go_ret
    exact ⟨rfl, setCell_block H.out.1 2 (.int .i64 k)⟩
  · go_enter Try.func79, Try.ntmps79
    go_wp2
    go_ret
    exact ⟨rfl, HS.out.symm⟩
set_option maxHeartbeats 800000 in
theorem rfreset_any (f : Nat) (z : Fz) (w : World) (h : RFzAt w f z) :
    Calls Try.prog 82 #[.pointer (some ⟨f, 0, none⟩)] w fun e w' => e = .returned (.tuple #[]) ∧ w' = setBlock w f Fz.idle.robj := by
  have c0 : w.cell? ⟨f, 0, none⟩ = some (.bool z.rarmed) := (cell_of h.1 0).trans rfl
  have c1 : w.cell? ⟨f, 1, none⟩ = some (.bool z.dead) := (cell_of h.1 1).trans rfl
  have c2 : w.cell? ⟨f, 2, none⟩ = some (.int .i64 z.left) := (cell_of h.1 2).trans rfl
  have f0 := free_of h.1 0
  have f1 := free_of h.1 1
  have f2 := free_of h.1 2
  have HE := Lib.hid (three_set h.1)
  clear h
  go_enter Try.func82, Try.ntmps82
  go_wp2
  go_end0
  exact ⟨rfl, HE.out _ _ _⟩
theorem two_set {w : World} {b : Nat} {v0 v1 v2 : Value} {t : TypeId} (h : w.heap[b]? = some (.cells #[v0, v1, v2] t (0, 0))) (a0 a2 : Value) :
    (w.setCell ⟨b, 0, none⟩ a0).setCell ⟨b, 2, none⟩ a2 = setBlock w b (.cells #[a0, v1, a2] t (0, 0)) := by
  have hlt := (Array.getElem?_eq_some_iff.1 h).1
  rw [setCell_block h, setCell_block (setBlock_same hlt _), setBlock_twice]
  rfl
set_option maxHeartbeats 800000 in
theorem rfarm_any (f : Nat) (z : Fz) (k : Int) (w : World) (h : RFzAt w f z) :
    Calls Try.prog 83 #[.pointer (some ⟨f, 0, none⟩), .int .i64 k] w fun e w' => e = .returned (.int .i64 (z.arm k).1) ∧ w' = setBlock w f (z.arm k).2.robj := by
  have c0 : w.cell? ⟨f, 0, none⟩ = some (.bool z.rarmed) := (cell_of h.1 0).trans rfl
  have c1 : w.cell? ⟨f, 1, none⟩ = some (.bool z.dead) := (cell_of h.1 1).trans rfl
  have c2 : w.cell? ⟨f, 2, none⟩ = some (.int .i64 z.left) := (cell_of h.1 2).trans rfl
  have f0 := free_of h.1 0
  have f2 := free_of h.1 2
  have HS := Lib.hid (setBlock_self h.1)
  have HE := Lib.hid (two_set h.1)
  clear h
  by_cases hk : k < 0
  · have HA : Hid (z.arm k = (3, z)) := by unfold Hid Fz.arm; rw [if_pos hk]
    go_enter Try.func83, Try.ntmps83
    go_wp2
    go_ret
    rw [HA.out]
    exact ⟨rfl, HS.out.symm⟩
  · obtain ⟨m, rfl⟩ : ∃ m : Nat, k = m := ⟨k.toNat, by omega⟩
    cases hd : z.dead
    · have HA : Hid (z.arm (m : Int) = (0, Fz.armed m)) := by unfold Hid Fz.arm; rw [if_neg hk, hd]; rfl
      rw [hd] at c1
      have HD := Lib.hid hd
      clear hd
      go_enter Try.func83, Try.ntmps83
      go_wp2
      go_ret
      rw [HA.out]
      refine ⟨rfl, ?_⟩
      rw [HE.out, HD.out]
      rfl
    · have HA : Hid (z.arm (m : Int) = (7, z)) := by unfold Hid Fz.arm; rw [if_neg hk, hd]; rfl
      rw [hd] at c1
      clear hd
      go_enter Try.func83, Try.ntmps83
      go_wp2
      go_ret
      rw [HA.out]
      exact ⟨rfl, HS.out.symm⟩
end Go.Proofs.Ytjpelmjocdodcaa
