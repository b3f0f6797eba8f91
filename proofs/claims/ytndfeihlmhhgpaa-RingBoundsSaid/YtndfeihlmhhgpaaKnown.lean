/- sacristanlaw25.known returns true, in every world. -/
import Derived.Test.YtndfeihlmhhgpaaPFx
import Derived.Test.YtndfeihlmhhgpaaRing
namespace Go.Proofs.Ytndfeihlmhhgpaa
open Go.RowKit Go.Proofs.YtndfeihlmhhgpaaW.PrintWords Go.Proofs.YtndfeihlmhhgpaaW.PrintLast Go.Proofs.YtndfeihlmhhgpaaW.PrintMore

theorem six_row (w : World) : Kd.C (Kd.int .i64) (w.alloc (.cells #[.int .i64 2, .int .i64 1, .int .i64 3, .int .i64 1, .int .i64 4, .int .i64 1] 3)) (some ⟨w.heap.size, 0, none⟩) ([2, 1, 3, 1, 4, 1] : List Int).length [2, 1, 3, 1, 4, 1] := by
  refine ⟨rfl, by decide, fun _ => ⟨_, rfl, fun j p hj => ?_⟩⟩
  have hb := (alloc_new w (.cells #[.int .i64 2, .int .i64 1, .int .i64 3, .int .i64 1, .int .i64 4, .int .i64 1] 3))
  match j, hj with
  | 0, hj => obtain rfl : 2 = p := by simpa using hj
             exact ⟨[.int .i64 2], rfl, rfl, fun i u hu => by match i, hu with
               | 0, hu => obtain rfl : (.int .i64 2 : Value) = u := by simpa using hu
                          exact (cell_of hb 0).trans rfl⟩
  | 1, hj => obtain rfl : 1 = p := by simpa using hj
             exact ⟨[.int .i64 1], rfl, rfl, fun i u hu => by match i, hu with
               | 0, hu => obtain rfl : (.int .i64 1 : Value) = u := by simpa using hu
                          exact (cell_of hb 1).trans rfl⟩
  | 2, hj => obtain rfl : 3 = p := by simpa using hj
             exact ⟨[.int .i64 3], rfl, rfl, fun i u hu => by match i, hu with
               | 0, hu => obtain rfl : (.int .i64 3 : Value) = u := by simpa using hu
                          exact (cell_of hb 2).trans rfl⟩
  | 3, hj => obtain rfl : 1 = p := by simpa using hj
             exact ⟨[.int .i64 1], rfl, rfl, fun i u hu => by match i, hu with
               | 0, hu => obtain rfl : (.int .i64 1 : Value) = u := by simpa using hu
                          exact (cell_of hb 3).trans rfl⟩
  | 4, hj => obtain rfl : 4 = p := by simpa using hj
             exact ⟨[.int .i64 4], rfl, rfl, fun i u hu => by match i, hu with
               | 0, hu => obtain rfl : (.int .i64 4 : Value) = u := by simpa using hu
                          exact (cell_of hb 4).trans rfl⟩
  | 5, hj => obtain rfl : 1 = p := by simpa using hj
             exact ⟨[.int .i64 1], rfl, rfl, fun i u hu => by match i, hu with
               | 0, hu => obtain rfl : (.int .i64 1 : Value) = u := by simpa using hu
                          exact (cell_of hb 5).trans rfl⟩

def ten : ByteArray := ⟨#[48, 49, 50, 51, 52, 53, 54, 55, 56, 57]⟩
def threeS : List PF.S29 := [⟨1, 1, 2, 20, ten⟩, ⟨1, 1, 3, 30, ten⟩, ⟨1, 1, 4, 40, ten⟩]
theorem found_three : PF.sacristanlaw25_found.f 5 [2, 1, 3, 1, 4, 1] = some threeS := by kernel_rfl
def gbOfF (x : PF.S29) : GB := ⟨x.f0, x.f1, x.f2, x.f3, x.f4.data.toList⟩
theorem three_found : recover 2 2 1 (threeS.map gbOfF) = ⟨2, 5, 20, 30⟩ := by kernel_rfl
theorem RowB_of {w : World} {A : Option Addr} {l : List PF.S29} (hr : Kd.C PF.k29 w A l.length l) : RowB w A (l.map gbOfF) := fun i hi => by
  have hlm : (l.map gbOfF).length = l.length := List.length_map _
  have hi' : i < l.length := by rw [← hlm]; exact hi
  obtain ⟨ad, e, h0, h1, h2, h3, h4⟩ := PF.at_T29 hr (i : Int) (by omega) (by omega)
  have hg : PF.rd_T29 l (i : Int) = l[i] := by
    unfold PF.rd_T29
    rw [Int.toNat_natCast, List.getD_eq_getElem?_getD, List.getElem?_eq_getElem hi']
    rfl
  rw [hg, Int.toNat_natCast] at h0 h1 h2 h3 h4
  refine ⟨ad, e, ?_, ?_, ?_, ?_, ?_⟩
  · rw [h0, List.getElem_map]; rfl
  · rw [h1, List.getElem_map]; rfl
  · rw [h2, List.getElem_map]; rfl
  · rw [h3, List.getElem_map]; rfl
  · rw [h4, List.getElem_map]; exact congrArg (fun x => some (Value.string x)) (S_of _).symm
theorem recover_three (A : Option Addr) (c : Nat) (w : World) (hr : Kd.C PF.k29 w A threeS.length threeS) :
    Calls Try.prog 18 #[.int .i64 2, .int .i64 2, .int .i64 1, .slice A threeS.length c] w fun e w' => e = .returned (.tuple #[.agg #[.int .i64 2, .int .i64 5, .int .i64 20, .int .i64 30], .int .i64 0]) ∧ Below w.heap.size w w' := by
  have := recover_ok 2 2 1 (threeS.map gbOfF) A c w (RowB_of hr) (by decide) (by decide) (by decide) (by decide) (by decide) (by decide) (by decide) (by decide)
  rw [three_found] at this
  exact this
theorem rFirst_five : rFirst 2 2 5 = 2 := by kernel_rfl
theorem rcheck_five : rcheck 2 2 5 = 0 := by kernel_rfl

set_option maxHeartbeats 1000000 in
theorem known25_any (w : World) : Calls Try.prog 20 #[] w fun e w' => e = .returned (.bool true) ∧ Below w.heap.size w w' := by
  have hC := six_row w
  have HB := alloc_below w (.cells #[.int .i64 2, .int .i64 1, .int .i64 3, .int .i64 1, .int .i64 4, .int .i64 1] 3)
  go_enter Try.func20, Try.ntmps20
  go_wp2_with (fail)
  revert hC HB
  generalize w.alloc (Obj.cells #[Value.int IntKind.i64 2, Value.int IntKind.i64 1, Value.int IntKind.i64 3, Value.int IntKind.i64 1, Value.int IntKind.i64 4, Value.int IntKind.i64 1] 3) = W
  intro hC HB
  refine (PF.sacristanlaw25_found.calls 5 _ _ _ threeS _ hC (by decide) found_three).mono ?_
  rintro e w1 ⟨v, rfl, hR, hb1⟩
  have HB1 := below_step hb1 HB (Nat.le_refl _)
  obtain ⟨A, c, rfl⟩ := Kd.R_slice hR
  have hC1 := (Kd.R_reads' hR).2.2
  clear hR hb1 hC HB
  go_wp2_with (fail)
  refine (recover_three A c w1 hC1).mono ?_
  rintro e w2 ⟨rfl, hb2⟩
  have HB2 := below_step hb2 HB1 (Nat.le_refl _)
  clear HB1 hb2 hC1
  have q := alloc_new w2 (.cells #[.int .i64 2, .int .i64 5, .int .i64 20, .int .i64 30] 31)
  have HB3 := below_step (alloc_below w2 (.cells #[.int .i64 2, .int .i64 5, .int .i64 20, .int .i64 30] 31)) HB2 (Nat.le_refl _)
  go_wp2_with (fail)
  revert q HB3
  generalize w2.alloc (Obj.cells #[Value.int IntKind.i64 2, Value.int IntKind.i64 5, Value.int IntKind.i64 20, Value.int IntKind.i64 30] 31) = W3
  intro q HB3
  refine (rFirst_any 2 2 5 W3).mono ?_
  rw [rFirst_five, rcheck_five]
  rintro e w' ⟨rfl, rfl⟩
  have c0 := (cell_of q 0).trans rfl
  have c1 := (cell_of q 1).trans rfl
  have c2 := (cell_of q 2).trans rfl
  have c3 := (cell_of q 3).trans rfl
  go_wp2_with (fail)
  go_ret
  exact ⟨rfl, HB3⟩
end Go.Proofs.Ytndfeihlmhhgpaa
