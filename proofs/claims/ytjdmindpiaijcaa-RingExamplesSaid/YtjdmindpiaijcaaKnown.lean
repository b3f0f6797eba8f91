/- sacristanlaw25.known returns true, in every world. -/
import Derived.Test.YtjdmindpiaijcaaPFx
import Derived.Test.YtjdmindpiaijcaaRing
namespace Go.Proofs.Ytjdmindpiaijcaa
open Go.RowKit Go.Proofs.YtjdmindpiaijcaaW.PrintWords Go.Proofs.YtjdmindpiaijcaaW.PrintLast Go.Proofs.YtjdmindpiaijcaaW.PrintMore

theorem six_row (w : World) : Kd.C (Kd.int .i64) (w.alloc (.cells #[.int .i64 2, .int .i64 1, .int .i64 3, .int .i64 1, .int .i64 4, .int .i64 1] 3)) (some ⟨w.heap.size, 0, none⟩) ([2, 1, 3, 1, 4, 1] : List Int).length [2, 1, 3, 1, 4, 1] := by
  refine ⟨rfl, by decide, fun _ => ⟨_, rfl, fun j p hj => ?_⟩⟩
  have hb := (alloc_new w (.cells #[.int .i64 2, .int .i64 1, .int .i64 3, .int .i64 1, .int .i64 4, .int .i64 1] 3))
  match j, hj with
  | 0, hj => obtain rfl : 2 = p := by simpa using hj
             exact ⟨[.int .i64 2], rfl, rfl, fun i u hu => by match i, hu with
               | 0, hu => obtain rfl : (.int .i64 2 : Value) = u := by simpa using hu
                          exact (cell_of hb 0).trans rfl⟩
  | 1, hj => obtain rfl : 1 = p := by simpa using hj
             exact ⟨[.int .i64 1], rfl, rfl, fun i u hu => by match i, hu with
               | 0, hu => obtain rfl : (.int .i64 1 : Value) = u := by simpa using hu
                          exact (cell_of hb 1).trans rfl⟩
  | 2, hj => obtain rfl : 3 = p := by simpa using hj
             exact ⟨[.int .i64 3], rfl, rfl, fun i u hu => by match i, hu with
               | 0, hu => obtain rfl : (.int .i64 3 : Value) = u := by simpa using hu
                          exact (cell_of hb 2).trans rfl⟩
  | 3, hj => obtain rfl : 1 = p := by simpa using hj
             exact ⟨[.int .i64 1], rfl, rfl, fun i u hu => by match i, hu with
               | 0, hu => obtain rfl : (.int .i64 1 : Value) = u := by simpa using hu
                          exact (cell_of hb 3).trans rfl⟩
  | 4, hj => obtain rfl : 4 = p := by simpa using hj
             exact ⟨[.int .i64 4], rfl, rfl, fun i u hu => by match i, hu with
               | 0, hu => obtain rfl : (.int .i64 4 : Value) = u := by simpa using hu
                          exact (cell_of hb 4).trans rfl⟩
  | 5, hj => obtain rfl : 1 = p := by simpa using hj
             exact ⟨[.int .i64 1], rfl, rfl, fun i u hu => by match i, hu with
               | 0, hu => obtain rfl : (.int .i64 1 : Value) = u := by simpa using hu
                          exact (cell_of hb 5).trans rfl⟩

def ten : ByteArray := ⟨#[48, 49, 50, 51, 52, 53, 54, 55, 56, 57]⟩
def threeS : List PF.S35 := [⟨1, 1, 2, 20, ten⟩, ⟨1, 1, 3, 30, ten⟩, ⟨1, 1, 4, 40, ten⟩]
theorem found_three : PF.sacristanlaw25_found.f 5 [2, 1, 3, 1, 4, 1] = some threeS := by kernel_rfl
def gbOfF (x : PF.S35) : GB := ⟨x.f0, x.f1, x.f2, x.f3, x.f4.data.toList⟩
theorem three_found : recover 2 2 1 (threeS.map gbOfF) = ⟨2, 5, 20, 30⟩ := by kernel_rfl
theorem RowB_of {w : World} {A : Option Addr} {l : List PF.S35} (hr : Kd.C PF.k35 w A l.length l) : RowB w A (l.map gbOfF) := fun i hi => by
  have hlm : (l.map gbOfF).length = l.length := List.length_map _
  have hi' : i < l.length := by rw [← hlm]; exact hi
  obtain ⟨ad, e, h0, h1, h2, h3, h4⟩ := PF.at_T35 hr (i : Int) (by omega) (by omega)
  have hg : PF.rd_T35 l (i : Int) = l[i] := by
    unfold PF.rd_T35
    rw [Int.toNat_natCast, List.getD_eq_getElem?_getD, List.getElem?_eq_getElem hi']
    rfl
  rw [hg, Int.toNat_natCast] at h0 h1 h2 h3 h4
  refine ⟨ad, e, ?_, ?_, ?_, ?_, ?_⟩
  · rw [h0, List.getElem_map]; rfl
  · rw [h1, List.getElem_map]; rfl
  · rw [h2, List.getElem_map]; rfl
  · rw [h3, List.getElem_map]; rfl
  · rw [h4, List.getElem_map]; exact congrArg (fun x => some (Value.string x)) (S_of _).symm
theorem recover_three (A : Option Addr) (c : Nat) (w : World) (hr : Kd.C PF.k35 w A threeS.length threeS) :
    Calls Try.prog 8 #[.int .i64 2, .int .i64 2, .int .i64 1, .slice A threeS.length c] w fun e w' => e = .returned (.tuple #[.agg #[.int .i64 2, .int .i64 5, .int .i64 20, .int .i64 30], .int .i64 0]) ∧ Below w.heap.size w w' := by
  have := recover_ok 2 2 1 (threeS.map gbOfF) A c w (RowB_of hr) (by decide) (by decide) (by decide) (by decide) (by decide) (by decide) (by decide) (by decide)
  rw [three_found] at this
  exact this
theorem rFirst_five : rFirst 2 2 5 = 2 := by kernel_rfl
theorem rcheck_five : rcheck 2 2 5 = 0 := by kernel_rfl

end Go.Proofs.Ytjdmindpiaijcaa
