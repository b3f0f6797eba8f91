/- Helpers for RingExamples: rows of numbers, calls of found and of Recover at fixed rows. -/
import Derived.Test.YtjdmindpiaijcaaKnown
import Derived.Test.YtjdmindpiaijcaaRingMore
namespace Go.Proofs.Ytjdmindpiaijcaa
open Go.RowKit Go.Proofs.YtjdmindpiaijcaaW.PrintWords Go.Proofs.YtjdmindpiaijcaaW.PrintLast Go.Proofs.YtjdmindpiaijcaaW.PrintMore

theorem ints_row (l : List Int) (hl : l.length ≤ 1000) (w : World) : Kd.C (Kd.int .i64) (w.alloc (.cells (l.map (Value.int .i64)).toArray 3)) (some ⟨w.heap.size, 0, none⟩) l.length l := by
  refine ⟨rfl, Nat.le_trans hl (by decide), fun _ => ⟨_, rfl, fun j p hj => ?_⟩⟩
  have hb := alloc_new w (.cells (l.map (Value.int .i64)).toArray 3)
  refine ⟨[.int .i64 p], rfl, rfl, fun i u hu => ?_⟩
  match i, hu with
  | 0, hu =>
    obtain rfl : (.int .i64 p : Value) = u := by simpa using hu
    have e : (Addr.add ⟨w.heap.size, 0, none⟩ (j * 1 + 0)) = ⟨w.heap.size, j, none⟩ := by
      rw [Nat.mul_one, Nat.add_zero]
      unfold Addr.add
      by_cases h0 : j = 0
      · subst h0; rfl
      · simp [h0]
    show World.cell? _ (Addr.add ⟨w.heap.size, 0, none⟩ (j * 1 + 0)) = _
    rw [e, cell_of hb j, List.getElem?_toArray, List.getElem?_map, hj]
    rfl
theorem found_at (k : Nat) (l : List Int) (r : List PF.S35) (hl : l.length ≤ 1000) (hf : PF.sacristanlaw25_found.f k l = some r) (n m : Nat) (w : World) (hn : w.heap.size = n) (hm : l.length = m) :
    Calls Try.prog 7 #[.slice (some ⟨n, 0, none⟩) m m] (w.alloc (.cells (l.map (Value.int .i64)).toArray 3)) fun e w' => ∃ A c, e = .returned (.slice A r.length c) ∧ Kd.R PF.k35 35 w' (w.heap.size + 1) (fun _ => True) (.slice A r.length c) r ∧ Below w.heap.size w w' ∧
      Below (w.heap.size + 1) (w.alloc (.cells (l.map (Value.int .i64)).toArray 3)) w' := by
  subst hn hm
  have hC := ints_row l hl w
  have hs := alloc_size w (.cells (l.map (Value.int .i64)).toArray 3)
  refine (PF.sacristanlaw25_found.calls k _ _ _ r _ hC (Nat.le_refl _) hf).mono ?_
  rintro e w' ⟨v, rfl, hR, hb⟩
  obtain ⟨A, c, rfl⟩ := Kd.R_slice hR
  rw [hs] at hR
  refine ⟨A, c, rfl, hR, below_step hb (alloc_below _ _) (Nat.le_refl _), ?_⟩
  rw [← hs]
  exact hb
def x1 : ByteArray := ⟨#[120]⟩
def three8 : List PF.S35 := [⟨2, 1, 1, 0, x1⟩, ⟨1, 0, -1, 0, ⟨#[]⟩⟩, ⟨1, 0, 4294967296, 0, ⟨#[]⟩⟩]
def rowOf (l : List Int) : List PF.S35 := (PF.sacristanlaw25_found.f 20 l).getD []
theorem three_row (w : World) : Kd.C PF.k35 (w.alloc (.cells #[.int .i64 2, .int .i64 1, .int .i64 1, .int .i64 0, .string x1, .int .i64 1, .int .i64 0, .int .i64 (-1), .int .i64 0, .string ⟨#[]⟩, .int .i64 1, .int .i64 0, .int .i64 4294967296, .int .i64 0, .string ⟨#[]⟩] 35)) (some ⟨w.heap.size, 0, none⟩) 3 three8 := by
  have hb := alloc_new w (.cells #[.int .i64 2, .int .i64 1, .int .i64 1, .int .i64 0, .string x1, .int .i64 1, .int .i64 0, .int .i64 (-1), .int .i64 0, .string ⟨#[]⟩, .int .i64 1, .int .i64 0, .int .i64 4294967296, .int .i64 0, .string ⟨#[]⟩] 35)
  refine ⟨rfl, by decide, fun _ => ⟨_, rfl, fun j p hj => ?_⟩⟩
  refine ⟨[.int .i64 p.f0, .int .i64 p.f1, .int .i64 p.f2, .int .i64 p.f3, .string p.f4], rfl, PF.k35_mk _ p, fun i u hu => ?_⟩
  match j, hj with
  | 0, hj =>
    obtain rfl : (⟨2, 1, 1, 0, x1⟩ : PF.S35) = p := by simpa [three8] using hj
    match i, hu with
    | 0, hu => obtain rfl := Option.some.inj hu; exact (cell_of hb 0).trans rfl
    | 1, hu => obtain rfl := Option.some.inj hu; exact (cell_of hb 1).trans rfl
    | 2, hu => obtain rfl := Option.some.inj hu; exact (cell_of hb 2).trans rfl
    | 3, hu => obtain rfl := Option.some.inj hu; exact (cell_of hb 3).trans rfl
    | 4, hu => obtain rfl := Option.some.inj hu; exact (cell_of hb 4).trans rfl
  | 1, hj =>
    obtain rfl : (⟨1, 0, -1, 0, ⟨#[]⟩⟩ : PF.S35) = p := by simpa [three8] using hj
    match i, hu with
    | 0, hu => obtain rfl := Option.some.inj hu; exact (cell_of hb 5).trans rfl
    | 1, hu => obtain rfl := Option.some.inj hu; exact (cell_of hb 6).trans rfl
    | 2, hu => obtain rfl := Option.some.inj hu; exact (cell_of hb 7).trans rfl
    | 3, hu => obtain rfl := Option.some.inj hu; exact (cell_of hb 8).trans rfl
    | 4, hu => obtain rfl := Option.some.inj hu; exact (cell_of hb 9).trans rfl
  | 2, hj =>
    obtain rfl : (⟨1, 0, 4294967296, 0, ⟨#[]⟩⟩ : PF.S35) = p := by simpa [three8] using hj
    match i, hu with
    | 0, hu => obtain rfl := Option.some.inj hu; exact (cell_of hb 10).trans rfl
    | 1, hu => obtain rfl := Option.some.inj hu; exact (cell_of hb 11).trans rfl
    | 2, hu => obtain rfl := Option.some.inj hu; exact (cell_of hb 12).trans rfl
    | 3, hu => obtain rfl := Option.some.inj hu; exact (cell_of hb 13).trans rfl
    | 4, hu => obtain rfl := Option.some.inj hu; exact (cell_of hb 14).trans rfl
theorem recover_F (l : List PF.S35) (p : Plc) (hp : recover 2 3 1 (l.map gbOfF) = p) (hl : l.length ≤ 100) (hd : ∀ x ∈ l, x.f4.size ≤ 100) (A : Option Addr) (c : Nat) (w : World) (hr : Kd.C PF.k35 w A l.length l) :
    Calls Try.prog 8 #[.int .i64 2, .int .i64 3, .int .i64 1, .slice A l.length c] w fun e w' => e = .returned (.tuple #[p.val, .int .i64 0]) ∧ Below w.heap.size w w' := by
  have hdat : ∀ g ∈ l.map gbOfF, g.data.length ≤ 140737488351232 := fun g hg => by
    obtain ⟨x, hx, rfl⟩ := List.mem_map.mp hg
    show x.f4.data.toList.length ≤ _
    rw [Array.length_toList]
    exact Nat.le_trans (hd x hx) (by decide)
  have h := recover_ok 2 3 1 (l.map gbOfF) A c w (RowB_of hr) (by rw [List.length_map]; exact Nat.le_trans hl (by decide)) hdat (by decide) (by decide) (by decide) (by decide) (by decide) (by decide)
  rw [List.length_map, hp] at h
  exact h
end Go.Proofs.Ytjdmindpiaijcaa
