/- A parameter that is a slice of strings. -/
import Derived.Test.YtjpelmjocdodcaaLab
import Derived.Deep.Slices
import Derived.Deep.Fields
import Derived.ChangeSame
import Derived.SizedLaws
namespace Go.Proofs.Ytjpelmjocdodcaa
open Go.RowKit Go.ChangeShapes Go.WideShapes Go.Deep

/-- The slice A holds the strings l. -/
def StrsAt (w : World) (A : Option Addr) (l : List (List UInt8)) : Prop := ∀ i, i < l.length → ∃ ad : Addr, A = some ad ∧ w.cell? (ad.add i) = some (.string (S (secAt l i)))
theorem StrsAt.below {w w' : World} {A : Option Addr} {l : List (List UInt8)} (h : StrsAt w A l) (b : Below w.heap.size w w') : StrsAt w' A l := fun i hi => by
  obtain ⟨ad, hA, c⟩ := h i hi
  exact ⟨ad, hA, below_cell b c⟩
theorem open_strs {H : Type} {enc : TypeId × Value → H} {w : World} {base : Nat} {spare : Nat → Bool} {held : Bool} {a : Option Addr} {len cap : Nat} {d : DataW H} {ps : List MemPlace}
    (h : DataW.Trod enc Try.prog w base spare held 25 (.slice a len cap) d ps) : ∃ l : List (List UInt8), len = l.length ∧ StrsAt w a l := by
  obtain ⟨fuel, hf⟩ := h
  rcases open_slice Try.underlying25 hf with ⟨hcs, _⟩ | ⟨x, ln, c, m, n, D, Pl, hcs, hb, hl, hm, hmm, hx, hi⟩
  · simp [Value.cells] at hcs
    obtain ⟨rfl, rfl, rfl⟩ := hcs
    exact ⟨[], rfl, fun i hi => absurd hi (by simp)⟩
  · simp [Value.cells] at hcs
    obtain ⟨rfl, rfl, rfl⟩ := hcs
    have hlm : len ≤ m := by rw [hmm]; split <;> omega
    have e9 : Try.prog.cellsOf 9 = 1 := by kernel_rfl
    have key : ∀ i, ∃ s : List UInt8, i < len → w.cell? (x.add i) = some (.string (S s)) := fun i => by
      by_cases hil : i < len
      · obtain ⟨cs, hc, htr⟩ := hi i (by omega)
        obtain ⟨_, hcl, hat⟩ := World.cells?_some hc
        rw [e9] at hcl hat
        match cs, hcl with
        | [c0], _ =>
          obtain ⟨s4, h4, k4, _⟩ := DataW.trod_string Try.underlying9 htr
          simp at h4
          subst h4
          have a0 := hat 0 (by decide)
          rw [Nat.mul_one] at a0
          exact ⟨s4.data.toList, fun _ => a0.trans (congrArg (fun x => some (Value.string x)) (S_of _).symm)⟩
      · exact ⟨[], fun h => absurd h hil⟩
    refine ⟨(List.range len).map fun i => Classical.choose (key i), by simp, fun i hi => ?_⟩
    have hil : i < len := by simpa using hi
    refine ⟨x, rfl, ?_⟩
    have h0 := Classical.choose_spec (key i) hil
    unfold secAt
    rw [List.getD_eq_getElem?_getD, List.getElem?_map, List.getElem?_range hil]
    exact h0
end Go.Proofs.Ytjpelmjocdodcaa
