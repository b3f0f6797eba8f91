/- A parameter that is a slice of the calls of DiskDoes. -/
import Derived.Test.YtjpelmjocdodcaaLab
import Derived.Deep.Slices
import Derived.Deep.Fields
import Derived.ChangeSame
import Derived.SizedLaws
namespace Go.Proofs.Ytjpelmjocdodcaa
open Go.RowKit Go.ChangeShapes Go.WideShapes Go.Deep

theorem cells_act4 : Try.prog.cellsOf 68 = 6 := by kernel_rfl
structure Act4 where
  d : Nat
  i : Int
  b : Nat
  keep : Int
  torn : Int
  bytes : Int
deriving Inhabited
def Act4At (w : World) (x : Addr) (p : Act4) : Prop :=
  p.d < 256 ∧ p.b < 256 ∧ p.i ≤ 9223372036854775807 ∧ w.cell? x = some (.int .u8 (p.d : Int)) ∧ w.cell? ⟨x.block, x.off + 1, none⟩ = some (.int .i64 p.i) ∧ w.cell? ⟨x.block, x.off + 2, none⟩ = some (.int .u8 (p.b : Int)) ∧
    w.cell? ⟨x.block, x.off + 3, none⟩ = some (.int .u64 p.keep) ∧ w.cell? ⟨x.block, x.off + 4, none⟩ = some (.int .i64 p.torn) ∧ w.cell? ⟨x.block, x.off + 5, none⟩ = some (.int .i64 p.bytes)
theorem u8_nat4 {n : Int} (h : (Lit.int .u8 n).wf = true) : ∃ k : Nat, n = (k : Int) ∧ k < 256 := by
  simp [Lit.wf, IntKind.min, IntKind.max, IntKind.signed, IntKind.bits] at h
  exact ⟨n.toNat, by omega, by omega⟩
theorem one_act4 (w : World) {H : Type} {enc : TypeId × Value → H} {base : Nat} {spare : Nat → Bool} {held : Bool} {n b0 : Nat} {x : Addr} {cs : List Value} {d : DataW H} {ps : List MemPlace}
    (hc : w.cells? b0 x (Try.prog.cellsOf 68) = some cs) (ht : DataW.trod enc Try.prog w base spare held n 68 cs = some (d, ps)) : ∃ p : Act4, Act4At w x p := by
  obtain ⟨_, hcl, hat⟩ := World.cells?_some hc
  rw [cells_act4] at hcl hat
  match cs, hcl with
  | [c0, c1, c2, c3, c4, c5], _ =>
    obtain ⟨ys, m, hm, hx, _, hlen, hg⟩ := DataW.trod_struct Try.underlying68 ht
    have g0 := hg 0 _ rfl
    have g1 := hg 1 _ rfl
    have g2 := hg 2 _ rfl
    have g3 := hg 3 _ rfl
    match ys, hlen with
    | [y0, y1, y2, y3], _ =>
      have e5 : Try.prog.cellsOf 5 = 1 := by kernel_rfl
      have e3 : Try.prog.cellsOf 3 = 1 := by kernel_rfl
      have eC : Try.prog.cellsOf 39 = 3 := by kernel_rfl
      simp [e5, e3, eC] at g0 g1 g2 g3
      obtain ⟨n0, h0, _, wf0⟩ := DataW.trod_int Try.underlying5 g0
      obtain ⟨n1, h1, _, wf1⟩ := DataW.trod_int Try.underlying3 g1
      obtain ⟨n2, h2, _, wf2⟩ := DataW.trod_int Try.underlying5 g2
      obtain ⟨zs, m3, _, hx3, _, hlen3, hg3⟩ := DataW.trod_struct Try.underlying39 g3
      have q0 := hg3 0 _ rfl
      have q1 := hg3 1 _ rfl
      have q2 := hg3 2 _ rfl
      match zs, hlen3 with
      | [z0, z1, z2], _ =>
        have e8 : Try.prog.cellsOf 37 = 1 := by kernel_rfl
        simp [e3, e8] at q0 q1 q2
        obtain ⟨n3, h3, _, _⟩ := DataW.trod_int Try.underlying37 q0
        obtain ⟨n4, h4, _, _⟩ := DataW.trod_int Try.underlying3 q1
        obtain ⟨n5, h5, _, _⟩ := DataW.trod_int Try.underlying3 q2
        simp at h0 h1 h2 h3 h4 h5
        subst h0 h1 h2 h3 h4 h5
        obtain ⟨k0, rfl, r0⟩ := u8_nat4 wf0
        obtain ⟨k2, rfl, r2⟩ := u8_nat4 wf2
        simp [Lit.wf, IntKind.min, IntKind.max, IntKind.signed, IntKind.bits] at wf1
        exact ⟨⟨k0, n1, k2, n3, n4, n5⟩, r0, r2, by dsimp only; omega, hat 0 (by decide), hat 1 (by decide), hat 2 (by decide), hat 3 (by decide), hat 4 (by decide), hat 5 (by decide)⟩
/-- The slice A holds the calls l. -/
def Acts4At (w : World) (A : Option Addr) (l : List Act4) : Prop := ∀ i (h : i < l.length), ∃ ad : Addr, A = some ad ∧ Act4At w (ad.add (i * 6)) l[i]
theorem Acts4At.below {w w' : World} {A : Option Addr} {l : List Act4} (h : Acts4At w A l) (b : Below w.heap.size w w') : Acts4At w' A l := fun i hi => by
  obtain ⟨ad, hA, h1, h2, h3, c0, c1, c2, c3, c4, c5⟩ := h i hi
  exact ⟨ad, hA, h1, h2, h3, below_cell b c0, below_cell b c1, below_cell b c2, below_cell b c3, below_cell b c4, below_cell b c5⟩
theorem open_acts4 {H : Type} {enc : TypeId × Value → H} {w : World} {base : Nat} {spare : Nat → Bool} {held : Bool} {a : Option Addr} {len cap : Nat} {d : DataW H} {ps : List MemPlace}
    (h : DataW.Trod enc Try.prog w base spare held 65 (.slice a len cap) d ps) : ∃ l : List Act4, len = l.length ∧ Acts4At w a l := by
  obtain ⟨fuel, hf⟩ := h
  rcases open_slice Try.underlying65 hf with ⟨hcs, _⟩ | ⟨x, ln, c, m, n, D, Pl, hcs, hb, hl, hm, hmm, hx, hi⟩
  · simp [Value.cells] at hcs
    obtain ⟨rfl, rfl, rfl⟩ := hcs
    exact ⟨[], rfl, fun i hi => absurd hi (by simp)⟩
  · simp [Value.cells] at hcs
    obtain ⟨rfl, rfl, rfl⟩ := hcs
    have hlm : len ≤ m := by rw [hmm]; split <;> omega
    have key : ∀ i, ∃ p : Act4, i < len → Act4At w (x.add (i * 6)) p := fun i => by
      by_cases hil : i < len
      · obtain ⟨cs, hc, htr⟩ := hi i (by omega)
        obtain ⟨g, h1⟩ := one_act4 w hc htr
        rw [cells_act4] at h1
        exact ⟨g, fun _ => h1⟩
      · exact ⟨default, fun h => absurd h hil⟩
    refine ⟨(List.range len).map fun i => Classical.choose (key i), by simp, fun i hi => ?_⟩
    have hil : i < len := by simpa using hi
    have h := Classical.choose_spec (key i) hil
    simp only [List.getElem_map, List.getElem_range]
    exact ⟨x, rfl, h⟩
end Go.Proofs.Ytjpelmjocdodcaa
