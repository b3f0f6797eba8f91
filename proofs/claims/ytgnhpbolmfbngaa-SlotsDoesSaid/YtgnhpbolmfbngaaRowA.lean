/- A parameter that is a slice of the calls of SlotsDoes. -/
import Derived.Test.YtgnhpbolmfbngaaLab
import Derived.Deep.Slices
import Derived.Deep.Fields
import Derived.ChangeSame
import Derived.SizedLaws
namespace Go.Proofs.Ytgnhpbolmfbngaa
open Go.RowKit Go.ChangeShapes Go.WideShapes Go.Deep

theorem cells_act7 : Try.prog.cellsOf 78 = 10 := by kernel_rfl
structure Act7 where
  d : Nat
  seq : Int
  boot : Int
  area : Int
  first : Int
  snaps : Int
  k : Int
  keep : Int
  torn : Int
  bytes : Int
deriving Inhabited
def Act7At (w : World) (x : Addr) (p : Act7) : Prop :=
  p.d < 256 ∧ p.k ≤ 9223372036854775807 ∧ w.cell? x = some (.int .u8 (p.d : Int)) ∧ w.cell? ⟨x.block, x.off + 1, none⟩ = some (.int .i64 p.seq) ∧ w.cell? ⟨x.block, x.off + 2, none⟩ = some (.int .i64 p.boot) ∧ w.cell? ⟨x.block, x.off + 3, none⟩ = some (.int .i64 p.area) ∧ w.cell? ⟨x.block, x.off + 4, none⟩ = some (.int .i64 p.first) ∧ w.cell? ⟨x.block, x.off + 5, none⟩ = some (.int .i64 p.snaps) ∧
    w.cell? ⟨x.block, x.off + 6, none⟩ = some (.int .i64 p.k) ∧ w.cell? ⟨x.block, x.off + 7, none⟩ = some (.int .u64 p.keep) ∧ w.cell? ⟨x.block, x.off + 8, none⟩ = some (.int .i64 p.torn) ∧ w.cell? ⟨x.block, x.off + 9, none⟩ = some (.int .i64 p.bytes)
theorem u8_nat7 {n : Int} (h : (Lit.int .u8 n).wf = true) : ∃ k : Nat, n = (k : Int) ∧ k < 256 := by
  simp [Lit.wf, IntKind.min, IntKind.max, IntKind.signed, IntKind.bits] at h
  exact ⟨n.toNat, by omega, by omega⟩
theorem one_act7 (w : World) {H : Type} {enc : TypeId × Value → H} {base : Nat} {spare : Nat → Bool} {held : Bool} {n b0 : Nat} {x : Addr} {cs : List Value} {d : DataW H} {ps : List MemPlace}
    (hc : w.cells? b0 x (Try.prog.cellsOf 78) = some cs) (ht : DataW.trod enc Try.prog w base spare held n 78 cs = some (d, ps)) : ∃ p : Act7, Act7At w x p := by
  obtain ⟨_, hcl, hat⟩ := World.cells?_some hc
  rw [cells_act7] at hcl hat
  match cs, hcl with
  | [c0, c1, c2, c3, c4, c5, c6, c7, c8, c9], _ =>
    obtain ⟨ys, m, hm, hx, _, hlen, hg⟩ := DataW.trod_struct Try.underlying78 ht
    have g0 := hg 0 _ rfl
    have g1 := hg 1 _ rfl
    have g2 := hg 2 _ rfl
    have g3 := hg 3 _ rfl
    match ys, hlen with
    | [y0, y1, y2, y3], _ =>
      have e5 : Try.prog.cellsOf 5 = 1 := by kernel_rfl
      have e3 : Try.prog.cellsOf 3 = 1 := by kernel_rfl
      have eH : Try.prog.cellsOf 40 = 5 := by kernel_rfl
      have eC : Try.prog.cellsOf 61 = 3 := by kernel_rfl
      simp [e5, e3, eH, eC] at g0 g1 g2 g3
      obtain ⟨n0, h0, _, wf0⟩ := DataW.trod_int Try.underlying5 g0
      obtain ⟨n6, h6, _, wf6⟩ := DataW.trod_int Try.underlying3 g2
      obtain ⟨us, m1, _, hx1, _, hlen1, hg1⟩ := DataW.trod_struct Try.underlying40 g1
      have p0 := hg1 0 _ rfl
      have p1 := hg1 1 _ rfl
      have p2 := hg1 2 _ rfl
      have p3 := hg1 3 _ rfl
      have p4 := hg1 4 _ rfl
      obtain ⟨zs, m3, _, hx3, _, hlen3, hg3⟩ := DataW.trod_struct Try.underlying61 g3
      have q0 := hg3 0 _ rfl
      have q1 := hg3 1 _ rfl
      have q2 := hg3 2 _ rfl
      match us, hlen1, zs, hlen3 with
      | [u0, u1, u2, u3, u4], _, [z0, z1, z2], _ =>
        have e8 : Try.prog.cellsOf 59 = 1 := by kernel_rfl
        simp [e3] at p0 p1 p2 p3 p4
        simp [e3, e8] at q0 q1 q2
        obtain ⟨n1, h1, _, _⟩ := DataW.trod_int Try.underlying3 p0
        obtain ⟨n2, h2, _, _⟩ := DataW.trod_int Try.underlying3 p1
        obtain ⟨n3, h3, _, _⟩ := DataW.trod_int Try.underlying3 p2
        obtain ⟨n4, h4, _, _⟩ := DataW.trod_int Try.underlying3 p3
        obtain ⟨n5, h5, _, _⟩ := DataW.trod_int Try.underlying3 p4
        obtain ⟨n7, h7, _, _⟩ := DataW.trod_int Try.underlying59 q0
        obtain ⟨n8, h8, _, _⟩ := DataW.trod_int Try.underlying3 q1
        obtain ⟨n9, h9, _, _⟩ := DataW.trod_int Try.underlying3 q2
        simp at h0 h1 h2 h3 h4 h5 h6 h7 h8 h9
        subst h0 h1 h2 h3 h4 h5 h6 h7 h8 h9
        obtain ⟨k0, rfl, r0⟩ := u8_nat7 wf0
        simp [Lit.wf, IntKind.min, IntKind.max, IntKind.signed, IntKind.bits] at wf6
        exact ⟨⟨k0, n1, n2, n3, n4, n5, n6, n7, n8, n9⟩, r0, by dsimp only; omega, hat 0 (by decide), hat 1 (by decide), hat 2 (by decide), hat 3 (by decide), hat 4 (by decide), hat 5 (by decide), hat 6 (by decide), hat 7 (by decide), hat 8 (by decide), hat 9 (by decide)⟩
/-- The slice A holds the calls l. -/
def Acts7At (w : World) (A : Option Addr) (l : List Act7) : Prop := ∀ i (h : i < l.length), ∃ ad : Addr, A = some ad ∧ Act7At w (ad.add (i * 10)) l[i]
theorem Acts7At.below {w w' : World} {A : Option Addr} {l : List Act7} (h : Acts7At w A l) (b : Below w.heap.size w w') : Acts7At w' A l := fun i hi => by
  obtain ⟨ad, hA, h1, h2, c0, c1, c2, c3, c4, c5, c6, c7, c8, c9⟩ := h i hi
  exact ⟨ad, hA, h1, h2, below_cell b c0, below_cell b c1, below_cell b c2, below_cell b c3, below_cell b c4, below_cell b c5, below_cell b c6, below_cell b c7, below_cell b c8, below_cell b c9⟩
theorem open_acts7 {H : Type} {enc : TypeId × Value → H} {w : World} {base : Nat} {spare : Nat → Bool} {held : Bool} {a : Option Addr} {len cap : Nat} {d : DataW H} {ps : List MemPlace}
    (h : DataW.Trod enc Try.prog w base spare held 76 (.slice a len cap) d ps) : ∃ l : List Act7, len = l.length ∧ Acts7At w a l := by
  obtain ⟨fuel, hf⟩ := h
  rcases open_slice Try.underlying76 hf with ⟨hcs, _⟩ | ⟨x, ln, c, m, n, D, Pl, hcs, hb, hl, hm, hmm, hx, hi⟩
  · simp [Value.cells] at hcs
    obtain ⟨rfl, rfl, rfl⟩ := hcs
    exact ⟨[], rfl, fun i hi => absurd hi (by simp)⟩
  · simp [Value.cells] at hcs
    obtain ⟨rfl, rfl, rfl⟩ := hcs
    have hlm : len ≤ m := by rw [hmm]; split <;> omega
    have key : ∀ i, ∃ p : Act7, i < len → Act7At w (x.add (i * 10)) p := fun i => by
      by_cases hil : i < len
      · obtain ⟨cs, hc, htr⟩ := hi i (by omega)
        obtain ⟨g, h1⟩ := one_act7 w hc htr
        rw [cells_act7] at h1
        exact ⟨g, fun _ => h1⟩
      · exact ⟨default, fun h => absurd h hil⟩
    refine ⟨(List.range len).map fun i => Classical.choose (key i), by simp, fun i hi => ?_⟩
    have hil : i < len := by simpa using hi
    have h := Classical.choose_spec (key i) hil
    simp only [List.getElem_map, List.getElem_range]
    exact ⟨x, rfl, h⟩
end Go.Proofs.Ytgnhpbolmfbngaa
