/- Parameters of the disk laws: a slice of writes, a choice. -/
import Derived.Test.YtjpelmjocdodcaaFilled
import Derived.Deep.Slices
import Derived.Deep.Fields
import Derived.ChangeSame
import Derived.SizedLaws
namespace Go.Proofs.Ytjpelmjocdodcaa
open Go.RowKit Go.ChangeShapes Go.WideShapes Go.Deep

theorem cells_put : Try.prog.cellsOf 42 = 2 := by kernel_rfl
def PutAt (w : World) (x : Addr) (p : Nat × Nat) : Prop :=
  p.1 < 256 ∧ p.2 < 256 ∧ w.cell? x = some (.int .u8 (p.1 : Int)) ∧ w.cell? ⟨x.block, x.off + 1, none⟩ = some (.int .u8 (p.2 : Int))
theorem u8_nat {n : Int} (h : (Lit.int .u8 n).wf = true) : ∃ k : Nat, n = (k : Int) ∧ k < 256 := by
  simp [Lit.wf, IntKind.min, IntKind.max, IntKind.signed, IntKind.bits] at h
  exact ⟨n.toNat, by omega, by omega⟩
theorem one_put (w : World) {H : Type} {enc : TypeId × Value → H} {base : Nat} {spare : Nat → Bool} {held : Bool} {n b0 : Nat} {x : Addr} {cs : List Value} {d : DataW H} {ps : List MemPlace}
    (hc : w.cells? b0 x (Try.prog.cellsOf 42) = some cs) (ht : DataW.trod enc Try.prog w base spare held n 42 cs = some (d, ps)) : ∃ p : Nat × Nat, PutAt w x p := by
  obtain ⟨_, hcl, hat⟩ := World.cells?_some hc
  rw [cells_put] at hcl hat
  match cs, hcl with
  | [c0, c1], _ =>
    obtain ⟨ys, m, _, hx, _, hlen, hg⟩ := DataW.trod_struct Try.underlying42 ht
    have g0 := hg 0 _ rfl
    have g1 := hg 1 _ rfl
    match ys, hlen with
    | [y0, y1], _ =>
      have e5 : Try.prog.cellsOf 5 = 1 := by kernel_rfl
      simp [e5] at g0 g1
      obtain ⟨n0, h0, _, wf0⟩ := DataW.trod_int Try.underlying5 g0
      obtain ⟨n1, h1, _, wf1⟩ := DataW.trod_int Try.underlying5 g1
      simp at h0 h1
      subst h0 h1
      obtain ⟨k0, rfl, q0⟩ := u8_nat wf0
      obtain ⟨k1, rfl, q1⟩ := u8_nat wf1
      exact ⟨(k0, k1), q0, q1, hat 0 (by decide), hat 1 (by decide)⟩
theorem open_puts {H : Type} {enc : TypeId × Value → H} {w : World} {base : Nat} {spare : Nat → Bool} {held : Bool} {a : Option Addr} {len cap : Nat} {d : DataW H} {ps : List MemPlace}
    (h : DataW.Trod enc Try.prog w base spare held 22 (.slice a len cap) d ps) : ∃ l : List (Nat × Nat), len = l.length ∧ PutsAt w a l := by
  obtain ⟨fuel, hf⟩ := h
  rcases open_slice Try.underlying22 hf with ⟨hcs, _⟩ | ⟨x, ln, c, m, n, D, Pl, hcs, hb, hl, hm, hmm, hx, hi⟩
  · simp [Value.cells] at hcs
    obtain ⟨rfl, rfl, rfl⟩ := hcs
    exact ⟨[], rfl, fun i hi => absurd hi (by simp)⟩
  · simp [Value.cells] at hcs
    obtain ⟨rfl, rfl, rfl⟩ := hcs
    have hlm : len ≤ m := by rw [hmm]; split <;> omega
    have key : ∀ i, ∃ p : Nat × Nat, i < len → PutAt w (x.add (i * 2)) p := fun i => by
      by_cases hil : i < len
      · obtain ⟨cs, hc, htr⟩ := hi i (by omega)
        obtain ⟨g, h1⟩ := one_put w hc htr
        rw [cells_put] at h1
        exact ⟨g, fun _ => h1⟩
      · exact ⟨(0, 0), fun h => absurd h hil⟩
    refine ⟨(List.range len).map fun i => Classical.choose (key i), by simp, fun i hi => ?_⟩
    have hil : i < len := by simpa using hi
    obtain ⟨h0, h1, h2, h3⟩ := Classical.choose_spec (key i) hil
    simp only [List.getElem_map, List.getElem_range]
    exact ⟨h0, h1, x, rfl, h2, h3⟩
set_option maxRecDepth 100000 in
theorem open_choice {H : Type} {enc : TypeId × Value → H} {w : World} {base : Nat} {spare : Nat → Bool} {held : Bool} {r : Reach} {b0 : Nat} {v : Value} {d : DataW H} {ps : List MemPlace}
    (hv : Value.okWide Try.prog w r b0 39 v) (h : DataW.Trod enc Try.prog w base spare held 39 v d ps) :
    ∃ (keep torn bytes : Int), v = .agg #[.int .u64 keep, .int .i64 torn, .int .i64 bytes] ∧ (Lit.int .u64 keep).wf = true ∧ (Lit.int .i64 torn).wf = true ∧ (Lit.int .i64 bytes).wf = true := by
  obtain ⟨cs, rfl, hcs⟩ := okWide_struct Try.underlying39 hv
  obtain ⟨l⟩ := cs
  have hC : Try.prog.cellsOf 39 = 3 := by kernel_rfl
  match l, hcs.trans hC with
  | [c0, c1, c2], _ =>
    obtain ⟨fuel, hf⟩ := h
    obtain ⟨ys, m, _, hx, _, hlen, hg⟩ := DataW.trod_struct Try.underlying39 hf
    have g0 := hg 0 _ rfl
    have g1 := hg 1 _ rfl
    have g2 := hg 2 _ rfl
    match ys, hlen with
    | [y0, y1, y2], _ =>
      have e3 : Try.prog.cellsOf 3 = 1 := by kernel_rfl
      have e8 : Try.prog.cellsOf 37 = 1 := by kernel_rfl
      simp [e3, e8, Value.cells] at g0 g1 g2
      obtain ⟨n0, h0, _, w0⟩ := DataW.trod_int Try.underlying37 g0
      obtain ⟨n1, h1, _, w1⟩ := DataW.trod_int Try.underlying3 g1
      obtain ⟨n2, h2, _, w2⟩ := DataW.trod_int Try.underlying3 g2
      simp at h0 h1 h2
      subst h0 h1 h2
      exact ⟨n0, n1, n2, rfl, w0, w1, w2⟩
end Go.Proofs.Ytjpelmjocdodcaa
