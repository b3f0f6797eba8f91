/- A parameter that is a slice of blocks: its elements as a list, and how long their data can be. -/
import Derived.Test.YtndfeihlmhhgpaaRing
import Derived.Deep.Slices
import Derived.Deep.Fields
import Derived.ChangeSame
import Derived.SizedLaws
namespace Go.Proofs.Ytndfeihlmhhgpaa
open Go.RowKit Go.ChangeShapes Go.WideShapes Go.Deep

theorem weights_in {H : Type} {P : Program} {e : TypeId} {d : DataW H} {n : Nat} (hn : n ∈ d.weights P e) : ∀ {l : List (DataW H)}, d ∈ l → n ∈ DataW.weightsAll P e l
  | c :: r, hd => by
    unfold DataW.weightsAll
    rcases List.mem_cons.1 hd with rfl | h
    · exact List.mem_append_left _ hn
    · exact List.mem_append_right _ (weights_in hn h)
/-- One block in memory. -/
def BlockAt (w : World) (x : Addr) (g : GB) : Prop :=
  w.cell? x = some (.int .i64 g.life) ∧ w.cell? ⟨x.block, x.off + 1, none⟩ = some (.int .i64 g.boot) ∧ w.cell? ⟨x.block, x.off + 2, none⟩ = some (.int .i64 g.n) ∧ w.cell? ⟨x.block, x.off + 3, none⟩ = some (.int .i64 g.off) ∧
    w.cell? ⟨x.block, x.off + 4, none⟩ = some (.string (S g.data))
theorem cells_block : Try.prog.cellsOf 29 = 5 := by kernel_rfl
theorem one_block (w : World) {H : Type} {enc : TypeId × Value → H} {base : Nat} {spare : Nat → Bool} {held : Bool} {n b0 : Nat} {x : Addr} {cs : List Value} {d : DataW H} {ps : List MemPlace}
    (hc : w.cells? b0 x (Try.prog.cellsOf 29) = some cs) (ht : DataW.trod enc Try.prog w base spare held n 29 cs = some (d, ps)) :
    ∃ g : GB, BlockAt w x g ∧ g.data.length ∈ d.weights Try.prog 29 := by
  obtain ⟨_, hcl, hat⟩ := World.cells?_some hc
  rw [cells_block] at hcl hat
  match cs, hcl with
  | [c0, c1, c2, c3, c4], _ =>
    obtain ⟨ys, m, _, hx, _, hlen, hg⟩ := DataW.trod_struct Try.underlying29 ht
    have g0 := hg 0 _ rfl
    have g1 := hg 1 _ rfl
    have g2 := hg 2 _ rfl
    have g3 := hg 3 _ rfl
    have g4 := hg 4 _ rfl
    match ys, hlen with
    | [y0, y1, y2, y3, y4], _ =>
      have e3 : Try.prog.cellsOf 3 = 1 := by kernel_rfl
      have e9 : Try.prog.cellsOf 9 = 1 := by kernel_rfl
      simp [e3, e9] at g0 g1 g2 g3 g4
      obtain ⟨n0, h0, _, _⟩ := DataW.trod_int Try.underlying3 g0
      obtain ⟨n1, h1, _, _⟩ := DataW.trod_int Try.underlying3 g1
      obtain ⟨n2, h2, _, _⟩ := DataW.trod_int Try.underlying3 g2
      obtain ⟨n3, h3, _, _⟩ := DataW.trod_int Try.underlying3 g3
      obtain ⟨s4, h4, k4, _⟩ := DataW.trod_string Try.underlying9 g4
      simp at h0 h1 h2 h3 h4
      subst h0 h1 h2 h3 h4
      have a0 := hat 0 (by decide)
      have a1 := hat 1 (by decide)
      have a2 := hat 2 (by decide)
      have a3 := hat 3 (by decide)
      have a4 := hat 4 (by decide)
      refine ⟨⟨n0, n1, n2, n3, s4.data.toList⟩, ⟨a0, a1, a2, a3, a4.trans (congrArg (fun x => some (Value.string x)) (S_of _).symm)⟩, ?_⟩
      injection hx with hx _
      subst hx
      show s4.data.toList.length ∈ _
      unfold DataW.weights
      rw [Try.underlying29]
      refine DataW.weights_mem_each (j := 4) (t := 9) (d := y4.1) rfl rfl _ ?_
      rw [show y4.1 = .lit (.string s4.data.toList) from congrArg Prod.fst k4]
      simp [DataW.weights]
theorem open_blocks {H : Type} {enc : TypeId × Value → H} {w : World} {base : Nat} {spare : Nat → Bool} {held : Bool} {a : Option Addr} {len cap : Nat} {d : DataW H} {ps : List MemPlace} {ts : List TypeId} {ds : List (DataW H)} {j : Nat}
    (hsz : (DataW.weightsEach Try.prog ts ds).all (· ≤ reachBytes) = true) (ht : ts[j]? = some 26) (hd : ds[j]? = some d) (h : DataW.Trod enc Try.prog w base spare held 26 (.slice a len cap) d ps) :
    ∃ l : List GB, len = l.length ∧ RowB w a l ∧ ∀ g ∈ l, g.data.length ≤ 140737488351232 := by
  obtain ⟨fuel, hf⟩ := h
  rcases open_slice Try.underlying26 hf with ⟨hcs, _⟩ | ⟨x, ln, c, m, n, D, Pl, hcs, hb, hl, hm, hmm, hx, hi⟩
  · simp [Value.cells] at hcs
    obtain ⟨rfl, rfl, rfl⟩ := hcs
    exact ⟨[], rfl, fun i hi => absurd hi (by simp), fun g hg => by cases hg⟩
  · simp [Value.cells] at hcs
    obtain ⟨rfl, rfl, rfl⟩ := hcs
    injection hx with hx _
    have hlm : len ≤ m := by rw [hmm]; split <;> omega
    have key : ∀ i, ∃ g : GB, i < len → BlockAt w (x.add (i * 5)) g ∧ g.data.length ≤ 140737488351232 := fun i => by
      by_cases hil : i < len
      · obtain ⟨cs, hc, htr⟩ := hi i (by omega)
        obtain ⟨g, h1, h2⟩ := one_block w hc htr
        rw [cells_block] at h1
        refine ⟨g, fun _ => ⟨h1, ?_⟩⟩
        have h3 : g.data.length ∈ d.weights Try.prog 26 := by
          rw [hx]
          unfold DataW.weights
          rw [Try.underlying26]
          refine List.mem_cons_of_mem _ (List.mem_append_left _ (weights_in h2 (List.mem_map.2 ⟨i, List.mem_range.2 hil, rfl⟩)))
        have h4 := List.all_eq_true.1 hsz _ (DataW.weights_mem_each ht hd _ h3)
        have h5 : g.data.length ≤ reachBytes := by simpa using h4
        exact h5
      · exact ⟨GB.zero, fun h => absurd h hil⟩
    refine ⟨(List.range len).map fun i => Classical.choose (key i), by simp, fun i hi => ?_, fun g hg => ?_⟩
    · have hil : i < len := by simpa using hi
      obtain ⟨⟨h0, h1, h2, h3, h4⟩, _⟩ := Classical.choose_spec (key i) hil
      simp only [List.getElem_map, List.getElem_range]
      exact ⟨x, rfl, h0, h1, h2, h3, h4⟩
    · obtain ⟨i, hi, rfl⟩ := List.mem_map.1 hg
      exact (Classical.choose_spec (key i) (List.mem_range.1 hi)).2
end Go.Proofs.Ytndfeihlmhhgpaa
