/- A parameter that is a block: its fields. -/
import Derived.Test.YtcdpgkefdnmkeaaStr
import Derived.Test.YtcdpgkefdnmkeaaProg
import Derived.Deep.Slices
import Derived.Deep.Fields
import Derived.ChangeSame
import Derived.SizedLaws
import Derived.Lib.SmallJoins
import Derived.WalkKit
namespace Go.Proofs.Ytcdpgkefdnmkeaa
open Go.RowKit Go.Joins Go.ChangeShapes Go.WideShapes Go.Deep

set_option maxRecDepth 100000 in
theorem open_block {H : Type} {enc : TypeId × Value → H} {w : World} {base : Nat} {spare : Nat → Bool} {held : Bool} {r : Reach} {b0 : Nat} {v : Value} {d : DataW H} {ps : List MemPlace} {ts : List TypeId} {ds : List (DataW H)} {j : Nat}
    (hsz : (DataW.weightsEach Try.prog ts ds).all (· ≤ reachBytes) = true) (htj : ts[j]? = some 23) (hdj : ds[j]? = some d) (hv : Value.okWide Try.prog w r b0 23 v) (h : DataW.Trod enc Try.prog w base spare held 23 v d ps) :
    ∃ (life boot n off : Int) (l : List UInt8), v = .agg #[.int .i64 life, .int .i64 boot, .int .i64 n, .int .i64 off, .string (S l)] ∧ l.length ≤ 140737488351232 := by
  obtain ⟨cs, rfl, hcs⟩ := okWide_struct Try.underlying23 hv
  obtain ⟨l⟩ := cs
  have hC : Try.prog.cellsOf 23 = 5 := by kernel_rfl
  match l, hcs.trans hC with
  | [c0, c1, c2, c3, c4], _ =>
    obtain ⟨fuel, hf⟩ := h
    obtain ⟨ys, m, _, hx, _, hlen, hg⟩ := DataW.trod_struct Try.underlying23 hf
    have g0 := hg 0 _ rfl
    have g1 := hg 1 _ rfl
    have g2 := hg 2 _ rfl
    have g3 := hg 3 _ rfl
    have g4 := hg 4 _ rfl
    match ys, hlen with
    | [y0, y1, y2, y3, y4], _ =>
      have e3 : Try.prog.cellsOf 3 = 1 := by kernel_rfl
      have e9 : Try.prog.cellsOf 9 = 1 := by kernel_rfl
      simp [e3, e9, Value.cells] at g0 g1 g2 g3 g4
      obtain ⟨n0, h0, _, _⟩ := DataW.trod_int Try.underlying3 g0
      obtain ⟨n1, h1, _, _⟩ := DataW.trod_int Try.underlying3 g1
      obtain ⟨n2, h2, _, _⟩ := DataW.trod_int Try.underlying3 g2
      obtain ⟨n3, h3, _, _⟩ := DataW.trod_int Try.underlying3 g3
      obtain ⟨s4, h4, k4, _⟩ := DataW.trod_string Try.underlying9 g4
      simp at h0 h1 h2 h3 h4
      subst h0 h1 h2 h3 h4
      refine ⟨n0, n1, n2, n3, s4.data.toList, by rw [S_of], ?_⟩
      injection hx with hx _
      subst hx
      have hm : s4.data.toList.length ∈ DataW.weights (H := H) Try.prog 23 (.agg (List.map (fun x => x.fst) [y0, y1, y2, y3, y4])) := by
        unfold DataW.weights
        rw [Try.underlying23]
        refine DataW.weights_mem_each (j := 4) (t := 9) (d := y4.1) rfl rfl _ ?_
        rw [show y4.1 = .lit (.string s4.data.toList) from congrArg Prod.fst k4]
        simp [DataW.weights]
      have h5 : s4.data.toList.length ≤ reachBytes := by simpa using List.all_eq_true.1 hsz _ (DataW.weights_mem_each htj hdj _ hm)
      exact h5
end Go.Proofs.Ytcdpgkefdnmkeaa
