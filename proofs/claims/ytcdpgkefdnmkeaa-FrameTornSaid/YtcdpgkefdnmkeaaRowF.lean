/- A parameter that is a frame: its fields. -/
import Derived.Test.YtcdpgkefdnmkeaaStr
import Derived.Test.YtcdpgkefdnmkeaaProg
import Derived.Deep.Slices
import Derived.Deep.Fields
import Derived.ChangeSame
import Derived.SizedLaws
import Derived.Lib.SmallJoins
import Derived.WalkKit
namespace Go.Proofs.Ytcdpgkefdnmkeaa
open Go.RowKit Go.Joins Go.ChangeShapes Go.WideShapes Go.Deep

set_option maxRecDepth 100000 in
theorem open_frame {H : Type} {enc : TypeId × Value → H} {w : World} {base : Nat} {spare : Nat → Bool} {held : Bool} {r : Reach} {b0 : Nat} {v : Value} {d : DataW H} {ps : List MemPlace} {ts : List TypeId} {ds : List (DataW H)} {j : Nat}
    (hsz : (DataW.weightsEach Try.prog ts ds).all (· ≤ reachBytes) = true) (htj : ts[j]? = some 40) (hdj : ds[j]? = some d) (hv : Value.okWide Try.prog w r b0 40 v) (h : DataW.Trod enc Try.prog w base spare held 40 v d ps) :
    ∃ (boot lsn part parts kind : Int) (l : List UInt8), v = .agg #[.int .i64 boot, .int .i64 lsn, .int .i64 part, .int .i64 parts, .int .u8 kind, .string (S l)] ∧ (0 ≤ kind ∧ kind < 256) ∧ l.length ≤ 140737488351232 := by
  obtain ⟨cs, rfl, hcs⟩ := okWide_struct Try.underlying40 hv
  obtain ⟨l⟩ := cs
  have hC : Try.prog.cellsOf 40 = 6 := by kernel_rfl
  match l, hcs.trans hC with
  | [c0, c1, c2, c3, c4, c5], _ =>
    obtain ⟨fuel, hf⟩ := h
    obtain ⟨ys, m, _, hx, _, hlen, hg⟩ := DataW.trod_struct Try.underlying40 hf
    have g0 := hg 0 _ rfl
    have g1 := hg 1 _ rfl
    have g2 := hg 2 _ rfl
    have g3 := hg 3 _ rfl
    have g4 := hg 4 _ rfl
    have g5 := hg 5 _ rfl
    match ys, hlen with
    | [y0, y1, y2, y3, y4, y5], _ =>
      have e3 : Try.prog.cellsOf 3 = 1 := by kernel_rfl
      have e5 : Try.prog.cellsOf 5 = 1 := by kernel_rfl
      have e9 : Try.prog.cellsOf 9 = 1 := by kernel_rfl
      simp [e3, e5, e9, Value.cells] at g0 g1 g2 g3 g4 g5
      obtain ⟨n0, h0, _, _⟩ := DataW.trod_int Try.underlying3 g0
      obtain ⟨n1, h1, _, _⟩ := DataW.trod_int Try.underlying3 g1
      obtain ⟨n2, h2, _, _⟩ := DataW.trod_int Try.underlying3 g2
      obtain ⟨n3, h3, _, _⟩ := DataW.trod_int Try.underlying3 g3
      obtain ⟨n4, h4, _, wf4⟩ := DataW.trod_int Try.underlying5 g4
      obtain ⟨s5, h5, k5, _⟩ := DataW.trod_string Try.underlying9 g5
      simp at h0 h1 h2 h3 h4 h5
      subst h0 h1 h2 h3 h4 h5
      refine ⟨n0, n1, n2, n3, n4, s5.data.toList, by rw [S_of], ?_, ?_⟩
      · simp [Lit.wf, IntKind.min, IntKind.max, IntKind.signed, IntKind.bits] at wf4
        omega
      injection hx with hx _
      subst hx
      have hm : s5.data.toList.length ∈ DataW.weights (H := H) Try.prog 40 (.agg (List.map (fun x => x.fst) [y0, y1, y2, y3, y4, y5])) := by
        unfold DataW.weights
        rw [Try.underlying40]
        refine DataW.weights_mem_each (j := 5) (t := 9) (d := y5.1) rfl rfl _ ?_
        rw [show y5.1 = .lit (.string s5.data.toList) from congrArg Prod.fst k5]
        simp [DataW.weights]
      have h6 : s5.data.toList.length ≤ reachBytes := by simpa using List.all_eq_true.1 hsz _ (DataW.weights_mem_each htj hdj _ hm)
      exact h6
end Go.Proofs.Ytcdpgkefdnmkeaa
