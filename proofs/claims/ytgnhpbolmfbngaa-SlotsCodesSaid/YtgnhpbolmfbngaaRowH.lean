/- A parameter that is a header. -/
import Derived.Test.YtgnhpbolmfbngaaStr
import Derived.Test.YtgnhpbolmfbngaaProg
import Derived.Deep.Slices
import Derived.Deep.Fields
import Derived.ChangeSame
import Derived.SizedLaws
import Derived.WalkKit
namespace Go.Proofs.Ytgnhpbolmfbngaa
open Go.RowKit Go.ChangeShapes Go.WideShapes Go.Deep

set_option maxRecDepth 100000 in
theorem open_head {H : Type} {enc : TypeId × Value → H} {w : World} {base : Nat} {spare : Nat → Bool} {held : Bool} {r : Reach} {b0 : Nat} {v : Value} {d : DataW H} {ps : List MemPlace}
    (hv : Value.okWide Try.prog w r b0 40 v) (h : DataW.Trod enc Try.prog w base spare held 40 v d ps) :
    ∃ (seq boot area first snaps : Int), v = .agg #[.int .i64 seq, .int .i64 boot, .int .i64 area, .int .i64 first, .int .i64 snaps] := by
  obtain ⟨cs, rfl, hcs⟩ := okWide_struct Try.underlying40 hv
  obtain ⟨l⟩ := cs
  have hC : Try.prog.cellsOf 40 = 5 := by kernel_rfl
  match l, hcs.trans hC with
  | [c0, c1, c2, c3, c4], _ =>
    obtain ⟨fuel, hf⟩ := h
    obtain ⟨ys, m, _, hx, _, hlen, hg⟩ := DataW.trod_struct Try.underlying40 hf
    have g0 := hg 0 _ rfl
    have g1 := hg 1 _ rfl
    have g2 := hg 2 _ rfl
    have g3 := hg 3 _ rfl
    have g4 := hg 4 _ rfl
    match ys, hlen with
    | [y0, y1, y2, y3, y4], _ =>
      have e3 : Try.prog.cellsOf 3 = 1 := by kernel_rfl
      simp [e3, Value.cells] at g0 g1 g2 g3 g4
      obtain ⟨n0, h0, _, w0⟩ := DataW.trod_int Try.underlying3 g0
      obtain ⟨n1, h1, _, w1⟩ := DataW.trod_int Try.underlying3 g1
      obtain ⟨n2, h2, _, w2⟩ := DataW.trod_int Try.underlying3 g2
      obtain ⟨n3, h3, _, w3⟩ := DataW.trod_int Try.underlying3 g3
      obtain ⟨n4, h4, _, w4⟩ := DataW.trod_int Try.underlying3 g4
      simp at h0 h1 h2 h3 h4
      subst h0 h1 h2 h3 h4
      exact ⟨n0, n1, n2, n3, n4, rfl⟩
end Go.Proofs.Ytgnhpbolmfbngaa
