/- Small facts that the walks of this seat share. -/
import Derived.WalkKit
import Derived.WalkSpells
import Derived.WalkLawsBesides
import Derived.Lib.Hide
import Derived.Deep.OwnRows
namespace Go.Proofs.Ytjdmindpiaijcaa
open Go.RowKit

theorem ret_nat {k : IntKind} {a b : Nat} (h : a = b) : Ending.returned (.int k (a : Int)) = .returned (.int k (b : Int)) := by rw [h]
theorem ret_int {k : IntKind} {a b : Int} (h : a = b) : Ending.returned (.int k a) = .returned (.int k b) := by rw [h]
theorem ret_str {a b : ByteArray} (h : a = b) : Ending.returned (.string a) = .returned (.string b) := by rw [h]
theorem ret_bool {a b : Bool} (h : a = b) : Ending.returned (.bool a) = .returned (.bool b) := by rw [h]

theorem ret_nat2 {k : IntKind} {a b : Nat} {v : Value} (h : a = b) : Ending.returned (.tuple #[.int k (a : Int), v]) = .returned (.tuple #[.int k (b : Int), v]) := by rw [h]
theorem ret_str2 {a b : ByteArray} {v : Value} (h : a = b) : Ending.returned (.tuple #[.string a, v]) = .returned (.tuple #[.string b, v]) := by rw [h]
theorem setCell_twice (w : World) (a : Addr) (u v : Value) : (w.setCell a u).setCell a v = w.setCell a v := by
  unfold World.setCell
  dsimp only
  congr 1
  apply Array.ext
  · simp
  · intro i h1 h2
    simp only [Array.getElem_modify]
    split
    · rename_i hi
      subst hi
      have hl : a.block < w.heap.size := by simpa using h2
      cases h : w.heap[a.block]'hl with
      | cells c e f => by_cases hs : a.spot.isSome = true <;> simp [hs]
      | _ => rfl
    · rfl
/-- What a call left alone: old cells and marks read as before. -/
theorem bcell {W w1 : World} (hb : Below W.heap.size W w1) : (∀ b o, b < W.heap.size → w1.cell? ⟨b, o, none⟩ = W.cell? ⟨b, o, none⟩) ∧ (∀ b o, b < W.heap.size → w1.frozen? ⟨b, o, none⟩ = W.frozen? ⟨b, o, none⟩) :=
  ⟨fun b o h => hb.cell (p := ⟨b, o, none⟩) h, fun b o h => hb.frozen (p := ⟨b, o, none⟩) h⟩
/-- One call more: below g the world is as it was. -/
theorem below_step {g : Nat} {W w1 w2 : World} (h2 : Below w1.heap.size w1 w2) (h1 : Below g W w1) (hs : g ≤ W.heap.size) : Below g W w2 :=
  h1.trans (h2.mono (Nat.le_trans hs h1.size))
theorem below_start {g : Nat} (W : World) : Below g W W.drew := (Below.refl _ _).drew
theorem held0 {g : Nat} {W w' : World} {p : Prop} (h : Below g W w' ∧ p) : Below g W w' := h.1
theorem boxed4 {g : Nat} {W w' : World} {v0 v1 v2 v3 : Value} (hb : Below (g + 1) W w') (c0 : W.cell? ⟨g, 0, none⟩ = some v0) (c1 : W.cell? ⟨g, 1, none⟩ = some v1) (c2 : W.cell? ⟨g, 2, none⟩ = some v2) (c3 : W.cell? ⟨g, 3, none⟩ = some v3) :
    Below (g + 1) W w' ∧ w'.cell? ⟨g, 0, none⟩ = some v0 ∧ w'.cell? ⟨g, 1, none⟩ = some v1 ∧ w'.cell? ⟨g, 2, none⟩ = some v2 ∧ w'.cell? ⟨g, 3, none⟩ = some v3 := by
  have hc := fun o => hb.cell (p := ⟨g, o, none⟩) (Nat.lt_succ_self g)
  exact ⟨hb, (hc 0).trans c0, (hc 1).trans c1, (hc 2).trans c2, (hc 3).trans c3⟩
theorem held4 {g : Nat} {W w' : World} {v0 v1 v2 v3 : Value} (h : Below (g + 1) W w' ∧ w'.cell? ⟨g, 0, none⟩ = some v0 ∧ w'.cell? ⟨g, 1, none⟩ = some v1 ∧ w'.cell? ⟨g, 2, none⟩ = some v2 ∧ w'.cell? ⟨g, 3, none⟩ = some v3) : Below (g + 1) W w' := h.1
theorem boxed5 {g : Nat} {W w' : World} {v0 v1 v2 v3 v4 : Value} (hb : Below (g + 1) W w') (c0 : W.cell? ⟨g, 0, none⟩ = some v0) (c1 : W.cell? ⟨g, 1, none⟩ = some v1) (c2 : W.cell? ⟨g, 2, none⟩ = some v2) (c3 : W.cell? ⟨g, 3, none⟩ = some v3) (c4 : W.cell? ⟨g, 4, none⟩ = some v4) :
    Below (g + 1) W w' ∧ w'.cell? ⟨g, 0, none⟩ = some v0 ∧ w'.cell? ⟨g, 1, none⟩ = some v1 ∧ w'.cell? ⟨g, 2, none⟩ = some v2 ∧ w'.cell? ⟨g, 3, none⟩ = some v3 ∧ w'.cell? ⟨g, 4, none⟩ = some v4 := by
  have hc := fun o => hb.cell (p := ⟨g, o, none⟩) (Nat.lt_succ_self g)
  exact ⟨hb, (hc 0).trans c0, (hc 1).trans c1, (hc 2).trans c2, (hc 3).trans c3, (hc 4).trans c4⟩
theorem held5 {g : Nat} {W w' : World} {v0 v1 v2 v3 v4 : Value} (h : Below (g + 1) W w' ∧ w'.cell? ⟨g, 0, none⟩ = some v0 ∧ w'.cell? ⟨g, 1, none⟩ = some v1 ∧ w'.cell? ⟨g, 2, none⟩ = some v2 ∧ w'.cell? ⟨g, 3, none⟩ = some v3 ∧ w'.cell? ⟨g, 4, none⟩ = some v4) : Below (g + 1) W w' := h.1
theorem boxed6 {g : Nat} {W w' : World} {v0 v1 v2 v3 v4 v5 : Value} (hb : Below (g + 1) W w') (c0 : W.cell? ⟨g, 0, none⟩ = some v0) (c1 : W.cell? ⟨g, 1, none⟩ = some v1) (c2 : W.cell? ⟨g, 2, none⟩ = some v2) (c3 : W.cell? ⟨g, 3, none⟩ = some v3) (c4 : W.cell? ⟨g, 4, none⟩ = some v4) (c5 : W.cell? ⟨g, 5, none⟩ = some v5) :
    Below (g + 1) W w' ∧ w'.cell? ⟨g, 0, none⟩ = some v0 ∧ w'.cell? ⟨g, 1, none⟩ = some v1 ∧ w'.cell? ⟨g, 2, none⟩ = some v2 ∧ w'.cell? ⟨g, 3, none⟩ = some v3 ∧ w'.cell? ⟨g, 4, none⟩ = some v4 ∧ w'.cell? ⟨g, 5, none⟩ = some v5 := by
  have hc := fun o => hb.cell (p := ⟨g, o, none⟩) (Nat.lt_succ_self g)
  exact ⟨hb, (hc 0).trans c0, (hc 1).trans c1, (hc 2).trans c2, (hc 3).trans c3, (hc 4).trans c4, (hc 5).trans c5⟩
theorem held6 {g : Nat} {W w' : World} {v0 v1 v2 v3 v4 v5 : Value} (h : Below (g + 1) W w' ∧ w'.cell? ⟨g, 0, none⟩ = some v0 ∧ w'.cell? ⟨g, 1, none⟩ = some v1 ∧ w'.cell? ⟨g, 2, none⟩ = some v2 ∧ w'.cell? ⟨g, 3, none⟩ = some v3 ∧ w'.cell? ⟨g, 4, none⟩ = some v4 ∧ w'.cell? ⟨g, 5, none⟩ = some v5) : Below (g + 1) W w' := h.1
end Go.Proofs.Ytjdmindpiaijcaa
