/- Elements of a slice: their cells. -/
import Derived.Test.YtjpelmjocdodcaaCells
namespace Go.Proofs.Ytjpelmjocdodcaa
open Go.RowKit

theorem add_block (b o n : Nat) : (Addr.add ⟨b, o, none⟩ n).block = b := by unfold Addr.add; split <;> rfl
theorem add_off (b o n : Nat) : (Addr.add ⟨b, o, none⟩ n).off = o + n := by
  unfold Addr.add
  split
  · rename_i h; subst h; rfl
  · rfl
theorem add_eq (b o n : Nat) : Addr.add ⟨b, o, none⟩ n = ⟨b, o + n, none⟩ := by
  unfold Addr.add
  split
  · rename_i h; subst h; rfl
  · rfl
theorem cell_at {w : World} {b : Nat} {C : Array Value} {t : TypeId} {fr : Nat × Nat} (h : w.heap[b]? = some (.cells C t fr)) (o n : Nat) : w.cell? (Addr.add ⟨b, o, none⟩ n) = C[o + n]? := by
  rw [add_eq]; exact cell_of h _
theorem cell_at_off {w : World} {b : Nat} {C : Array Value} {t : TypeId} {fr : Nat × Nat} (h : w.heap[b]? = some (.cells C t fr)) (o n j : Nat) : w.cell? ⟨(Addr.add ⟨b, o, none⟩ n).block, (Addr.add ⟨b, o, none⟩ n).off + j, none⟩ = C[o + n + j]? := by
  rw [add_block, add_off]; exact cell_of h _
end Go.Proofs.Ytjpelmjocdodcaa
