/- sacristankit.EqualStrings, slices.Equal on strings. -/
import Derived.Test.YtjpelmjocdodcaaRecSec
import Derived.Test.YtjpelmjocdodcaaDiskNew
namespace Go.Proofs.Ytjpelmjocdodcaa
open Go.RowKit Go.ChangeMaps

theorem rstr_at {W : World} {A : Option Addr} {cap K : Nat} {L : List (List UInt8)} (h : W.ownsRow 0 9 1 (.slice A K cap) K (rstrs L)) (hl : L.length = K) {i : Nat} (hi : i < K) :
    ∃ g, A = some ⟨g, 0, none⟩ ∧ W.cell? (Addr.add ⟨g, 0, none⟩ i) = some (.string (S (L.getD i []))) ∧ W.cell? ⟨g, i, none⟩ = some (.string (S (L.getD i []))) := by
  rcases h.2 with ⟨e, hn⟩ | ⟨g, cap', cur, e, hb, hg, r⟩
  · have := h.1
    rw [hn] at this
    simp at this
    omega
  · simp only [Value.slice.injEq] at e
    obtain ⟨rfl, _, rfl⟩ := e
    have hc := h.cells (g := g) rfl i (.string (S (L.getD i []))) (by
      unfold rstrs
      rw [List.getElem?_map, List.getD_eq_getElem?_getD, List.getElem?_eq_getElem (by omega)]
      rfl)
    refine ⟨g, rfl, hc, ?_⟩
    rw [add_eq, Nat.zero_add] at hc
    exact hc
theorem take_more {L M : List (List UInt8)} {i : Nat} (h1 : i < L.length) (h2 : i < M.length) (h : L.take i = M.take i) (e : L.getD i [] = M.getD i []) : L.take (i + 1) = M.take (i + 1) := by
  rw [List.getD_eq_getElem?_getD, List.getD_eq_getElem?_getD, List.getElem?_eq_getElem h1, List.getElem?_eq_getElem h2] at e
  rw [List.take_add_one, List.take_add_one, h, List.getElem?_eq_getElem h1, List.getElem?_eq_getElem h2]
  rw [show L[i] = M[i] from e]
end Go.Proofs.Ytjpelmjocdodcaa
