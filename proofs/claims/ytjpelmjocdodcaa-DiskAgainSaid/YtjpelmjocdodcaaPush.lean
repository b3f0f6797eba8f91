/- A string more at the end of a row that nobody else has. -/
import Derived.Test.YtjpelmjocdodcaaCrashPure
namespace Go.Proofs.Ytjpelmjocdodcaa
open Go.RowKit Go.ChangeMaps

theorem Hall.push {w0 w : World} {ds : List DS} {rs : List (Value × List (List UInt8))} {u : Value} {L : List (List UInt8)} (h : Hall w0 w ds ((u, L) :: rs)) (s : List UInt8) (hL : L.length ≤ 1000000) :
    ∃ A cap w', (Builtin.append_ #[25, 25] 25 #[u, .slice (some ⟨w.heap.size, 0, none⟩) 1 1]).run Try.prog (w.alloc (.cells #[.string (S s)] 9)) = .ok (.slice A (L.length + 1) cap) w' ∧
      Hall w0 w' ds ((.slice A (L.length + 1) cap, L ++ [s]) :: rs) := by
  have n7 := alloc_new w (.cells #[.string (S s)] 9)
  have b7 := alloc_below w (.cells #[.string (S s)] 9)
  have h7 := h.below b7
  obtain ⟨v', w8, hrun, hown, hgr, hat⟩ := append_run (P := Try.prog) _ 25 25 9 (.string ⟨#[]⟩) 1 16 Try.underlying25 (by kernel_rfl) rfl (by decide) u L.length _ (h7.row 0 _ rfl)
    ⟨w.heap.size, 0, none⟩ 1 1 [.string (S s)] rfl (fun j x hx => by rw [cell_at n7, Nat.zero_add]; simpa using hx) (fun x hx => by simp at hx; subst hx; rfl) (by unfold maxLen; omega) (by omega)
  obtain ⟨A', cap', rfl⟩ := ownsRow_is hown
  refine ⟨A', cap', w8, hrun, ?_⟩
  obtain ⟨W, hW⟩ : ∃ W, w.alloc (.cells #[.string (S s)] 9) = W := ⟨_, rfl⟩
  rw [hW] at h7 hgr hat
  have k := grown_keeps hgr
  have hnew : ∀ k, (Value.slice A' (L.length + 1) cap').ownBlock = some k → u.ownBlock = some k ∨ k = W.heap.size := fun k hk => by
    rcases hat with hat | hat
    · exact .inl (hat.symm.trans hk)
    · rw [hat] at hk
      exact .inr (Option.some.inj hk).symm
  have hrow : strsOf L ++ [.string (S s)] = strsOf (L ++ [s]) := by simp [strsOf]
  rw [hrow] at hown
  refine ⟨fun i t ht => (h7.lab i t ht).keeps k (fun x hx ho => h7.off 0 i _ t rfl ht x ho hx), h7.frm, h7.apart, fun i r hr => ?_, fun i r hr x hx => ?_, fun i j r t hr ht x hx ho => ?_, fun i j r t hij hr ht x hx hx' => ?_,
    k.belowOf h7.bel h7.size (fun x hx e => by have := h7.rfrm 0 _ rfl x e; omega)⟩
  · cases i with
    | zero => obtain rfl := Option.some.inj hr; rw [List.length_append]; exact hown
    | succ i => exact row_keeps (h7.row (i + 1) r hr) k (fun x hx e => h7.rapart (i + 1) 0 r _ (by omega) hr rfl x hx e)
  · cases i with
    | zero =>
      obtain rfl := Option.some.inj hr
      rcases hnew x hx with e | rfl
      · exact h7.rfrm 0 _ rfl x e
      · exact h7.size
    | succ i => exact h7.rfrm (i + 1) r hr x hx
  · cases i with
    | zero =>
      obtain rfl := Option.some.inj hr
      rcases hnew x hx with e | rfl
      · exact h7.off 0 j _ t rfl ht x e ho
      · have := (h7.lab j t ht).lt ho; omega
    | succ i => exact h7.off (i + 1) j r t hr ht x hx ho
  · cases i with
    | zero =>
      obtain rfl := Option.some.inj hr
      cases j with
      | zero => exact hij rfl
      | succ j =>
        rcases hnew x hx with e | rfl
        · exact h7.rapart 0 (j + 1) _ t (by omega) rfl ht x e hx'
        · have := own_lt (h7.row (j + 1) t ht) hx'; omega
    | succ i =>
      cases j with
      | zero =>
        obtain rfl := Option.some.inj ht
        rcases hnew x hx' with e | rfl
        · exact h7.rapart (i + 1) 0 r _ (by omega) hr rfl x hx e
        · have := own_lt (h7.row (i + 1) r hr) hx; omega
      | succ j => exact h7.rapart (i + 1) (j + 1) r t hij hr ht x hx hx'
theorem Hall.push' {w0 w : World} {ds : List DS} {rs : List (Value × List (List UInt8))} {u : Value} {L : List (List UInt8)} {n : Nat} (h : Hall w0 w ds ((u, L) :: rs)) (hn : L.length = n) (s : List UInt8) (hL : n ≤ 1000000) :
    ∃ A cap w', (Builtin.append_ #[25, 25] 25 #[u, .slice (some ⟨w.heap.size, 0, none⟩) 1 1]).run Try.prog (w.alloc (.cells #[.string (S s)] 9)) = .ok (.slice A (n + 1) cap) w' ∧
      Hall w0 w' ds ((.slice A (n + 1) cap, L ++ [s]) :: rs) := by
  subst hn
  exact h.push s hL
/-- The sectors as a row. -/
def secs (D : Dk) (n : Nat) : List (List UInt8) := (List.range n).map fun j => secAt D.S j
theorem secs_len (D : Dk) (n : Nat) : (secs D n).length = n := by unfold secs; rw [List.length_map, List.length_range]
theorem secs_succ (D : Dk) (n : Nat) : secs D (n + 1) = secs D n ++ [secAt D.S n] := by unfold secs; rw [List.range_succ, List.map_append]; rfl
theorem secs_at (D : Dk) (n : Nat) {i : Nat} (hi : i < n) : secAt (secs D n) i = secAt D.S i := by
  unfold secs secAt
  rw [List.getD_eq_getElem?_getD, List.getElem?_map, List.getElem?_range hi]
  rfl
/-- Something else is written. -/
theorem Hall.other {w0 w w' : World} {ds : List DS} {rs : List (Value × List (List UInt8))} (h : Hall w0 w ds rs) {S : Nat → Prop} (k : Keeps S w w') (hs : ∀ x, S x → w0.heap.size ≤ x ∧ (∀ (j : Nat) (s : DS), ds[j]? = some s → ¬ s.own x) ∧ ∀ (j : Nat) (t : Value × List (List UInt8)), rs[j]? = some t → ¬ t.1.ownBlock = some x) : Hall w0 w' ds rs :=
  ⟨fun i s hi => (h.lab i s hi).keeps k (fun x hx hS => (hs x hS).2.1 i s hi hx), h.frm, h.apart, fun i r hr => row_keeps (h.row i r hr) k (fun x hx hS => (hs x hS).2.2 i r hr hx), h.rfrm, h.off, h.rapart,
    k.belowOf h.bel h.size (fun x hx hS => by have := (hs x hS).1; omega)⟩
/-- An empty row. -/
theorem Hall.nilRow {w0 w : World} {ds : List DS} {rs : List (Value × List (List UInt8))} (h : Hall w0 w ds rs) : Hall w0 w ds ((.slice none 0 0, []) :: rs) :=
  h.addRow (World.ownsRow_nil _ _ _ _) (fun k hk => by simp [Value.ownBlock] at hk)
end Go.Proofs.Ytjpelmjocdodcaa
