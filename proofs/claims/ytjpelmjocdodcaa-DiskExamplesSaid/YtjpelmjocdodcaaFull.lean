/- A disk and a row of strings beside it. -/
import Derived.Test.YtjpelmjocdodcaaFilled
namespace Go.Proofs.Ytjpelmjocdodcaa
open Go.RowKit Go.ChangeMaps

structure Full (w : World) (d f m : Nat) (v : Value) (D : Dk) (u : Value) (L : List (List UInt8)) : Prop where
  lab : Lab w d f m v D .idle
  row : w.ownsRow 0 9 1 u L.length (strsOf L)
  off : ∀ k, u.ownBlock = some k → ¬ Own d f m v k
theorem Full.below {w w' : World} {d f m : Nat} {v : Value} {D : Dk} {u : Value} {L : List (List UInt8)} (h : Full w d f m v D u L) (b : Below w.heap.size w w') : Full w' d f m v D u L :=
  ⟨h.lab.below b, row_keeps (S := fun _ => False) h.row (.of_below b) (fun _ _ => id), h.off⟩
theorem own_lt {w : World} {e : TypeId} {size n b : Nat} {v : Value} {xs : List Value} (h : w.ownsRow b e size v n xs) {k : Nat} (hk : v.ownBlock = some k) : k < w.heap.size := by
  rcases h.2 with ⟨rfl, rfl⟩ | ⟨g, cap, cur, rfl, hb, hg, r⟩
  · simp [Value.ownBlock] at hk
  · simp [Value.ownBlock] at hk
    subst hk
    exact (Array.getElem?_eq_some_iff.1 hg).1
theorem Full.after {w w' : World} {d f m : Nat} {v : Value} {D D' : Dk} {u : Value} {L : List (List UInt8)} (h : Full w d f m v D u L) (a : DAfter w w' d f m v D' .idle) : ∃ v', Full w' d f m v' D' u L := by
  obtain ⟨v', h1, k1, n1⟩ := a.lab
  refine ⟨v', h1, row_keeps h.row k1 h.off, fun k hk ho => ?_⟩
  rcases own_new n1 ho with h2 | h2
  · exact h.off k hk h2
  · have := own_lt h.row hk
    omega
theorem Full.crash {w w' : World} {d f m : Nat} {v : Value} {D D' : Dk} {u : Value} {L : List (List UInt8)} (h : Full w d f m v D u L) (hd : DiskAt w' d f m (.slice none 0 0) D') (k : Keeps (fun k => k = d ∨ k = m) w w') : Full w' d f m (.slice none 0 0) D' u L :=
  ⟨h.lab.crash hd k, row_keeps h.row k (fun x hx ho => h.off x hx (by rcases ho with rfl | rfl; exact .inl rfl; exact .inr (.inr (.inl rfl)))), fun x hx ho => h.off x hx (own_nil ho)⟩
theorem Filled.full {w w' : World} {n : Nat} {sm : Int} {l : List (Nat × Nat)} {e : Ending} (h : Filled w n sm l e w') :
    ∃ d f m v u, e = .returned (.tuple #[.pointer (some ⟨d, 0, none⟩), u]) ∧ Full w' d f m v (fillD n sm l) u ((List.range n).map fun i => (fillD n sm l).read i) ∧ From w.heap.size d f m v ∧ Below w.heap.size w w' ∧ ∀ k, u.ownBlock = some k → w.heap.size ≤ k := by
  obtain ⟨d, f, m, v, u, he, hL, hF, hB, hu, hk, ho⟩ := h
  exact ⟨d, f, m, v, u, he, ⟨hL, by rw [List.length_map, List.length_range]; exact hu, ho⟩, hF, hB, hk⟩
/-- What lies at a place of a row of strings. -/
theorem str_at {w : World} {u : Value} {L : List (List UInt8)} (h : w.ownsRow 0 9 1 u L.length (strsOf L)) {i : Nat} (hi : i < L.length) :
    ∃ g cap, u = .slice (some ⟨g, 0, none⟩) L.length cap ∧ w.cell? (Addr.add ⟨g, 0, none⟩ i) = some (.string (S (secAt L i))) := by
  rcases h.2 with ⟨rfl, hn⟩ | ⟨g, cap, cur, rfl, hb, hg, r⟩
  · omega
  · refine ⟨g, cap, rfl, h.cells rfl i _ ?_⟩
    unfold strsOf secAt
    rw [List.getElem?_map, List.getD_eq_getElem?_getD, List.getElem?_eq_getElem hi]
    rfl
theorem str_at' {w : World} {u : Value} {L : List (List UInt8)} {n i : Nat} (h : w.ownsRow 0 9 1 u L.length (strsOf L)) (hn : L.length = n) (hi : i < n) :
    ∃ g cap, u = .slice (some ⟨g, 0, none⟩) n cap ∧ w.cell? (Addr.add ⟨g, 0, none⟩ i) = some (.string (S (secAt L i))) ∧ w.cell? ⟨g, i, none⟩ = some (.string (S (secAt L i))) := by
  obtain ⟨g, cap, rfl, c⟩ := str_at h (i := i) (by omega)
  refine ⟨g, cap, by rw [hn], c, ?_⟩
  rw [add_eq, Nat.zero_add] at c
  exact c
theorem reads_len (D : Dk) (n : Nat) : ((List.range n).map fun j => D.read j).length = n := by rw [List.length_map, List.length_range]
theorem secAt_reads (D : Dk) (n : Nat) {i : Nat} (hi : i < n) : secAt ((List.range n).map fun j => D.read j) i = D.read i := by
  unfold secAt
  rw [List.getD_eq_getElem?_getD, List.getElem?_map, List.getElem?_range hi]
  rfl
theorem fillD_length (n : Nat) (sm : Int) (l : List (Nat × Nat)) : (fillD n sm l).S.length = n := fillAt_length ..
theorem fillD_pend (n : Nat) (sm : Int) (l : List (Nat × Nat)) : (fillD n sm l).P.length ≤ l.length := fillAt_pend ..
theorem doWrite_range {D : Dk} {i : Int} {s : List UInt8} (h : ¬ (0 ≤ i ∧ i < D.S.length)) : doWrite D .idle i s = (3, D, .idle) := by
  have he : hasE D i = 3 := if_neg h
  unfold doWrite
  rw [if_neg (by rw [he]; decide), he]
theorem doWrite_arg {D : Dk} {i : Int} {s : List UInt8} (h : 0 ≤ i ∧ i < D.S.length) (hs : ¬ s.length = 80) : doWrite D .idle i s = (2, D, .idle) := by
  have he : hasE D i = 0 := if_pos h
  unfold doWrite
  rw [if_pos he, if_neg hs]
theorem doDurable_range {D : Dk} {i : Int} (h : ¬ (0 ≤ i ∧ i < D.S.length)) : doDurable D i = [] := by
  have he : hasE D i = 3 := if_neg h
  unfold doDurable
  rw [if_neg (by rw [he]; decide)]
theorem doDurable_in {D : Dk} {i : Nat} (h : i < D.S.length) : doDurable D i = secAt D.S i := by
  have he : hasE D i = 0 := if_pos (by omega)
  unfold doDurable
  rw [if_pos he]
  rfl
theorem doRead_range {D : Dk} {i : Int} (h : ¬ (0 ≤ i ∧ i < D.S.length)) : doRead D .idle i = ([], 3) := by
  have he : hasE D i = 3 := if_neg h
  unfold doRead
  rw [if_neg (by rw [he]; decide), he]
end Go.Proofs.Ytjpelmjocdodcaa
