/- Disks and rows of strings that share nothing, all newer than a first world. -/
import Derived.Test.YtjpelmjocdodcaaFull
namespace Go.Proofs.Ytjpelmjocdodcaa
open Go.RowKit Go.ChangeMaps

structure DS where
  d : Nat
  f : Nat
  m : Nat
  v : Value
  D : Dk
  z : Fz
def DS.own (s : DS) (k : Nat) : Prop := Own s.d s.f s.m s.v k
structure Hall (w0 w : World) (ds : List DS) (rs : List (Value × List (List UInt8))) : Prop where
  lab : ∀ (i : Nat) (s : DS), ds[i]? = some s → Lab w s.d s.f s.m s.v s.D s.z
  frm : ∀ (i : Nat) (s : DS), ds[i]? = some s → From w0.heap.size s.d s.f s.m s.v
  apart : ∀ (i j : Nat) (s t : DS), i ≠ j → ds[i]? = some s → ds[j]? = some t → ∀ k, s.own k → ¬ t.own k
  row : ∀ (i : Nat) (r : Value × List (List UInt8)), rs[i]? = some r → w.ownsRow 0 9 1 r.1 r.2.length (strsOf r.2)
  rfrm : ∀ (i : Nat) (r : Value × List (List UInt8)), rs[i]? = some r → ∀ k, r.1.ownBlock = some k → w0.heap.size ≤ k
  off : ∀ (i j : Nat) (r : Value × List (List UInt8)) (s : DS), rs[i]? = some r → ds[j]? = some s → ∀ k, r.1.ownBlock = some k → ¬ s.own k
  rapart : ∀ (i j : Nat) (r t : Value × List (List UInt8)), i ≠ j → rs[i]? = some r → rs[j]? = some t → ∀ k, r.1.ownBlock = some k → ¬ t.1.ownBlock = some k
  bel : Below w0.heap.size w0 w
theorem Hall.start (w : World) : Hall w w [] [] :=
  ⟨nofun, nofun, nofun, nofun, nofun, nofun, nofun, .refl _ _⟩
theorem Hall.below {w0 w w' : World} {ds : List DS} {rs : List (Value × List (List UInt8))} (h : Hall w0 w ds rs) (b : Below w.heap.size w w') : Hall w0 w' ds rs :=
  ⟨fun i s hs => (h.lab i s hs).below b, h.frm, h.apart, fun i r hr => row_keeps (S := fun _ => False) (h.row i r hr) (.of_below b) (fun _ _ => id), h.rfrm, h.off, h.rapart, below_step b h.bel (Nat.le_refl _)⟩
theorem Hall.size {w0 w : World} {ds : List DS} {rs : List (Value × List (List UInt8))} (h : Hall w0 w ds rs) : w0.heap.size ≤ w.heap.size := h.bel.size
theorem Hall.drop {w0 w : World} {ds : List DS} {r : Value × List (List UInt8)} {rs : List (Value × List (List UInt8))} (h : Hall w0 w ds (r :: rs)) : Hall w0 w ds rs :=
  ⟨h.lab, h.frm, h.apart, fun i r hr => h.row (i + 1) r hr, fun i r hr => h.rfrm (i + 1) r hr, fun i j r s hr => h.off (i + 1) j r s hr, fun i j r t hij hr ht => h.rapart (i + 1) (j + 1) r t (by omega) hr ht, h.bel⟩
theorem Hall.after {w0 w w' : World} {ds : List DS} {rs : List (Value × List (List UInt8))} (h : Hall w0 w ds rs) (i : Nat) {s : DS} (hs : ds[i]? = some s) {D' : Dk} {z' : Fz} (a : DAfter w w' s.d s.f s.m s.v D' z') :
    ∃ v', Hall w0 w' (ds.set i ⟨s.d, s.f, s.m, v', D', z'⟩) rs := by
  obtain ⟨v', h1, k1, n1⟩ := a.lab
  have own2 : ∀ k, Own s.d s.f s.m v' k → s.own k ∨ w.heap.size ≤ k := fun k hk => own_new n1 hk
  have lt2 : ∀ (j : Nat) (t : DS), ds[j]? = some t → ∀ k, t.own k → k < w.heap.size := fun j t ht k hk => (h.lab j t ht).lt hk
  have hil : i < ds.length := (List.getElem?_eq_some_iff.1 hs).1
  have key : ∀ j t, (ds.set i ⟨s.d, s.f, s.m, v', D', z'⟩)[j]? = some t → (j = i ∧ t = ⟨s.d, s.f, s.m, v', D', z'⟩) ∨ (j ≠ i ∧ ds[j]? = some t) := fun j t ht => by
    rw [List.getElem?_set] at ht
    by_cases e : i = j
    · subst e
      rw [if_pos rfl, if_pos hil] at ht
      exact .inl ⟨rfl, (Option.some.inj ht).symm⟩
    · rw [if_neg e] at ht
      exact .inr ⟨fun x => e x.symm, ht⟩
  refine ⟨v', fun j t ht => ?_, fun j t ht => ?_, fun j j' t t' hj ht ht' k hk hk' => ?_, fun j r hr => ?_, h.rfrm, fun j j' r t hr ht k hk ho => ?_, h.rapart, (h.frm i s hs).below h.bel h.size k1⟩
  · rcases key j t ht with ⟨rfl, rfl⟩ | ⟨hj, ht⟩
    · exact h1
    · exact (h.lab j t ht).keeps k1 (fun k hk ho => h.apart i j s t (fun e => hj e.symm) hs ht k ho hk)
  · rcases key j t ht with ⟨rfl, rfl⟩ | ⟨hj, ht⟩
    · exact (h.frm j s hs).new n1 h.size
    · exact h.frm j t ht
  · rcases key j t ht with ⟨rfl, rfl⟩ | ⟨hj1, ht2⟩
    · rcases key j' t' ht' with ⟨rfl, rfl⟩ | ⟨hj2, ht'⟩
      · exact hj rfl
      · rcases own2 k hk with o | o
        · exact h.apart j j' s t' hj hs ht' k o hk'
        · have := lt2 j' t' ht' k hk'; omega
    · rcases key j' t' ht' with ⟨rfl, rfl⟩ | ⟨hj2, ht'⟩
      · rcases own2 k hk' with o | o
        · exact h.apart j j' t s hj ht2 hs k hk o
        · have := lt2 j t ht2 k hk; omega
      · exact h.apart j j' t t' hj ht2 ht' k hk hk'
  · exact row_keeps (h.row j r hr) k1 (fun k hk ho => h.off j i r s hr hs k hk ho)
  · rcases key j' t ht with ⟨rfl, rfl⟩ | ⟨hj, ht⟩
    · rcases own2 k ho with o | o
      · exact h.off j j' r s hr hs k hk o
      · have := own_lt (h.row j r hr) hk; omega
    · exact h.off j j' r t hr ht k hk ho
theorem Hall.crash {w0 w w' : World} {ds : List DS} {rs : List (Value × List (List UInt8))} (h : Hall w0 w ds rs) (i : Nat) {s : DS} (hs : ds[i]? = some s) {D' : Dk} (hd : DiskAt w' s.d s.f s.m (.slice none 0 0) D') (k1 : Keeps (fun k => k = s.d ∨ k = s.m) w w') :
    Hall w0 w' (ds.set i ⟨s.d, s.f, s.m, .slice none 0 0, D', s.z⟩) rs := by
  have h1 := (h.lab i s hs).crash hd k1
  have kk : ∀ k, (k = s.d ∨ k = s.m) → s.own k := fun k hk => by rcases hk with rfl | rfl; exact .inl rfl; exact .inr (.inr (.inl rfl))
  have own2 : ∀ k, Own s.d s.f s.m (.slice none 0 0) k → s.own k := fun k hk => own_nil hk
  have hil : i < ds.length := (List.getElem?_eq_some_iff.1 hs).1
  have key : ∀ j t, (ds.set i ⟨s.d, s.f, s.m, .slice none 0 0, D', s.z⟩)[j]? = some t → (j = i ∧ t = ⟨s.d, s.f, s.m, .slice none 0 0, D', s.z⟩) ∨ (j ≠ i ∧ ds[j]? = some t) := fun j t ht => by
    rw [List.getElem?_set] at ht
    by_cases e : i = j
    · subst e
      rw [if_pos rfl, if_pos hil] at ht
      exact .inl ⟨rfl, (Option.some.inj ht).symm⟩
    · rw [if_neg e] at ht
      exact .inr ⟨fun x => e x.symm, ht⟩
  refine ⟨fun j t ht => ?_, fun j t ht => ?_, fun j j' t t' hj ht ht' k hk hk' => ?_, fun j r hr => ?_, h.rfrm, fun j j' r t hr ht k hk ho => ?_, h.rapart, (h.frm i s hs).below2 h.bel h.size k1⟩
  · rcases key j t ht with ⟨rfl, rfl⟩ | ⟨hj, ht⟩
    · exact h1
    · exact (h.lab j t ht).keeps k1 (fun k hk ho => h.apart i j s t (fun e => hj e.symm) hs ht k (kk k ho) hk)
  · rcases key j t ht with ⟨rfl, rfl⟩ | ⟨hj, ht⟩
    · exact (h.frm j s hs).nil
    · exact h.frm j t ht
  · rcases key j t ht with ⟨rfl, rfl⟩ | ⟨hj1, ht2⟩
    · rcases key j' t' ht' with ⟨rfl, rfl⟩ | ⟨hj2, ht'⟩
      · exact hj rfl
      · exact h.apart j j' s t' hj hs ht' k (own2 k hk) hk'
    · rcases key j' t' ht' with ⟨rfl, rfl⟩ | ⟨hj2, ht'⟩
      · exact h.apart j j' t s hj ht2 hs k hk (own2 k hk')
      · exact h.apart j j' t t' hj ht2 ht' k hk hk'
  · exact row_keeps (h.row j r hr) k1 (fun k hk ho => h.off j i r s hr hs k hk (kk k ho))
  · rcases key j' t ht with ⟨rfl, rfl⟩ | ⟨hj, ht⟩
    · exact h.off j j' r s hr hs k hk (own2 k ho)
    · exact h.off j j' r t hr ht k hk ho
/-- A disk more. -/
theorem Hall.addDisk {w0 w w' : World} {ds : List DS} {rs : List (Value × List (List UInt8))} (h : Hall w0 w ds rs) {s : DS} (hl : Lab w' s.d s.f s.m s.v s.D s.z) (hf : From w.heap.size s.d s.f s.m s.v) (b : Below w.heap.size w w') :
    Hall w0 w' (s :: ds) rs := by
  have h2 := h.below b
  have lt2 : ∀ (j : Nat) (t : DS), ds[j]? = some t → ∀ k, t.own k → k < w.heap.size := fun j t ht k hk => (h.lab j t ht).lt hk
  refine ⟨fun j t ht => ?_, fun j t ht => ?_, fun j j' t t' hj ht ht' k hk hk' => ?_, h2.row, h.rfrm, fun j j' r t hr ht k hk ho => ?_, h.rapart, h2.bel⟩
  · cases j with
    | zero => obtain rfl : s = t := Option.some.inj ht; exact hl
    | succ j => exact h2.lab j t ht
  · cases j with
    | zero => obtain rfl : s = t := Option.some.inj ht; exact hf.mono h.size
    | succ j => exact h.frm j t ht
  · cases j with
    | zero =>
      obtain rfl : s = t := Option.some.inj ht
      cases j' with
      | zero => exact hj rfl
      | succ j' => have h1 := lt2 j' t' ht' k hk'; have h2 := hf k hk; omega
    | succ j =>
      cases j' with
      | zero =>
        obtain rfl : s = t' := Option.some.inj ht'
        have h1 := lt2 j t ht k hk; have h2 := hf k hk'; omega
      | succ j' => exact h.apart j j' t t' (by omega) ht ht' k hk hk'
  · cases j' with
    | zero =>
      obtain rfl : s = t := Option.some.inj ht
      have h1 := own_lt (h.row j r hr) hk; have h2 := hf k ho; omega
    | succ j' => exact h.off j j' r t hr ht k hk ho
/-- A row more. -/
theorem Hall.addRow {w0 w : World} {ds : List DS} {rs : List (Value × List (List UInt8))} (h : Hall w0 w ds rs) {u : Value} {L : List (List UInt8)} (hu : w.ownsRow 0 9 1 u L.length (strsOf L))
    (hf : ∀ k, u.ownBlock = some k → w0.heap.size ≤ k ∧ (∀ (j : Nat) (s : DS), ds[j]? = some s → ¬ s.own k) ∧ ∀ (j : Nat) (t : Value × List (List UInt8)), rs[j]? = some t → ¬ t.1.ownBlock = some k) : Hall w0 w ds ((u, L) :: rs) := by
  refine ⟨h.lab, h.frm, h.apart, fun i r hr => ?_, fun i r hr k hk => ?_, fun i j r s hr hs k hk ho => ?_, fun i j r t hij hr ht k hk hk' => ?_, h.bel⟩
  · cases i with
    | zero => obtain rfl : (u, L) = r := Option.some.inj hr; exact hu
    | succ i => exact h.row i r hr
  · cases i with
    | zero => obtain rfl : (u, L) = r := Option.some.inj hr; exact (hf k hk).1
    | succ i => exact h.rfrm i r hr k hk
  · cases i with
    | zero => obtain rfl : (u, L) = r := Option.some.inj hr; exact (hf k hk).2.1 j s hs ho
    | succ i => exact h.off i j r s hr hs k hk ho
  · cases i with
    | zero =>
      obtain rfl : (u, L) = r := Option.some.inj hr
      cases j with
      | zero => exact hij rfl
      | succ j => exact (hf k hk).2.2 j t ht hk'
    | succ i =>
      cases j with
      | zero => obtain rfl : (u, L) = t := Option.some.inj ht; exact (hf k hk').2.2 i r hr hk
      | succ j => exact h.rapart i j r t (by omega) hr ht k hk hk'
theorem Hall.filled {w0 w w' : World} {ds : List DS} {rs : List (Value × List (List UInt8))} (h : Hall w0 w ds rs) {n : Nat} {sm : Int} {l : List (Nat × Nat)} {e : Ending} (hF : Filled w n sm l e w') :
    ∃ d f m v u, e = .returned (.tuple #[.pointer (some ⟨d, 0, none⟩), u]) ∧ Hall w0 w' (⟨d, f, m, v, fillD n sm l, .idle⟩ :: ds) ((u, (List.range n).map fun i => (fillD n sm l).read i) :: rs) := by
  obtain ⟨d, f, m, v, u, he, hL, hF, hB, hu, hk, ho⟩ := hF
  refine ⟨d, f, m, v, u, he, (h.addDisk (s := ⟨d, f, m, v, fillD n sm l, .idle⟩) hL hF hB).addRow (by rw [List.length_map, List.length_range]; exact hu) (fun k hk' => ⟨Nat.le_trans h.size (hk k hk'), fun j s hs ho' => ?_, fun j t ht ht' => ?_⟩)⟩
  · cases j with
    | zero => obtain rfl := Option.some.inj hs; exact ho k hk' ho'
    | succ j => have h1 := (h.lab j s hs).lt ho'; have h2 := hk k hk'; omega
  · have h1 := own_lt (h.row j t ht) ht'; have h2 := hk k hk'; omega
end Go.Proofs.Ytjpelmjocdodcaa
