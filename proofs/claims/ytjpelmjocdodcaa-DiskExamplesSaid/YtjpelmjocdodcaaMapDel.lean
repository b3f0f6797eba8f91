/- Maps with int keys: delete; keys that are not twice there. -/
import Derived.Test.YtjpelmjocdodcaaMap
import Derived.Test.YtjpelmjocdodcaaFrame
namespace Go.Proofs.Ytjpelmjocdodcaa
open Go.RowKit Go.ChangeMaps
set_option linter.unusedSimpArgs false

def keysOf {α : Type} (m : List (Int × α)) : List Int := m.map (·.1)
theorem keys_mput {α : Type} (m : List (Int × α)) (k : Int) (v : α) : keysOf (mput m k v) = if k ∈ keysOf m then keysOf m else keysOf m ++ [k] := by
  induction m with
  | nil => simp [mput, keysOf]
  | cons p r ih =>
    unfold mput
    by_cases h : p.1 = k
    · rw [if_pos h]
      simp [keysOf, h]
    · rw [if_neg h]
      have h' : ¬ k = p.1 := fun e => h e.symm
      simp only [keysOf, List.map_cons, List.mem_cons, h', false_or] at ih ⊢
      rw [ih]
      by_cases hm : k ∈ List.map (fun x => x.fst) r
      · rw [if_pos hm]; simp [hm]
      · rw [if_neg hm]; simp [hm]
theorem nodup_mput {α : Type} {m : List (Int × α)} (h : (keysOf m).Nodup) (k : Int) (v : α) : (keysOf (mput m k v)).Nodup := by
  rw [keys_mput]
  split
  · exact h
  · rename_i hk
    rw [List.nodup_append]
    exact ⟨h, by simp, fun a ha b hb => by
      rw [List.mem_singleton] at hb
      subst hb
      exact fun e => hk (e ▸ ha)⟩
theorem mget_none {α : Type} {m : List (Int × α)} {k : Int} (h : k ∉ keysOf m) : mget m k = none := by
  induction m with
  | nil => rfl
  | cons p r ih =>
    simp only [keysOf, List.map_cons, List.mem_cons, not_or] at h
    have h1 : ¬ p.1 = k := fun e => h.1 e.symm
    have := ih h.2
    simp only [mget] at this ⊢
    simp [List.find?_cons, h1]
    simpa using this
theorem mem_mdel {α : Type} {m : List (Int × α)} {k j : Int} (h : j ∈ keysOf (mdel m k)) : j ∈ keysOf m := by
  induction m with
  | nil => exact h
  | cons p r ih =>
    unfold mdel at h
    by_cases hp : p.1 = k
    · rw [if_pos hp] at h
      exact List.mem_cons_of_mem _ h
    · rw [if_neg hp] at h
      rcases List.mem_cons.1 h with rfl | h
      · exact List.mem_cons_self ..
      · exact List.mem_cons_of_mem _ (ih h)
theorem nodup_mdel {α : Type} {m : List (Int × α)} (h : (keysOf m).Nodup) (k : Int) : (keysOf (mdel m k)).Nodup := by
  induction m with
  | nil => exact h
  | cons p r ih =>
    have h' := List.nodup_cons.1 (show (p.1 :: keysOf r).Nodup from h)
    unfold mdel
    by_cases hp : p.1 = k
    · rw [if_pos hp]; exact h'.2
    · rw [if_neg hp]
      exact List.nodup_cons.2 ⟨fun hm => h'.1 (mem_mdel hm), ih h'.2⟩
theorem mget_mdel {α : Type} {m : List (Int × α)} (h : (keysOf m).Nodup) (k j : Int) : mget (mdel m k) j = if j = k then none else mget m j := by
  induction m with
  | nil => simp [mdel, mget]
  | cons p r ih =>
    have h' := List.nodup_cons.1 (show (p.1 :: keysOf r).Nodup from h)
    unfold mdel
    by_cases hp : p.1 = k
    · rw [if_pos hp]
      by_cases hj : j = k
      · rw [if_pos hj, hj]
        exact mget_none (fun hm => h'.1 (hp ▸ hm))
      · rw [if_neg hj]
        have h2 : ¬ p.1 = j := by rw [hp]; exact fun e => hj e.symm
        simp [mget, List.find?_cons, h2]
    · rw [if_neg hp]
      by_cases hj : p.1 = j
      · have : ¬ j = k := by rw [← hj]; exact hp
        rw [if_neg this]
        simp [mget, List.find?_cons, hj]
      · have e1 : ∀ l : List (Int × α), mget (p :: l) j = mget l j := fun l => by simp [mget, List.find?_cons, hj]
        rw [e1, e1, ih h'.2]
theorem mdel_map {α β : Type} (f : α → β) (m : List (Int × α)) (k : Int) : mdel (m.map fun p => (p.1, f p.2)) k = (mdel m k).map fun p => (p.1, f p.2) := by
  induction m with
  | nil => rfl
  | cons p r ih =>
    by_cases h : p.1 = k
    · simp [mdel, h]
    · simp [mdel, h, ih]
theorem mdel_none {α : Type} {m : List (Int × α)} {k : Int} (h : ∀ p ∈ m, ¬ p.1 = k) : mdel m k = m := by
  induction m with
  | nil => rfl
  | cons p r ih =>
    unfold mdel
    rw [if_neg (h p (List.mem_cons_self ..)), ih (fun q hq => h q (List.mem_cons_of_mem _ hq))]
theorem erase_ents (L : List (Int × Value × Nat)) (j : Nat) (k : Int) (hj : L.findIdx? (fun p => p.1 == k) = some j) :
    ((L.map ent).toArray.eraseIdxIfInBounds j) = ((L.eraseIdx j).map ent).toArray ∧ (L.eraseIdx j).map (fun p => (p.1, p.2.1)) = mdel (L.map fun p => (p.1, p.2.1)) k := by
  have hlt : j < L.length := (List.findIdx?_eq_some_iff_getElem.1 hj).1
  refine ⟨?_, ?_⟩
  · unfold Array.eraseIdxIfInBounds
    have h2 : j < (L.map ent).toArray.size := by simpa using hlt
    rw [dif_pos h2]
    apply Array.ext'
    rw [Array.toList_eraseIdx]
    apply List.ext_getElem?
    intro i
    simp only [List.getElem?_eraseIdx, List.getElem?_map]
    split <;> rfl
  · clear hlt
    induction L generalizing j with
    | nil => simp at hj
    | cons p L ih =>
      rw [List.findIdx?_cons] at hj
      by_cases h : p.1 = k
      · simp [h] at hj
        subst hj
        simp [mdel, h]
      · have h2 : (p.1 == k) = false := by simpa using h
        rw [h2] at hj
        simp at hj
        obtain ⟨i, hi, rfl⟩ := hj
        simp [mdel, h, ih i hi]
section
variable {P : Program} {w : World} {b : Nat} {m : List (Int × Value)} {t K E : TypeId}
/-- A delete. -/
theorem IsMap.del (h : IsMap w b m) (ht : P.underlying t = some (.map K E)) (hK : P.underlying K = some (.int .i64)) (k : Int) (ty K' : TypeId) :
    ∃ o, (Builtin.delete_ #[t, K'] ty #[.map (some b), .int .i64 k]).run P w = .ok (.tuple #[]) (setBlock w b o) ∧ IsMap (setBlock w b o) b (mdel m k) := by
  obtain ⟨L, clock, hb, rfl⟩ := h
  have hf := findNow_ents k L 0
  cases hj : L.findIdx? (fun p => p.1 == k) with
  | none =>
    rw [hj] at hf
    simp only [Option.bind_none] at hf
    have hn : mdel (L.map fun p => (p.1, p.2.1)) k = L.map fun p => (p.1, p.2.1) := mdel_none (by
      intro p hp e
      obtain ⟨q, hq, rfl⟩ := List.mem_map.1 hp
      have := List.findIdx?_eq_none_iff.1 hj q hq
      simp at this
      exact this e)
    refine ⟨.map (L.map ent).toArray clock, ?_, L, clock, heap_setBlock_same hb _, hn.symm⟩
    simp [Builtin.delete_, run_underlying ht, Go.MapKept.run_getObj_map hb, Go.MapKept.run_checkKey hK (show Go.MapKept.IsKey (.int .i64) (.int .i64 k) from by simp [Go.MapKept.IsKey]) _ 9999, Go.MapKept.run_findKey hK hf, Go.MapKept.run_setObj_map _ hb, setBlock]
  | some j =>
    have hlt : j < L.length := (List.findIdx?_eq_some_iff_getElem.1 hj).1
    rw [hj] at hf
    simp only [Option.bind_some, List.getElem?_eq_getElem hlt, Option.map_some] at hf
    obtain ⟨e1, e2⟩ := erase_ents L j k hj
    refine ⟨.map ((L.eraseIdx j).map ent).toArray clock, ?_, L.eraseIdx j, clock, heap_setBlock_same hb _, e2⟩
    rw [← e1]
    simp [Builtin.delete_, run_underlying ht, Go.MapKept.run_getObj_map hb, Go.MapKept.run_checkKey hK (show Go.MapKept.IsKey (.int .i64) (.int .i64 k) from by simp [Go.MapKept.IsKey]) _ 9999, Go.MapKept.run_findKey hK hf, Go.MapKept.run_setObj_map _ hb, setBlock]
end
theorem IsMap.keeps {w w' : World} {b : Nat} {m : List (Int × Value)} {S : Nat → Prop} (h : IsMap w b m) (k : Keeps S w w') (hb : ¬ S b) : IsMap w' b m := by
  obtain ⟨L, clock, h1, h2⟩ := h
  exact ⟨L, clock, (k.block b (Array.getElem?_eq_some_iff.1 h1).1 hb).trans h1, h2⟩
theorem IsMap.lt {w : World} {b : Nat} {m : List (Int × Value)} (h : IsMap w b m) : b < w.heap.size := by
  obtain ⟨L, clock, h1, h2⟩ := h
  exact (Array.getElem?_eq_some_iff.1 h1).1
end Go.Proofs.Ytjpelmjocdodcaa
