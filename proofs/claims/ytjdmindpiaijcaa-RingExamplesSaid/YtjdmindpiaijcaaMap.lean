/- Maps with int keys: what a look-up, a store and a delete do to a map that is known as a list of pairs. -/
import Derived.MapKept
import Derived.ChangeMaps5
import Derived.WalkKit
namespace Go.Proofs.Ytjdmindpiaijcaa
open Go.RowKit Go.ChangeMaps
set_option linter.unusedSimpArgs false

/-- One entry. -/
def ent (p : Int × Value × Nat) : MapEntry := { key := .int .i64 p.1, val := p.2.1, born := p.2.2 }
/-- Block b is a map that holds just these pairs. -/
def IsMap (w : World) (b : Nat) (m : List (Int × Value)) : Prop :=
  ∃ (L : List (Int × Value × Nat)) (clock : Nat), w.heap[b]? = some (.map (L.map ent).toArray clock) ∧ L.map (fun p => (p.1, p.2.1)) = m
def mget {α : Type} (m : List (Int × α)) (k : Int) : Option α := (m.find? fun p => p.1 == k).map (·.2)
def mput {α : Type} : List (Int × α) → Int → α → List (Int × α)
  | [], k, v => [(k, v)]
  | p :: r, k, v => if p.1 = k then (k, v) :: r else p :: mput r k v
def mdel {α : Type} : List (Int × α) → Int → List (Int × α)
  | [], _ => []
  | p :: r, k => if p.1 = k then r else p :: mdel r k
theorem mget_mput {α : Type} (m : List (Int × α)) (k : Int) (v : α) (j : Int) : mget (mput m k v) j = if j = k then some v else mget m j := by
  induction m with
  | nil =>
    by_cases h : j = k
    · subst h; simp [mput, mget]
    · simp [mput, mget, h, Ne.symm h]
  | cons p r ih =>
    unfold mput
    by_cases hp : p.1 = k
    · rw [if_pos hp]
      by_cases h : j = k
      · subst h; simp [mget]
      · rw [if_neg h]
        have h1 : ¬ k = j := Ne.symm h
        have h2 : ¬ p.1 = j := by rw [hp]; exact h1
        simp [mget, List.find?_cons, h1, h2]
    · rw [if_neg hp]
      by_cases h : p.1 = j
      · have : ¬ j = k := by rw [← h]; exact hp
        rw [if_neg this]
        simp [mget, List.find?_cons, h]
      · have e1 : ∀ l : List (Int × α), mget (p :: l) j = mget l j := fun l => by simp [mget, List.find?_cons, h]
        rw [e1, e1, ih]
theorem mget_map {α β : Type} (f : α → β) (m : List (Int × α)) (k : Int) : mget (m.map fun p => (p.1, f p.2)) k = (mget m k).map f := by
  induction m with
  | nil => rfl
  | cons p r ih =>
    by_cases h : p.1 = k
    · simp [mget, h]
    · simp only [mget, List.map_cons, List.find?_cons, (by simpa using h : (p.1 == k) = false)] at ih ⊢
      exact ih
theorem mput_map {α β : Type} (f : α → β) (m : List (Int × α)) (k : Int) (v : α) : mput (m.map fun p => (p.1, f p.2)) k (f v) = (mput m k v).map fun p => (p.1, f p.2) := by
  induction m with
  | nil => rfl
  | cons p r ih =>
    by_cases h : p.1 = k
    · simp [mput, h]
    · simp [mput, h, ih]
theorem findNow_ents (k : Int) : ∀ (L : List (Int × Value × Nat)) (i : Nat),
    Instr.findNow (.int .i64) (.int .i64 k) (L.map ent) i = some ((L.findIdx? fun p => p.1 == k).bind fun j => (L[j]?).map fun p => (i + j, p.2.1))
  | [], i => rfl
  | p :: L, i => by
    rw [List.map_cons, Instr.findNow]
    simp only [ent, Instr.sameNow, if_true]
    by_cases h : k = p.1
    · subst h
      simp [List.findIdx?_cons]
    · have h' : (k == p.1) = false := by simpa using h
      have h2 : (p.1 == k) = false := by simpa using Ne.symm h
      rw [h']
      simp only
      rw [findNow_ents k L (i + 1)]
      rw [List.findIdx?_cons, h2]
      cases hf : L.findIdx? (fun p => p.1 == k) with
      | none => simp
      | some j => simp [Nat.add_comm, Nat.add_left_comm]
theorem find_idx (k : Int) (L : List (Int × Value × Nat)) :
    (L.findIdx? fun p => p.1 == k).bind (fun j => (L[j]?).map fun p => p.2.1) = mget (L.map fun p => (p.1, p.2.1)) k := by
  induction L with
  | nil => rfl
  | cons p L ih =>
    rw [List.findIdx?_cons]
    by_cases h : p.1 = k
    · simp [h, mget, List.find?_cons]
    · have h2 : (p.1 == k) = false := by simpa using h
      rw [h2]
      simp only [List.map_cons, mget, List.find?_cons, h2]
      simp only [mget] at ih
      rw [← ih]
      cases hf : L.findIdx? (fun p => p.1 == k) <;> simp
section
variable {P : Program} {w : World} {b : Nat} {m : List (Int × Value)} {t K E : TypeId}
/-- A look-up. -/
theorem IsMap.look (h : IsMap w b m) (ht : P.underlying t = some (.map K E)) (hK : P.underlying K = some (.int .i64)) {z : Value} (hz : (zeroValue E).run P w = .ok z w) (k : Int) (c : Bool) :
    (Instr.lookup t (.map (some b)) (.int .i64 k) c).run P w = .ok (if c then .tuple #[(mget m k).getD z, .bool (mget m k).isSome] else (mget m k).getD z) w := by
  obtain ⟨L, clock, hb, rfl⟩ := h
  have hf := findNow_ents k L 0
  have hi := find_idx k L
  cases hj : L.findIdx? (fun p => p.1 == k) with
  | none =>
    rw [hj] at hf hi
    simp only [Option.bind_none] at hf hi
    rw [← hi]
    simp [Instr.lookup, run_underlying ht, Go.MapKept.run_getObj_map hb, Go.MapKept.run_checkKey hK (show Go.MapKept.IsKey (.int .i64) (.int .i64 k) from by simp [Go.MapKept.IsKey]) _ 9999, Go.MapKept.run_findKey hK hf, hz]
  | some j =>
    have hlt : j < L.length := by
      have := List.findIdx?_eq_some_iff_getElem.1 hj
      exact this.1
    rw [hj] at hf hi
    simp only [Option.bind_some, List.getElem?_eq_getElem hlt, Option.map_some] at hf hi
    rw [← hi]
    simp [Instr.lookup, run_underlying ht, Go.MapKept.run_getObj_map hb, Go.MapKept.run_checkKey hK (show Go.MapKept.IsKey (.int .i64) (.int .i64 k) from by simp [Go.MapKept.IsKey]) _ 9999, Go.MapKept.run_findKey hK hf]
theorem sameBits_int (n : Nat) (k : Int) : Instr.sameBits n (.int .i64 k) (.int .i64 k) = true := by cases n <;> simp [Instr.sameBits]
theorem modify_ents (L : List (Int × Value × Nat)) (j : Nat) (k : Int) (v : Value) (hj : L.findIdx? (fun p => p.1 == k) = some j) :
    ∃ L' : List (Int × Value × Nat), ((L.map ent).toArray.modify j fun e => { e with key := .int .i64 k, val := v }) = (L'.map ent).toArray ∧ L'.map (fun p => (p.1, p.2.1)) = mput (L.map fun p => (p.1, p.2.1)) k v := by
  have hlt : j < L.length := (List.findIdx?_eq_some_iff_getElem.1 hj).1
  refine ⟨L.modify j fun p => (k, v, p.2.2), ?_, ?_⟩
  · apply Array.ext'
    simp only [Array.toList_modify]
    apply List.ext_getElem
    · simp
    · intro i h1 h2
      simp only [List.getElem_modify, List.getElem_map]
      by_cases hne : j = i
      · subst hne; simp [ent]
      · simp [hne]
  · clear hlt
    induction L generalizing j with
    | nil => simp at hj
    | cons p L ih =>
      rw [List.findIdx?_cons] at hj
      by_cases h : p.1 = k
      · simp [h] at hj
        subst hj
        simp [mput, h]
      · have h2 : (p.1 == k) = false := by simpa using h
        rw [h2] at hj
        simp at hj
        obtain ⟨i, hi, rfl⟩ := hj
        simp [mput, h, ih i hi]
theorem push_ents (L : List (Int × Value × Nat)) (k : Int) (v : Value) (c : Nat) (hj : L.findIdx? (fun p => p.1 == k) = none) :
    ∃ L' : List (Int × Value × Nat), ((L.map ent).toArray.push { key := .int .i64 k, val := v, born := c }) = (L'.map ent).toArray ∧ L'.map (fun p => (p.1, p.2.1)) = mput (L.map fun p => (p.1, p.2.1)) k v := by
  refine ⟨L ++ [(k, v, c)], by simp [ent], ?_⟩
  induction L with
  | nil => simp [mput]
  | cons p L ih =>
    rw [List.findIdx?_cons] at hj
    by_cases h : p.1 = k
    · simp [h] at hj
    · have h2 : (p.1 == k) = false := by simpa using h
      rw [h2] at hj
      simp at hj
      simp only [List.cons_append, List.map_cons, mput, h, if_false]
      rw [ih (by simpa using hj)]
/-- A store. -/
theorem IsMap.put (h : IsMap w b m) (ht : P.underlying t = some (.map K E)) (hK : P.underlying K = some (.int .i64)) (k : Int) (v : Value) :
    ∃ o, (Instr.mapUpdate t (.map (some b)) (.int .i64 k) v).run P w = .ok () (setBlock w b o) ∧ IsMap (setBlock w b o) b (mput m k v) := by
  obtain ⟨L, clock, hb, rfl⟩ := h
  have hf := findNow_ents k L 0
  cases hj : L.findIdx? (fun p => p.1 == k) with
  | none =>
    rw [hj] at hf
    simp only [Option.bind_none] at hf
    obtain ⟨L', e1, e2⟩ := push_ents L k v clock hj
    refine ⟨.map (L'.map ent).toArray (clock + 1), ?_, L', clock + 1, heap_setBlock_same hb _, e2⟩
    rw [← e1]
    simp [Instr.mapUpdate, run_underlying ht, Go.MapKept.run_getObj_map hb, Go.MapKept.run_checkKey hK (show Go.MapKept.IsKey (.int .i64) (.int .i64 k) from by simp [Go.MapKept.IsKey]) _ 9999, Go.MapKept.run_findKey hK hf, Go.MapKept.run_setObj_map _ hb, setBlock]
  | some j =>
    have hlt : j < L.length := (List.findIdx?_eq_some_iff_getElem.1 hj).1
    have hkey : L[j].1 = k := by
      have := (List.findIdx?_eq_some_iff_getElem.1 hj).2.1
      simpa using this
    rw [hj] at hf
    simp only [Option.bind_some, List.getElem?_eq_getElem hlt, Option.map_some] at hf
    obtain ⟨L', e1, e2⟩ := modify_ents L j k v hj
    refine ⟨.map (L'.map ent).toArray clock, ?_, L', clock, heap_setBlock_same hb _, e2⟩
    rw [← e1]
    have hke : ((((L.map ent).toArray[j]?).map (·.key)).getD (.int .i64 k)) = .int .i64 k := by
      simp [List.getElem?_eq_getElem hlt, ent, hkey]
    simp only [Instr.mapUpdate, run_underlying ht, Sem.run_bind, Result.andThen, Go.MapKept.run_getObj_map hb, Go.MapKept.run_checkKey hK (show Go.MapKept.IsKey (.int .i64) (.int .i64 k) from by simp [Go.MapKept.IsKey]) _ 9999, Go.MapKept.run_findKey hK hf, Nat.zero_add]
    rw [hke]
    simp [Instr.keyThatStays, sameBits_int, Go.MapKept.run_setObj_map _ hb, setBlock]
end
end Go.Proofs.Ytjdmindpiaijcaa
