/- What is pending after filled, and each byte after a crash. -/
import Derived.Test.YtjpelmjocdodcaaPush
namespace Go.Proofs.Ytjpelmjocdodcaa

def putOf (n : Nat) (p : Nat × Nat) : Nat × List UInt8 := (p.1 % n, sectorOf p.2)
theorem fillAt_P (n q : Nat) (l : List (Nat × Nat)) : ∀ i, i ≤ l.length → (fillAt n q l i).P = if q ≤ i then ((l.take i).drop q).map (putOf n) else (l.take i).map (putOf n) := by
  intro i
  induction i with
  | zero =>
    intro _
    simp [fillAt, Dk.new]
  | succ i ih =>
    intro hi
    have ih := ih (by omega)
    have hg : l.getD i (0, 0) = l[i] := by rw [List.getD_eq_getElem?_getD, List.getElem?_eq_getElem (by omega)]; rfl
    have ht : l.take (i + 1) = l.take i ++ [l[i]] := List.take_succ_eq_append_getElem (by omega)
    have hl : (l.take i).length = i := by rw [List.length_take]; omega
    unfold fillAt
    rw [hg]
    by_cases hs : (i : Int) + 1 = (q : Int)
    · rw [if_pos hs, if_pos (by omega)]
      have : q = i + 1 := by omega
      subst this
      rw [List.drop_eq_nil_of_le (by rw [List.length_take]; omega)]
      rfl
    · rw [if_neg hs]
      show (fillAt n q l i).P ++ [(l[i].1 % n, sectorOf l[i].2)] = _
      rw [ih, ht]
      by_cases hq : q ≤ i
      · rw [if_pos hq, if_pos (by omega), List.drop_append_of_le_length (by omega), List.map_append]
        rfl
      · rw [if_neg hq, if_neg (by omega), List.map_append]
        rfl
theorem fillD_P (n q : Nat) (l : List (Nat × Nat)) (hq : q ≤ l.length) : (fillD n q l).P = (l.drop q).map (putOf n) := by
  unfold fillD
  rw [fillAt_P n q l _ (Nat.le_refl _), if_pos hq, List.take_length]
/-- Each byte of a sector after the crash. -/
theorem crash_byte {n q : Nat} {l : List (Nat × Nat)} (hq : q ≤ l.length) (hok : (fillD n q l).Ok) (keep torn bytes : Int) {i b : Nat} (hi : i < n) :
    (secAt ((fillD n q l).crash keep torn bytes).S i).length = 80 ∧ ((secAt ((fillD n q l).crash keep torn bytes).S i).getD b 0 = (secAt (fillD n q l).S i).getD b 0 ∨
      ∃ w, ∃ h : w < l.length, q ≤ w ∧ l[w].1 % n = i ∧ (secAt ((fillD n q l).crash keep torn bytes).S i).getD b 0 = (sectorOf l[w].2).getD b 0) := by
  have hP := fillD_P n q l hq
  have hS := fillD_length n q l
  obtain ⟨h1, h2⟩ := tearFrom_byte keep torn (tearN bytes) i b (fillD n q l).P 0 (fillD n q l).S (by omega) (fun p hp => (hok.2.2.2 p hp).2) (hok.2.2.1 _ (by
    unfold secAt
    rw [List.getD_eq_getElem?_getD, List.getElem?_eq_getElem (by omega)]
    exact List.getElem_mem _)) (tearN_lt _)
  refine ⟨h1, ?_⟩
  rcases h2 with h2 | ⟨p, hp, hpi, h2⟩
  · exact .inl h2
  · right
    rw [hP] at hp
    obtain ⟨x, hx, rfl⟩ := List.mem_map.1 hp
    obtain ⟨j, hj, rfl⟩ := List.getElem_of_mem hx
    rw [List.length_drop] at hj
    refine ⟨q + j, by omega, by omega, ?_, ?_⟩
    · rw [List.getElem_drop] at hpi; exact hpi
    · rw [List.getElem_drop] at h2; exact h2
theorem sec_len {D : Dk} (hok : D.Ok) {i : Nat} (hi : i < D.S.length) : (secAt D.S i).length = 80 := hok.2.2.1 _ (by
  unfold secAt
  rw [List.getD_eq_getElem?_getD, List.getElem?_eq_getElem (by omega)]
  exact List.getElem_mem _)
theorem S_byte {X : ByteArray} {x : List UInt8} (h : S x = X) {b : Nat} (hb : b < X.size) : X[b] = x.getD b 0 := by
  subst h
  rw [S_getElem, List.getD_eq_getElem?_getD, List.getElem?_eq_getElem (by simpa using hb)]
  rfl
/-- What the innermost loop knows. -/
def MayB (l : List (Nat × Nat)) (r q i b : Nat) (x : UInt8) (m0 : Bool) (j : Nat) (mm : Bool) : Prop :=
  (m0 = true → mm = true) ∧ ∀ t (h : t < l.length), q ≤ t → t < j → l[t].1 % r = i → x = (sectorOf l[t].2).getD b 0 → mm = true
theorem MayB.start (l : List (Nat × Nat)) (r q i b : Nat) (x : UInt8) (m0 : Bool) : MayB l r q i b x m0 q m0 := ⟨id, fun t _ h1 h2 => by omega⟩
theorem MayB.yes {l : List (Nat × Nat)} {r q i b : Nat} {x : UInt8} {m0 : Bool} {j : Nat} : MayB l r q i b x m0 j true := ⟨fun _ => rfl, fun _ _ _ _ _ _ => rfl⟩
theorem MayB.other {l : List (Nat × Nat)} {r q i b : Nat} {x : UInt8} {m0 : Bool} {j : Nat} {mm : Bool} (h : MayB l r q i b x m0 j mm) (hj : j < l.length) (hn : ¬ l[j].1 % r = i) : MayB l r q i b x m0 (j + 1) mm :=
  ⟨h.1, fun t ht h1 h2 h3 h4 => by
    by_cases e : t = j
    · subst e; exact absurd h3 hn
    · exact h.2 t ht h1 (by omega) h3 h4⟩
theorem MayB.same {l : List (Nat × Nat)} {r q i b : Nat} {x : UInt8} {m0 : Bool} {j : Nat} (h : MayB l r q i b x m0 j false) (hj : j < l.length) {m' : Bool} (hm : x = (sectorOf l[j].2).getD b 0 → m' = true) : MayB l r q i b x m0 (j + 1) m' :=
  ⟨fun e => absurd (h.1 e) (by decide), fun t ht h1 h2 h3 h4 => by
    by_cases e : t = j
    · subst e; exact hm h4
    · exact absurd (h.2 t ht h1 (by omega) h3 h4) (by decide)⟩
end Go.Proofs.Ytjpelmjocdodcaa
