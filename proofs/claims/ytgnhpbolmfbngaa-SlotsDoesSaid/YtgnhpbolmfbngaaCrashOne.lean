/- What a crash leaves (without the hall). -/
import Derived.Test.YtgnhpbolmfbngaaLab
namespace Go.Proofs.Ytgnhpbolmfbngaa

theorem secAt_set (L : List (List UInt8)) (i j : Nat) (s : List UInt8) (hj : j < L.length) : secAt (L.set i s) j = if i = j then s else secAt L j := by
  unfold secAt
  rw [List.getD_eq_getElem?_getD, List.getD_eq_getElem?_getD, List.getElem?_set]
  by_cases h : i = j
  · subst h; simp [hj]
  · simp [h]
theorem secAt_putAll : ∀ (P : List (Nat × List UInt8)) (L : List (List UInt8)) (i : Nat), i < L.length → secAt (putAll P L) i = lastOf i P (secAt L i)
  | [], _, _, _ => rfl
  | p :: r, L, i, hi => by
    show secAt (putAll r (L.set p.1 p.2)) i = lastOf i r _
    rw [secAt_putAll r _ i (by rw [List.length_set]; exact hi), secAt_set _ _ _ _ hi]
theorem sync_read {D : Dk} {i : Nat} (hi : i < D.S.length) : D.sync.read i = D.read i := secAt_putAll _ _ _ hi
theorem sync_sec {D : Dk} {i : Nat} (hi : i < D.S.length) : secAt D.sync.S i = D.read i := secAt_putAll _ _ _ hi
theorem crash_none {D : Dk} (h : D.P = []) (k t b : Int) : D.crash k t b = D := by
  obtain ⟨S, P, full⟩ := D
  simp only at h
  subst h
  rfl
theorem keepB_all (k : Nat) : keepB 18446744073709551615 k = true := by
  unfold keepB
  have h : ∀ j, j < 64 → (!(Go.bits .and .u64 ((18446744073709551615 : Int) / 2 ^ j) 1 == 0)) = true := by decide +kernel
  exact h (k % 64) (Nat.mod_lt _ (by omega))
theorem tearFrom_all (n : Nat) : ∀ (P : List (Nat × List UInt8)) (k : Nat) (L : List (List UInt8)), tearFrom 18446744073709551615 (-1) n k P L = putAll P L
  | [], _, _ => rfl
  | p :: r, k, L => by
    show tearFrom _ _ n (k + 1) r (tearAt _ _ n k p L) = putAll r (L.set p.1 p.2)
    rw [tearFrom_all n r]
    unfold tearAt
    rw [if_neg (by omega), keepB_all, if_pos rfl]
theorem crash_all {D : Dk} {b : Int} : D.crash 18446744073709551615 (-1) b = D.sync := by
  unfold Dk.crash Dk.sync
  rw [tearFrom_all]
/-- Each byte of a sector after a crash is that of what was there, or of one of the writes to it. -/
theorem tearFrom_byte (keep torn : Int) (n : Nat) (i b : Nat) : ∀ (P : List (Nat × List UInt8)) (k : Nat) (L : List (List UInt8)), i < L.length → (∀ p ∈ P, p.2.length = 80) → (secAt L i).length = 80 → n < 80 →
    (secAt (tearFrom keep torn n k P L) i).length = 80 ∧ ((secAt (tearFrom keep torn n k P L) i).getD b 0 = (secAt L i).getD b 0 ∨ ∃ p ∈ P, p.1 = i ∧ (secAt (tearFrom keep torn n k P L) i).getD b 0 = p.2.getD b 0)
  | [], _, L, _, _, h80, _ => ⟨h80, .inl rfl⟩
  | p :: r, k, L, hi, hp, h80, hn => by
    show (secAt (tearFrom keep torn n (k + 1) r (tearAt keep torn n k p L)) i).length = 80 ∧ ((secAt (tearFrom keep torn n (k + 1) r (tearAt keep torn n k p L)) i).getD b 0 = _ ∨ ∃ q ∈ p :: r, q.1 = i ∧ (secAt (tearFrom keep torn n (k + 1) r (tearAt keep torn n k p L)) i).getD b 0 = _)
    have hl : (tearAt keep torn n k p L).length = L.length := by unfold tearAt; split; · simp
                                                                 · split <;> simp
    have hp80 := hp p (List.mem_cons_self ..)
    have hs : (secAt (tearAt keep torn n k p L) i).length = 80 ∧ ((secAt (tearAt keep torn n k p L) i).getD b 0 = (secAt L i).getD b 0 ∨ p.1 = i ∧ (secAt (tearAt keep torn n k p L) i).getD b 0 = p.2.getD b 0) := by
      unfold tearAt
      split
      · rw [secAt_set _ _ _ _ hi]
        split
        · rename_i hpi
          rw [hpi]
          refine ⟨by simp [h80, hp80]; omega, ?_⟩
          by_cases hb : b < n
          · right
            refine ⟨rfl, ?_⟩
            rw [List.getD_eq_getElem?_getD, List.getD_eq_getElem?_getD, List.getElem?_append_left (by simp [hp80]; omega), List.getElem?_take_of_lt hb]
          · left
            rw [List.getD_eq_getElem?_getD, List.getD_eq_getElem?_getD, List.getElem?_append_right (by simp [hp80]; omega), List.getElem?_drop]
            congr 2
            simp [hp80]
            omega
        · exact ⟨h80, .inl rfl⟩
      · split
        · rw [secAt_set _ _ _ _ hi]
          split
          · rename_i hpi
            exact ⟨hp80, .inr ⟨hpi, rfl⟩⟩
          · exact ⟨h80, .inl rfl⟩
        · exact ⟨h80, .inl rfl⟩
    obtain ⟨h1, h2⟩ := tearFrom_byte keep torn n i b r (k + 1) _ (by rw [hl]; exact hi) (fun q hq => hp q (List.mem_cons_of_mem _ hq)) hs.1 hn
    refine ⟨h1, ?_⟩
    rcases h2 with h2 | ⟨q, hq, hqi, h2⟩
    · rcases hs.2 with h3 | ⟨h3, h4⟩
      · exact .inl (h2.trans h3)
      · exact .inr ⟨p, List.mem_cons_self .., h3, h2.trans h4⟩
    · exact .inr ⟨q, List.mem_cons_of_mem _ hq, hqi, h2⟩
/-- What becomes of a sector depends only on the writes to it. -/
theorem tearFrom_one (keep torn : Int) (n at_ : Nat) : ∀ (P P' : List (Nat × List UInt8)) (k : Nat) (L L' : List (List UInt8)), L.length = L'.length → at_ < L.length → secAt L at_ = secAt L' at_ → P.length = P'.length →
    (∀ (j : Nat) (p p' : Nat × List UInt8), P[j]? = some p → P'[j]? = some p' → p.1 = p'.1 ∧ (p.1 = at_ → p.2 = p'.2)) → secAt (tearFrom keep torn n k P L) at_ = secAt (tearFrom keep torn n k P' L') at_
  | [], [], _, _, _, _, _, h, _, _ => h
  | [], _ :: _, _, _, _, _, _, _, hl, _ => by simp at hl
  | _ :: _, [], _, _, _, _, _, _, hl, _ => by simp at hl
  | p :: r, p' :: r', k, L, L', hL, ha, hs, hl, hp => by
    show secAt (tearFrom keep torn n (k + 1) r (tearAt keep torn n k p L)) at_ = secAt (tearFrom keep torn n (k + 1) r' (tearAt keep torn n k p' L')) at_
    obtain ⟨e1, e2⟩ := hp 0 p p' rfl rfl
    have hl1 : (tearAt keep torn n k p L).length = L.length := by unfold tearAt; split; · simp
                                                                  · split <;> simp
    have hl2 : (tearAt keep torn n k p' L').length = L'.length := by unfold tearAt; split; · simp
                                                                     · split <;> simp
    refine tearFrom_one keep torn n at_ r r' (k + 1) _ _ (by rw [hl1, hl2, hL]) (by rw [hl1]; exact ha) ?_ (by simpa using hl) (fun j q q' h1 h2 => hp (j + 1) q q' h1 h2)
    unfold tearAt
    by_cases hpa : p.1 = at_
    · have e3 := e2 hpa
      have hpa' : p'.1 = at_ := by rw [← e1]; exact hpa
      split
      · rw [secAt_set _ _ _ _ ha, secAt_set _ _ _ _ (by omega), if_pos hpa, if_pos hpa', hpa, hpa', e3, hs]
      · split
        · rw [secAt_set _ _ _ _ ha, secAt_set _ _ _ _ (by omega), if_pos hpa, if_pos hpa', e3]
        · exact hs
    · have hpa' : ¬ p'.1 = at_ := by rw [← e1]; exact hpa
      split
      · rw [secAt_set _ _ _ _ ha, secAt_set _ _ _ _ (by omega), if_neg hpa, if_neg hpa', hs]
      · split
        · rw [secAt_set _ _ _ _ ha, secAt_set _ _ _ _ (by omega), if_neg hpa, if_neg hpa', hs]
        · exact hs
/-- Tearing with no bytes is losing. -/
theorem tearFrom_zero (keep keep' torn torn' : Int) (n : Nat) : ∀ (P : List (Nat × List UInt8)) (k : Nat) (L : List (List UInt8)), (∀ p ∈ P, p.1 < L.length) →
    (∀ j, k ≤ j → j < k + P.length → ¬ (j : Int) = torn' ∧ (if (j : Int) = torn then keepB keep' j = false else keepB keep' j = keepB keep j)) → tearFrom keep torn 0 k P L = tearFrom keep' torn' n k P L
  | [], _, _, _, _ => rfl
  | p :: r, k, L, hp, h => by
    show tearFrom keep torn 0 (k + 1) r (tearAt keep torn 0 k p L) = tearFrom keep' torn' n (k + 1) r (tearAt keep' torn' n k p L)
    have h0 := h k (Nat.le_refl _) (by simp)
    have hp0 := hp p (List.mem_cons_self ..)
    have e : tearAt keep torn 0 k p L = tearAt keep' torn' n k p L := by
      unfold tearAt
      rw [if_neg h0.1]
      by_cases ht : (k : Int) = torn
      · have h1 := h0.2
        rw [if_pos ht] at h1
        rw [if_pos ht, h1, if_neg (by decide)]
        unfold secAt
        rw [List.take_zero, List.nil_append, List.drop_zero, List.getD_eq_getElem?_getD, List.getElem?_eq_getElem hp0]
        exact List.set_getElem_self hp0
      · have h1 := h0.2
        rw [if_neg ht] at h1
        rw [if_neg ht, h1]
    have hl : (tearAt keep' torn' n k p L).length = L.length := by unfold tearAt; split; · simp
                                                                   · split <;> simp
    rw [e]
    exact tearFrom_zero keep keep' torn torn' n r (k + 1) _ (fun q hq => by rw [hl]; exact hp q (List.mem_cons_of_mem _ hq)) (fun j hj hj' => h j (by omega) (by simp at hj' ⊢; omega))
end Go.Proofs.Ytgnhpbolmfbngaa
