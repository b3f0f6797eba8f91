/- What Recover finds when blocks of the last file are missing: the plain part of RingSynced. -/
import Derived.Test.YtndfeihlmhhgpaaRingThere
namespace Go.Proofs.Ytndfeihlmhhgpaa
open Go.RowKit Go.Proofs.YtndfeihlmhhgpaaW.PrintWords Go.Proofs.YtndfeihlmhhgpaaW.PrintLast Go.Proofs.YtndfeihlmhhgpaaW.PrintMore

/-- Of the i blocks from number c on those that are not missing. -/
def leftOf (X : Nat → Bool) (steps : Int) (c i : Nat) : List SB := ((List.range' c i).filter fun k => !X k).map (wblock steps)
/-- The first one that is missing, or n. -/
def gapOf (X : Nat → Bool) (n c : Nat) : Nat → Nat
  | 0 => n
  | i + 1 => if X (c + i) then min (gapOf X n c i) (c + i) else gapOf X n c i
theorem leftOf_succ (X : Nat → Bool) (steps : Int) (c i : Nat) : leftOf X steps c (i + 1) = if X (c + i) then leftOf X steps c i else leftOf X steps c i ++ [wblock steps (c + i)] := by
  unfold leftOf
  rw [List.range'_concat, Nat.one_mul, List.filter_append, List.map_append]
  cases h : X (c + i)
  · rw [if_neg (by decide)]
    simp [h]
  · rw [if_pos rfl]
    simp [h]
theorem leftOf_len (X : Nat → Bool) (steps : Int) (c i : Nat) : (leftOf X steps c i).length ≤ i := by
  unfold leftOf
  rw [List.length_map]
  have := List.length_filter_le (fun k => !X k) (List.range' c i)
  rw [List.length_range'] at this
  exact this
theorem mem_leftOf {X : Nat → Bool} {steps : Int} {c i : Nat} {x : SB} : x ∈ leftOf X steps c i ↔ ∃ k, c ≤ k ∧ k < c + i ∧ X k = false ∧ x = wblock steps k := by
  unfold leftOf
  rw [List.mem_map]
  constructor
  · rintro ⟨k, hk, rfl⟩
    rw [List.mem_filter, List.mem_range'_1] at hk
    exact ⟨k, hk.1.1, hk.1.2, by simpa using hk.2, rfl⟩
  · rintro ⟨k, h0, h1, h2, rfl⟩
    exact ⟨k, by rw [List.mem_filter, List.mem_range'_1]; exact ⟨⟨h0, h1⟩, by simpa using h2⟩, rfl⟩
theorem leftOf_small {X : Nat → Bool} {steps : Int} {c i : Nat} : ∀ x ∈ leftOf X steps c i, x.f4.size ≤ 10 := fun x hx => by
  obtain ⟨k, h0, h1, _, rfl⟩ := mem_leftOf.1 hx
  exact wrow_small (mem_wrow.2 ⟨k, h0, h1, rfl⟩ : wblock steps k ∈ wrow steps c (c + i))
theorem gap_le (X : Nat → Bool) (n c : Nat) : ∀ i, gapOf X n c i ≤ n
  | 0 => Nat.le_refl _
  | i + 1 => by
    have := gap_le X n c i
    unfold gapOf
    split <;> omega
theorem gap_or (X : Nat → Bool) (n c : Nat) : ∀ i, gapOf X n c i = n ∨ ∃ k, c ≤ k ∧ k < c + i ∧ X k = true ∧ gapOf X n c i = k
  | 0 => .inl rfl
  | i + 1 => by
    have ih := gap_or X n c i
    unfold gapOf
    split
    · rename_i h
      by_cases hl : gapOf X n c i ≤ c + i
      · rw [Nat.min_eq_left hl]
        rcases ih with ih | ⟨k, h0, h1, h2, h3⟩
        · exact .inl ih
        · exact .inr ⟨k, h0, by omega, h2, h3⟩
      · rw [Nat.min_eq_right (by omega)]
        exact .inr ⟨c + i, by omega, by omega, h, rfl⟩
    · rcases ih with ih | ⟨k, h0, h1, h2, h3⟩
      · exact .inl ih
      · exact .inr ⟨k, h0, by omega, h2, h3⟩
theorem gap_min (X : Nat → Bool) (n c : Nat) : ∀ i k, c ≤ k → k < c + i → X k = true → gapOf X n c i ≤ k
  | 0, k, h0, h1, _ => by omega
  | i + 1, k, h0, h1, h2 => by
    unfold gapOf
    by_cases hk : k = c + i
    · subst hk
      rw [if_pos h2]
      exact Nat.min_le_right _ _
    · have := gap_min X n c i k h0 (by omega) h2
      split
      · exact Nat.le_trans (Nat.min_le_left _ _) this
      · exact this
theorem last_of (X : Nat → Bool) (c : Nat) : ∀ n, (∃ k, c ≤ k ∧ k < n ∧ X k = false) → ∃ g, c ≤ g ∧ g < n ∧ X g = false ∧ ∀ k, c ≤ k → k < n → X k = false → k ≤ g
  | 0, h => by obtain ⟨k, _, h, _⟩ := h; omega
  | n + 1, h => by
    by_cases hn : c ≤ n ∧ X n = false
    · exact ⟨n, hn.1, by omega, hn.2, fun k _ hk _ => by omega⟩
    · obtain ⟨k, k0, k1, k2⟩ := h
      have hk : k ≠ n := by rintro rfl; exact hn ⟨k0, k2⟩
      obtain ⟨g, g0, g1, g2, g3⟩ := last_of X c n ⟨k, k0, by omega, k2⟩
      exact ⟨g, g0, by omega, g2, fun j j0 j1 j2 => g3 j j0 (by
        have hj : j ≠ n := by rintro rfl; exact hn ⟨j0, j2⟩
        omega) j2⟩
theorem div_is {g q b : Int} (hb : 1 ≤ b) (h0 : q * b ≤ g) (h1 : g < q * b + b) : g / b = q := by
  have e1 : q ≤ g / b := Int.le_ediv_of_mul_le (by omega) h0
  have e2 : g / b < q + 1 := Int.ediv_lt_of_lt_mul (by omega) (by rw [Int.add_mul]; omega)
  omega
theorem there_left (X : Nat → Bool) (steps : Int) {n c : Nat} (hn : n ≤ 100) (hcn : c ≤ n) : There 7 ((leftOf X steps c (n - c)).map gbW) (Bw steps) (fun k => (c : Int) ≤ k ∧ k < n ∧ X k.toNat = false) where
  is := fun b hb _ => by
    obtain ⟨x, hx, rfl⟩ := List.mem_map.1 hb
    obtain ⟨k, k0, k1, k2, rfl⟩ := mem_leftOf.1 hx
    exact ⟨rfl, by show (c : Int) ≤ (k : Int); omega, by show (k : Int) < n; omega, k2⟩
  all := fun k hk => by
    obtain ⟨h0, h1, h2⟩ := hk
    have hm : wblock steps k.toNat ∈ leftOf X steps c (n - c) := mem_leftOf.2 ⟨k.toNat, by omega, by omega, h2, rfl⟩
    refine ⟨gbW (wblock steps k.toNat), List.mem_map.2 ⟨_, hm, rfl⟩, pick_wblock _ _ (by omega), ?_⟩
    show ((k.toNat : Nat) : Int) = k
    omega
theorem recover_synced {f b : Int} (q1 : 2 ≤ f) (q2 : f ≤ 64) (q3 : 1 ≤ b) (q4 : b ≤ 64) (steps : Int) {n c m : Nat} (X : Nat → Bool) (hn0 : 1 ≤ n) (hn : n ≤ 100) (hc : rFirst f b n = c)
    (hm0 : ((n : Int) - 1) / b * b ≤ m) (hm1 : m ≤ n) (hX : ∀ k, X k = true → m ≤ k) :
    (leftOf X steps c (n - c) = [] ∧ recover f b 7 ((leftOf X steps c (n - c)).map gbW) = ⟨0, 0, 0, 0⟩ ∧ (gapOf X n c (n - c) = 0 → m = 0)) ∨
    ∃ o z, recover f b 7 ((leftOf X steps c (n - c)).map gbW) = ⟨c, gapOf X n c (n - c), o, z⟩ ∧ c ≤ gapOf X n c (n - c) ∧ m ≤ gapOf X n c (n - c) := by
  have hcn := first_le q1 q2 q3 q4 hn hc
  have H := there_left X steps hn hcn
  have hgo := gap_or X n c (n - c)
  have hgm := gap_min X n c (n - c)
  have hgl := gap_le X n c (n - c)
  generalize gapOf X n c (n - c) = gp at *
  have e : max 0 ((((n : Int) - 1) / b - f + 1) * b) = c := by
    rw [← hc]
    unfold rFirst
    rw [if_pos ⟨rcheck_in q1 q2 q3 q4 (by omega) (by omega), by omega⟩]
  have hd := Int.mul_ediv_add_emod ((n : Int) - 1) b
  have hr0 := Int.emod_nonneg ((n : Int) - 1) (by omega : b ≠ 0)
  have hr1 := Int.emod_lt_of_pos ((n : Int) - 1) (by omega : 0 < b)
  rw [Int.mul_comm] at hd
  have hq0 : 0 ≤ ((n : Int) - 1) / b := Int.ediv_nonneg (by omega) (by omega)
  generalize ((n : Int) - 1) % b = r at *
  generalize ((n : Int) - 1) / b = q at *
  have hqb : 0 ≤ q * b := Int.mul_nonneg hq0 (by omega)
  have hcs : (c : Int) ≤ q * b := by
    rw [← e]
    have h3 : (q - f + 1) * b ≤ q * b := Int.mul_le_mul_of_nonneg_right (by omega) (by omega)
    omega
  by_cases hA : ∃ k, c ≤ k ∧ k < n ∧ X k = false
  · right
    by_cases hB : ∃ k : Nat, q * b ≤ (k : Int) ∧ k < n ∧ X k = false
    · obtain ⟨g, g0, g1, g2, g3⟩ := last_of X c n hA
      obtain ⟨k, k0, k1, k2⟩ := hB
      have hgk := g3 k (by omega) k1 k2
      have hgq : (g : Int) / b = q := div_is q3 (by omega) (by omega)
      have hmg : m ≤ gp := by
        rcases hgo with h | ⟨j, j0, j1, j2, j3⟩
        · omega
        · have := hX j j2; omega
      refine ⟨_, _, recover_is (files := f) (blocks := b) H (g := (g : Int)) (te := gp) (fr := c) q3 ⟨by omega, by omega, g2⟩ (fun j hj => ?_) (by rw [hgq]; omega) (by rw [hgq]; omega) (fun j h0 h1 => ?_)
        (fun j h0 h1 => Bw_boot steps j (by rw [hgq] at h0; omega)) (.inr ?_) (by rw [hgq, e]; exact Int.le_refl _) (by omega) (fun j h0 h1 => ?_) (.inl (by rw [hgq, e])), by omega, hmg⟩
      · have h1 := g3 j.toNat (by omega) (by omega) hj.2.2
        omega
      · rw [hgq] at h0
        refine ⟨by omega, by omega, ?_⟩
        cases hx : X j.toNat
        · rfl
        · have := hgm j.toNat (by omega) (by omega) hx
          omega
      · rintro ⟨_, j1, j2⟩
        rcases hgo with h | ⟨j, j0, j3, j4, j5⟩
        · omega
        · rw [j5] at j2
          rw [Int.toNat_natCast, j4] at j2
          cases j2
      · refine ⟨by omega, by omega, ?_⟩
        cases hx : X j.toNat
        · rfl
        · have := hgm j.toNat (by omega) (by omega) hx
          omega
    · obtain ⟨s, hs⟩ : ∃ s : Nat, q * b = s := ⟨(q * b).toNat, by omega⟩
      have hall : ∀ k : Nat, s ≤ k → k < n → X k = true := fun k k0 k1 => by
        cases hx : X k
        · exact absurd ⟨k, by omega, k1, hx⟩ hB
        · rfl
      have hsn : s < n := by omega
      have hms : m = s := by
        have := hX s (hall s (Nat.le_refl _) hsn)
        omega
      subst hms
      have hgp : gp = m := by
        have h1 := hgm m (by omega) (by omega) (hall m (Nat.le_refl _) hsn)
        rcases hgo with h | ⟨j, j0, j1, j2, j3⟩
        · omega
        · have := hX j j2; omega
      subst hgp
      obtain ⟨k0, k1, k2, k3⟩ := hA
      have hk0 : k0 < gp := by
        by_cases h : gp ≤ k0
        · rw [hall k0 h k2] at k3; cases k3
        · omega
      have hq1 : 1 ≤ q := by
        by_cases h : 1 ≤ q
        · exact h
        · obtain rfl : q = 0 := by omega
          omega
      have hsub : (q - 1) * b = q * b - b := by rw [Int.sub_mul]; omega
      have hgq : ((gp : Int) - 1) / b = q - 1 := div_is q3 (by omega) (by omega)
      have hX0 : ∀ j : Int, 0 ≤ j → j < gp → X j.toNat = false := fun j j0 j1 => by
        cases hx : X j.toNat
        · rfl
        · have := hX _ hx; omega
      have hcb : (c : Int) ≤ (q - 1) * b := by
        rw [← e]
        have h3 : (q - f + 1) * b ≤ (q - 1) * b := Int.mul_le_mul_of_nonneg_right (by omega) (by omega)
        have h4 : 0 ≤ (q - 1) * b := Int.mul_nonneg (by omega) (by omega)
        omega
      refine ⟨_, _, recover_is (files := f) (blocks := b) H (g := (gp : Int) - 1) (te := gp) (fr := c) q3 ⟨by omega, by omega, hX0 _ (by omega) (by omega)⟩ (fun j hj => ?_) (by rw [hgq]; omega) (by rw [hgq]; omega) (fun j h0 h1 => ?_)
        (fun j h0 h1 => Bw_boot steps j (by rw [hgq] at h0; omega)) (.inl (by rw [hgq]; omega)) ?_ (by omega) (fun j h0 h1 => ?_) (.inr (by rintro ⟨h, _⟩; omega)), by omega, Nat.le_refl _⟩
      · refine ⟨by omega, ?_⟩
        by_cases h : j ≤ gp - 1
        · exact h
        · have h1 := hall j.toNat (by omega) (by omega)
          rw [hj.2.2] at h1
          cases h1
      · rw [hgq] at h0
        exact ⟨by omega, by omega, hX0 j (by omega) h1⟩
      · rw [hgq, ← e]
        have h3 : (q - 1 - f + 1) * b ≤ (q - f + 1) * b := Int.mul_le_mul_of_nonneg_right (by omega) (by omega)
        omega
      · exact ⟨by omega, by omega, hX0 j (by omega) h1⟩
  · left
    refine ⟨?_, recover_none H (fun k hk => hA ⟨k.toNat, by omega, by omega, hk.2.2⟩), fun h => ?_⟩
    · apply List.eq_nil_iff_forall_not_mem.2
      intro x hx
      obtain ⟨k, k0, k1, k2, _⟩ := mem_leftOf.1 hx
      exact hA ⟨k, k0, by omega, k2⟩
    · rcases hgo with h1 | ⟨j, j0, j1, j2, j3⟩
      · omega
      · have := hX j j2; omega
end Go.Proofs.Ytndfeihlmhhgpaa
