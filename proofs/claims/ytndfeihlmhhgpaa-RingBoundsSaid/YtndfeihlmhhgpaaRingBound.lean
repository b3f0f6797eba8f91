/- What Recover returns for any blocks: the plain part of RingBounds. -/
import Derived.Test.YtndfeihlmhhgpaaRingLaw
import Derived.Test.YtndfeihlmhhgpaaRingFirst
namespace Go.Proofs.Ytndfeihlmhhgpaa

/-- The last block of life 7 that has a number. -/
def lastOf (l : List GB) (n : Int) : Option GB := l.foldl (fun o g => if g.life = 7 ∧ g.n = n then some g else o) none
theorem lastOf_snoc (l : List GB) (n : Int) (c : GB) : lastOf (l ++ [c]) n = if c.life = 7 ∧ c.n = n then some c else lastOf l n := by simp [lastOf, List.foldl_append]
theorem lastOf_take (l : List GB) (n : Int) (k : Nat) (h : k < l.length) : lastOf (l.take (k + 1)) n = if l[k].life = 7 ∧ l[k].n = n then some l[k] else lastOf (l.take k) n := by
  rw [List.take_succ_eq_append_getElem h, lastOf_snoc]
theorem lastOf_found {l : List GB} {n : Int} (h0 : 0 ≤ n) (h1 : n ≤ 4294967295) : lastOf l n = mget (foundOf 7 l) n := by
  induction l using snocInd with
  | h0 => rfl
  | h1 l c ih =>
    rw [lastOf_snoc, foundOf_snoc]
    by_cases hc : c.life = 7 ∧ c.n = n
    · have hp : c.pick 7 = true := by
        obtain ⟨h2, h3⟩ := hc
        simp only [GB.pick, h2, h3, decide_eq_true h0, decide_eq_true h1]
        rfl
      rw [if_pos hc, if_pos hp, mget_mput, if_pos hc.2.symm]
    · rw [if_neg hc]
      by_cases hp : c.pick 7 = true
      · have hl : c.life = 7 := by
          simp [GB.pick] at hp
          exact hp.1
        rw [if_pos hp, mget_mput, if_neg (fun e => hc ⟨hl, e.symm⟩)]
        exact ih
      · rw [if_neg hp]
        exact ih
theorem goDown_all (may : Int → Bool) : ∀ (k : Nat) (a n : Int), goDown may k a < n → n ≤ a → may n = true
  | 0, a, n, h0, h1 => by unfold goDown at h0; omega
  | k + 1, a, n, h0, h1 => by
    unfold goDown at h0
    by_cases hm : may a = true
    · rw [if_pos hm] at h0
      by_cases hn : n = a
      · rw [hn]; exact hm
      · exact goDown_all may k (a - 1) n h0 (by omega)
    · rw [if_neg hm] at h0
      omega
theorem recover_bounds {f b : Int} (q1 : 2 ≤ f) (q2 : f ≤ 64) (q3 : 1 ≤ b) (q4 : b ≤ 64) (l : List GB) :
    ∃ fr te off, recover f b 7 l = ⟨fr, te, off, sumLen (foundOf 7 l) (te - fr).toNat fr⟩ ∧ 0 ≤ fr ∧ fr ≤ te ∧ te - fr ≤ f * b ∧ te ≤ 4294967400 ∧
      (∀ n, fr ≤ n → n < te → n ≤ 4294967295 ∧ ∃ g, lastOf l n = some g ∧ at? (foundOf 7 l) n = g) ∧ (fr < te → (te - 1) / b - fr / b < f) := by
  have hfb : 1 * 1 ≤ f * b := Int.mul_le_mul (by omega) (by omega) (by omega) (by omega)
  by_cases hg : greatestOf 7 l < 0
  · refine ⟨0, 0, 0, ?_, by omega, by omega, by omega, by omega, fun n h0 h1 => by omega, fun h => by omega⟩
    unfold recover
    simp only [if_pos hg]
    rfl
  · have hgl := greatestOf_le 7 l
    have hd := Int.mul_ediv_add_emod (greatestOf 7 l) b
    have hr0 := Int.emod_nonneg (greatestOf 7 l) (by omega : b ≠ 0)
    have hr1 := Int.emod_lt_of_pos (greatestOf 7 l) (by omega : 0 < b)
    rw [Int.mul_comm] at hd
    have hq0 : 0 ≤ greatestOf 7 l / b := Int.ediv_nonneg (by omega) (by omega)
    unfold recover
    simp only [if_neg hg]
    generalize greatestOf 7 l % b = r at *
    generalize greatestOf 7 l / b = q at *
    have hqb : 0 ≤ q * b := Int.mul_nonneg hq0 (by omega)
    have hsub : (q - f + 1) * b = q * b - f * b + b := by rw [Int.add_mul, Int.sub_mul, Int.one_mul]
    have hf2 : 2 * b ≤ f * b := Int.mul_le_mul_of_nonneg_right q1 (by omega)
    obtain ⟨h1, h2⟩ := goUp_le (mayUp (foundOf 7 l) (q * b) b) b.toNat (q * b)
    generalize goUp (mayUp (foundOf 7 l) (q * b) b) b.toNat (q * b) = te at *
    obtain ⟨least, hle⟩ : ∃ x, max 0 ((q - f + 1) * b) = x := ⟨_, rfl⟩
    rw [hle]
    obtain ⟨h3, h4⟩ := goDown_le (mayDown (foundOf 7 l) least) (te - least).toNat te
    have hall := goDown_all (mayDown (foundOf 7 l) least) (te - least).toNat te
    generalize goDown (mayDown (foundOf 7 l) least) (te - least).toNat te = fr at *
    refine ⟨fr, te, _, rfl, by omega, by omega, by omega, by omega, fun n h5 h6 => ?_, fun h => ?_⟩
    · have h7 := hall (n + 1) (by omega) (by omega)
      unfold mayDown at h7
      rw [show n + 1 - 1 = n by omega] at h7
      simp only [Bool.and_eq_true] at h7
      cases hm : mget (foundOf 7 l) n with
      | none => rw [hm] at h7; exact absurd h7.1 (by decide)
      | some g =>
        have h8 := foundOf_mem (mget_mem hm)
        have h9 : n ≤ 4294967295 := by
          have hp := h8.2.2
          simp [GB.pick] at hp
          have := h8.2.1
          omega
        refine ⟨h9, g, ?_, ?_⟩
        · rw [lastOf_found (by omega) h9]; exact hm
        · unfold at?; rw [hm]; rfl
    · have e1 : q - f + 1 ≤ fr / b := Int.le_ediv_of_mul_le (by omega) (by omega)
      have e2 : (te - 1) / b < q + 1 := Int.ediv_lt_of_lt_mul (by omega) (by rw [Int.add_mul]; omega)
      omega
theorem sector_ne {f b k m : Int} (h1 : 2 ≤ f) (h2 : f ≤ 64) (h3 : 1 ≤ b) (h4 : b ≤ 64) (hk1 : k ≤ 4294967295) (hm0 : 0 ≤ m) (hm : m < k) (hd : k - m < f * b) : rSector f b m ≠ rSector f b k := by
  unfold rSector
  rw [if_pos (rcheck_in h1 h2 h3 h4 (by omega) (by omega)), if_pos (rcheck_in h1 h2 h3 h4 (by omega) (by omega))]
  intro e
  have e1 : (k - m) % (f * b) = 0 := by
    rw [Int.sub_emod, e]
    simp
  rw [Int.emod_eq_of_lt (by omega) hd] at e1
  omega
/-- The sectors of the first j blocks. -/
def usedOf (f b fr : Int) : Nat → List (Int × Value)
  | 0 => []
  | j + 1 => mput (usedOf f b fr j) (rSector f b (fr + j)) (.bool true)
theorem used_no {f b fr : Int} {s : Int} : ∀ j : Nat, (∀ i : Nat, i < j → rSector f b (fr + i) ≠ s) → mget (usedOf f b fr j) s = none
  | 0, _ => rfl
  | j + 1, h => by
    unfold usedOf
    rw [mget_mput, if_neg (fun e => h j (by omega) e.symm)]
    exact used_no j fun i hi => h i (by omega)
theorem used_new {f b fr : Int} (h1 : 2 ≤ f) (h2 : f ≤ 64) (h3 : 1 ≤ b) (h4 : b ≤ 64) (h0 : 0 ≤ fr) (j : Nat) (hj : fr + j ≤ 4294967295) (hd : (j : Int) < f * b) : mget (usedOf f b fr j) (rSector f b (fr + j)) = none :=
  used_no j fun i hi => sector_ne h1 h2 h3 h4 hj (by omega) (by omega) (by omega)
theorem sector_in {f b n : Int} (h1 : 2 ≤ f) (h2 : f ≤ 64) (h3 : 1 ≤ b) (h4 : b ≤ 64) (h0 : 0 ≤ n) (hn : n ≤ 4294967295) : 0 ≤ rSector f b n ∧ rSector f b n < f * b := by
  have hfb : 1 * 1 ≤ f * b := Int.mul_le_mul (by omega) (by omega) (by omega) (by omega)
  unfold rSector
  rw [if_pos (rcheck_in h1 h2 h3 h4 (by omega) (by omega))]
  exact ⟨Int.emod_nonneg _ (by omega), Int.emod_lt_of_pos _ (by omega)⟩
end Go.Proofs.Ytndfeihlmhhgpaa
