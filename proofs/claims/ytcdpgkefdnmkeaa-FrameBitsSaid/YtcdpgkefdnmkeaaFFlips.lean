/- Bits of a sector that are changed one after another: the plain part of FrameBits. -/
import Derived.Test.YtcdpgkefdnmkeaaFBitsLaw
namespace Go.Proofs.Ytcdpgkefdnmkeaa.Fr

/-- Where a byte of what the checksum is of lies in the sector. -/
def posB (k : Nat) : Nat := if 13 < k then k + 4 else k
def flipS (T : List UInt8) (p : Nat) : List UInt8 := T.set (posB (p / 8)) (UInt8.ofNat ((T.getD (posB (p / 8)) 0).toNat ^^^ 2 ^ (p % 8)))
def flips (cond : Nat → Bool) (first : Nat) (T : List UInt8) : Nat → List UInt8
  | 0 => T
  | i + 1 => if cond i then flipS (flips cond first T i) (first + i) else flips cond first T i
theorem flipS_length (T : List UInt8) (p : Nat) : (flipS T p).length = T.length := by unfold flipS; rw [List.length_set]
theorem flips_length (cond : Nat → Bool) (first : Nat) (T : List UInt8) : ∀ i, (flips cond first T i).length = T.length
  | 0 => rfl
  | i + 1 => by
    unfold flips
    split
    · rw [flipS_length, flips_length cond first T i]
    · exact flips_length cond first T i
theorem getD_set {T : List UInt8} {q k : Nat} {v : UInt8} (hq : q < T.length) : (T.set q v).getD k 0 = if k = q then v else T.getD k 0 := by
  rw [List.getD_eq_getElem?_getD, List.getElem?_set]
  by_cases h : q = k
  · subst h
    rw [if_pos rfl, if_pos hq, if_pos rfl]
    rfl
  · rw [if_neg h, if_neg (fun e => h e.symm), List.getD_eq_getElem?_getD]
theorem posB_lt {k len : Nat} (h : k < 14 + len) (hl : len ≤ 44) : posB k < 80 := by unfold posB; split <;> omega
theorem posB_inj {k m : Nat} (h : posB k = posB m) : k = m := by
  unfold posB at h
  by_cases h1 : 13 < k <;> by_cases h2 : 13 < m
  · rw [if_pos h1, if_pos h2] at h; omega
  · rw [if_pos h1, if_neg h2] at h; omega
  · rw [if_neg h1, if_pos h2] at h; omega
  · rw [if_neg h1, if_neg h2] at h; omega
theorem posB_out {k q : Nat} (hk : k ≠ 13) (hq : 13 ≤ q) (hq2 : q < 18) : posB k ≠ q := by unfold posB; split <;> omega
theorem msg_get {T : List UInt8} {len k : Nat} (hT : T.length = 80) (hl : len ≤ 44) (hk : k < 14 + len) : (msg T len).getD k 0 = T.getD (posB k) 0 := by
  unfold msg posB
  rw [List.getD_eq_getElem?_getD, List.getD_eq_getElem?_getD]
  by_cases h : 13 < k
  · rw [if_pos h, List.getElem?_append_right (by rw [List.length_take]; omega), List.length_take, hT, List.getElem?_take, if_pos (by omega), List.getElem?_drop]
    congr 2
    omega
  · rw [if_neg h, List.getElem?_append_left (by rw [List.length_take]; omega), List.getElem?_take, if_pos (by omega)]
theorem bit_flip (u j r : Nat) : (u ^^^ 2 ^ j) / 2 ^ r % 2 = (u / 2 ^ r % 2 + (if r = j then 1 else 0)) % 2 := by
  have h1 := Nat.testBit_xor u (2 ^ j) r
  rw [Nat.testBit_eq_decide_div_mod_eq, Nat.testBit_eq_decide_div_mod_eq, Nat.testBit_two_pow] at h1
  by_cases hr : r = j
  · rw [if_pos hr]
    rw [show decide (j = r) = true from decide_eq_true hr.symm] at h1
    have a := Nat.mod_two_eq_zero_or_one (u / 2 ^ r)
    have b := Nat.mod_two_eq_zero_or_one ((u ^^^ 2 ^ j) / 2 ^ r)
    rcases a with a | a <;> rcases b with b | b <;> rw [a, b] at h1 <;> simp_all
  · rw [if_neg hr]
    rw [show decide (j = r) = false from decide_eq_false (fun e => hr e.symm)] at h1
    have a := Nat.mod_two_eq_zero_or_one (u / 2 ^ r)
    have b := Nat.mod_two_eq_zero_or_one ((u ^^^ 2 ^ j) / 2 ^ r)
    rcases a with a | a <;> rcases b with b | b <;> rw [a, b] at h1 <;> simp_all
theorem xor_lt256 {u j : Nat} (hu : u < 256) (hj : j < 8) : u ^^^ 2 ^ j < 256 := Nat.xor_lt_two_pow (n := 8) hu (Nat.pow_lt_pow_right (by decide) hj)
/-- The change of bit p that is made by the changes so far. -/
def changed (cond : Nat → Bool) (first i p : Nat) : Nat := if first ≤ p ∧ p < first + i ∧ cond (p - first) = true then 1 else 0
theorem bit_flipS {T : List UInt8} {len p0 p : Nat} (hT : T.length = 80) (hl : len ≤ 44) (hp0 : p0 < 8 * (14 + len)) (hp : p < 8 * (14 + len)) :
    bitAt (msg (flipS T p0) len) p = (bitAt (msg T len) p + (if p = p0 then 1 else 0)) % 2 := by
  unfold bitAt
  rw [msg_get (by rw [flipS_length]; exact hT) hl (by omega), msg_get hT hl (by omega)]
  unfold flipS
  rw [getD_set (by rw [hT]; exact posB_lt (by omega) hl)]
  by_cases h : p / 8 = p0 / 8
  · rw [if_pos (by rw [h]), h]
    have hu := (T.getD (posB (p0 / 8)) 0).toNat_lt
    rw [UInt8.toNat_ofNat_of_lt' (xor_lt256 hu (by omega)), bit_flip]
    by_cases h2 : p % 8 = p0 % 8
    · rw [if_pos h2, if_pos (by omega)]
    · rw [if_neg h2, if_neg (by omega)]
  · rw [if_neg (fun e => h (posB_inj e)), if_neg (by rintro rfl; exact h rfl), Nat.add_zero, Nat.mod_mod]
theorem flips_bits {cond : Nat → Bool} {first len : Nat} {T : List UInt8} (hT : T.length = 80) (hl : len ≤ 44) : ∀ i, first + i ≤ 8 * (14 + len) → ∀ p, p < 8 * (14 + len) →
    (bitAt (msg (flips cond first T i) len) p + bitAt (msg T len) p) % 2 = changed cond first i p
  | 0, _, p, _ => by
    unfold changed
    rw [if_neg (by omega)]
    show (bitAt (msg T len) p + bitAt (msg T len) p) % 2 = 0
    omega
  | i + 1, hi, p, hp => by
    have ih := flips_bits (cond := cond) (first := first) hT hl i (by omega) p hp
    have hTi := flips_length cond first T i
    rw [hT] at hTi
    unfold flips
    by_cases hc : cond i = true
    · rw [if_pos hc, bit_flipS hTi hl (by omega) hp]
      unfold changed at ih ⊢
      by_cases hpi : p = first + i
      · subst hpi
        rw [if_pos rfl, if_pos ⟨by omega, by omega, by rw [Nat.add_sub_cancel_left]; exact hc⟩]
        rw [if_neg (by omega)] at ih
        omega
      · rw [if_neg hpi]
        by_cases hq : first ≤ p ∧ p < first + i ∧ cond (p - first) = true
        · rw [if_pos hq] at ih
          rw [if_pos ⟨hq.1, by omega, hq.2.2⟩]
          omega
        · rw [if_neg hq] at ih
          rw [if_neg (fun h => hq ⟨h.1, by omega, h.2.2⟩)]
          omega
    · rw [if_neg hc, ih]
      unfold changed
      by_cases hpi : p = first + i
      · subst hpi
        rw [if_neg (by omega), if_neg (fun h => hc (by have := h.2.2; rw [Nat.add_sub_cancel_left] at this; exact this))]
      · by_cases hq : first ≤ p ∧ p < first + i ∧ cond (p - first) = true
        · rw [if_pos hq, if_pos ⟨hq.1, by omega, hq.2.2⟩]
        · rw [if_neg hq, if_neg (fun h => hq ⟨h.1, by omega, h.2.2⟩)]
theorem flips_out {cond : Nat → Bool} {first len : Nat} {T : List UInt8} (hT : T.length = 80) (hl : len ≤ 44) (hc : ∀ i, cond i = true → (first + i) / 8 ≠ 13) {q : Nat} (h1 : 13 ≤ q) (h2 : q < 18) : ∀ i, first + i ≤ 8 * (14 + len) → (flips cond first T i).getD q 0 = T.getD q 0
  | 0, _ => rfl
  | i + 1, hi => by
    have ih := flips_out (cond := cond) (first := first) hT hl hc h1 h2 i (by omega)
    have hTi := flips_length cond first T i
    rw [hT] at hTi
    unfold flips
    split
    · rename_i hci
      unfold flipS
      rw [getD_set (by rw [hTi]; exact posB_lt (by omega) hl), if_neg (fun e => posB_out (hc i hci) h1 h2 e.symm)]
      exact ih
    · exact ih
theorem four_at {T : List UInt8} (hT : T.length = 80) : (T.drop 14).take 4 = [T.getD 14 0, T.getD 15 0, T.getD 16 0, T.getD 17 0] := by
  have g : ∀ k (h : k < 80), T[k]? = some (T.getD k 0) := fun k h => by
    rw [List.getD_eq_getElem?_getD, List.getElem?_eq_getElem (by omega)]; rfl
  apply List.ext_getElem?
  intro i
  rw [List.getElem?_take]
  by_cases hi : i < 4
  · rw [if_pos hi, List.getElem?_drop]
    match i, hi with
    | 0, _ => rw [g 14 (by omega)]; rfl
    | 1, _ => rw [g 15 (by omega)]; rfl
    | 2, _ => rw [g 16 (by omega)]; rfl
    | 3, _ => rw [g 17 (by omega)]; rfl
  · rw [if_neg hi, List.getElem?_eq_none (by simp; omega)]
/-- A sector whose bits were changed so is that of no frame. -/
theorem flips_none {b : Frm} (ok : b.Ok) {cond : Nat → Bool} {first I : Nat} (hI : first + I ≤ 8 * (14 + b.data.length)) (hI1 : 1 ≤ I) (hI2 : I ≤ 32) (h0 : cond 0 = true) (hc : ∀ i, cond i = true → (first + i) / 8 ≠ 13) :
    fdecodeOf (flips cond first b.sec I) = none := by
  have hl := ok.2.2.2.2.2.2.2
  have hT := b.sec_length hl
  have hTI := flips_length cond first b.sec I
  rw [hT] at hTI
  cases h : fdecodeOf (flips cond first b.sec I) with
  | none => rfl
  | some c =>
    obtain ⟨okc, hs⟩ := fdecodeOf_some h
    have out := fun q h1 h2 => flips_out (cond := cond) (first := first) (q := q) hT hl hc h1 h2 I hI
    have hbits := flips_bits (cond := cond) (first := first) hT hl I hI
    refine (bits_seen ok okc (by rw [hs]; exact out 13 (by omega) (by omega)) (by rw [hs, four_at hTI, four_at hT, out 14 (by omega) (by omega), out 15 (by omega) (by omega), out 16 (by omega) (by omega), out 17 (by omega) (by omega)])
      (changed cond first I) first (by omega) (fun p hp => by rw [hs]; exact hbits p hp) ?_ (fun p hp => ?_) (fun p hp => ?_)).elim
    · unfold changed
      rw [if_pos ⟨Nat.le_refl _, by omega, by rw [Nat.sub_self]; exact h0⟩]
    · unfold changed
      rw [if_neg (by omega)]
    · unfold changed
      rw [if_neg (by omega)]
end Go.Proofs.Ytcdpgkefdnmkeaa.Fr
