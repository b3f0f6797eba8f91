/- A change of bits that lie within 32 bits changes the checksum. -/
import Derived.Test.YtgnhpbolmfbngaaCrcPure
namespace Go.Proofs.Ytgnhpbolmfbngaa

/-- The bits of a byte, of some bytes: the lowest one first. -/
def bitsOfByte (c : Nat) : List Nat := (List.range 8).map fun i => c / 2 ^ i % 2
def bitsOf (l : List UInt8) : List Nat := l.flatMap fun b => bitsOfByte b.toNat
theorem crcByte_fold (r c : Nat) : crcByte r c = (bitsOfByte c).foldl crcStep r := by simp [crcByte, crcBits, bitsOfByte, List.range_succ]
theorem crcFold_bits : ∀ (l : List UInt8) (r : Nat), crcFold r l = (bitsOf l).foldl crcStep r
  | [], r => rfl
  | b :: l, r => by
    unfold bitsOf
    rw [List.flatMap_cons, List.foldl_append, ← crcByte_fold]
    exact crcFold_bits l _
theorem bitsOf_length (l : List UInt8) : (bitsOf l).length = 8 * l.length := by
  induction l with
  | nil => rfl
  | cons b l ih =>
    unfold bitsOf at ih ⊢
    rw [List.flatMap_cons, List.length_append, ih]
    simp [bitsOfByte]
    omega
theorem bitsOf_get (l : List UInt8) : ∀ (p : Nat) (h : p < (bitsOf l).length) (h2 : p / 8 < l.length), (bitsOf l)[p] = l[p / 8].toNat / 2 ^ (p % 8) % 2 := by
  induction l with
  | nil => intro p h; simp [bitsOf] at h
  | cons b l ih =>
    intro p h h2
    have e : bitsOf (b :: l) = bitsOfByte b.toNat ++ bitsOf l := by unfold bitsOf; rw [List.flatMap_cons]
    have hl : (bitsOfByte b.toNat).length = 8 := by simp [bitsOfByte]
    by_cases hp : p < 8
    · have h0 : p / 8 = 0 := by omega
      have h1 : p % 8 = p := by omega
      have e2 : (bitsOf (b :: l))[p]? = (bitsOfByte b.toNat)[p]? := by rw [e, List.getElem?_append_left (by omega)]
      rw [List.getElem?_eq_getElem h, List.getElem?_eq_getElem (by omega)] at e2
      rw [Option.some.inj e2]
      simp only [h0, h1, List.getElem_cons_zero]
      simp [bitsOfByte]
    · have e2 : (bitsOf (b :: l))[p]? = (bitsOf l)[p - 8]? := by rw [e, List.getElem?_append_right (by omega), hl]
      have hlen := bitsOf_length (b :: l)
      have hlen2 := bitsOf_length l
      rw [List.length_cons] at hlen h2
      rw [List.getElem?_eq_getElem h, List.getElem?_eq_getElem (by omega)] at e2
      rw [Option.some.inj e2, ih (p - 8) (by omega) (by omega)]
      have h3 : p / 8 = (p - 8) / 8 + 1 := by omega
      have h4 : (p - 8) % 8 = p % 8 := by omega
      simp only [h3, h4, List.getElem_cons_succ]
theorem xor_two (a b : Nat) : (a ^^^ b) / 2 = a / 2 ^^^ b / 2 := by
  have := Nat.shiftRight_xor_distrib (a := a) (b := b) (i := 1)
  simpa [Nat.shiftRight_eq_div_pow] using this
theorem crcStep_xor (r r' b b' : Nat) (hb : b < 2) (hb' : b' < 2) : crcStep r b ^^^ crcStep r' b' = crcStep (r ^^^ r') ((b + b') % 2) := by
  have hm0 : (r ^^^ r') % 2 = 1 ↔ ¬ (r % 2 = 1 ↔ r' % 2 = 1) := Nat.xor_mod_two_eq_one
  have hm : (r ^^^ r') % 2 = (r + r') % 2 := by omega
  have hd := xor_two r r'
  have e1 : ∀ x y p : Nat, (x ^^^ p) ^^^ (y ^^^ p) = x ^^^ y := fun x y p => by
    rw [Nat.xor_assoc, Nat.xor_comm y p, ← Nat.xor_assoc p p y, Nat.xor_self, Nat.zero_xor]
  have e2 : ∀ x y p : Nat, (x ^^^ p) ^^^ y = (x ^^^ y) ^^^ p := fun x y p => by
    rw [Nat.xor_assoc, Nat.xor_comm p y, ← Nat.xor_assoc]
  have e3 : ∀ x y p : Nat, x ^^^ (y ^^^ p) = (x ^^^ y) ^^^ p := fun x y p => by rw [Nat.xor_assoc]
  unfold crcStep
  rw [hm, hd]
  by_cases h1 : r % 2 ≠ b <;> by_cases h2 : r' % 2 ≠ b'
  · rw [if_pos h1, if_pos h2, if_neg (by omega), e1]
  · rw [if_pos h1, if_neg h2, if_pos (by omega), e2]
  · rw [if_neg h1, if_pos h2, if_pos (by omega), e3]
  · rw [if_neg h1, if_neg h2, if_neg (by omega)]
theorem fold_xor : ∀ (xs ys : List Nat) (r r' : Nat), xs.length = ys.length → (∀ x ∈ xs, x < 2) → (∀ y ∈ ys, y < 2) →
    xs.foldl crcStep r ^^^ ys.foldl crcStep r' = (List.zipWith (fun a b => (a + b) % 2) xs ys).foldl crcStep (r ^^^ r')
  | [], [], _, _, _, _, _ => rfl
  | x :: xs, y :: ys, r, r', h, hx, hy => by
    rw [List.foldl_cons, List.foldl_cons, List.zipWith_cons_cons, List.foldl_cons, ← crcStep_xor r r' x y (hx x (.head _)) (hy y (.head _))]
    exact fold_xor xs ys _ _ (by simpa using h) (fun z hz => hx z (.tail _ hz)) (fun z hz => hy z (.tail _ hz))
  | [], _ :: _, _, _, h, _, _ => by simp at h
  | _ :: _, [], _, _, h, _, _ => by simp at h
/-- The number of some bits, the lowest one first. -/
def lenum : List Nat → Nat
  | [] => 0
  | d :: ds => d + 2 * lenum ds
theorem crcStep_small {r d : Nat} (hr : r < 4294967296) (_hd : d < 2) (h : crcStep r d < 2147483648) : r = d + 2 * crcStep r d := by
  unfold crcStep at h ⊢
  by_cases h1 : r % 2 ≠ d
  · rw [if_pos h1] at h
    have h2 : r / 2 < 2 ^ 31 := by omega
    have h3 := Nat.xor_lt_two_pow (n := 31) h2 h
    rw [← Nat.xor_assoc, Nat.xor_self, Nat.zero_xor] at h3
    exact absurd h3 (by decide)
  · rw [if_neg h1] at h ⊢
    omega
theorem crc_back : ∀ (ds : List Nat) (r e : Nat), r < 4294967296 → (∀ d ∈ ds, d < 2) → ds.length ≤ 32 → ds.foldl crcStep r = e → e < 2 ^ (32 - ds.length) → r = e * 2 ^ ds.length + lenum ds
  | [], r, e, _, _, _, h, _ => by
    subst h
    simp [lenum]
  | d :: ds, r, e, hr, hd, hl, h, he => by
    rw [List.foldl_cons] at h
    rw [List.length_cons] at hl he ⊢
    have hp : 2 ^ (32 - (ds.length + 1)) * 2 = 2 ^ (32 - ds.length) := by
      rw [← Nat.pow_succ, show (32 - (ds.length + 1)).succ = 32 - ds.length by omega]
    have ih := crc_back ds (crcStep r d) e (crcStep_lt hr) (fun x hx => hd x (.tail _ hx)) (by omega) h (by omega)
    have hln : lenum ds < 2 ^ ds.length := by
      clear ih h hr hl he hp
      induction ds with
      | nil => decide
      | cons x xs ihx =>
        have h1 := hd x (by simp)
        have h2 := ihx (fun z hz => by
          rcases List.mem_cons.1 hz with rfl | hz
          · exact hd _ (by simp)
          · exact hd z (by simp [hz]))
        unfold lenum
        rw [List.length_cons, Nat.pow_succ]
        omega
    have hlt : crcStep r d < 2147483648 := by
      have h1 : (e + 1) * 2 ^ ds.length ≤ 2 ^ (32 - (ds.length + 1)) * 2 ^ ds.length := Nat.mul_le_mul_right _ (by omega)
      rw [← Nat.pow_add, show 32 - (ds.length + 1) + ds.length = 31 by omega, Nat.add_mul, Nat.one_mul] at h1
      have h2 : (2 : Nat) ^ 31 = 2147483648 := by decide
      omega
    have h3 := crcStep_small hr (hd d (.head _)) hlt
    rw [h3, ih, Nat.pow_succ, ← Nat.mul_assoc]
    show d + 2 * (e * 2 ^ ds.length + lenum ds) = e * 2 ^ ds.length * 2 + (d + 2 * lenum ds)
    omega
theorem crc_zeros_from : ∀ k : Nat, (List.replicate k 0).foldl crcStep 0 = 0
  | 0 => rfl
  | k + 1 => by
    rw [List.replicate_succ, List.foldl_cons]
    exact crc_zeros_from k
theorem crc_zeros_to : ∀ (k r : Nat), r < 4294967296 → (List.replicate k 0).foldl crcStep r = 0 → r = 0
  | 0, _, _, h => h
  | k + 1, r, hr, h => by
    rw [List.replicate_succ, List.foldl_cons] at h
    have h1 := crc_zeros_to k _ (crcStep_lt hr) h
    have h2 := crcStep_small hr (by decide : 0 < 2) (by rw [h1]; decide)
    omega
/-- A difference that begins with a 1 and ends within 32 bits is seen. -/
theorem burst_seen (a k : Nat) (ds : List Nat) (hd : ∀ d ∈ ds, d < 2) (hl : ds.length ≤ 31) : (List.replicate a 0 ++ (1 :: ds ++ List.replicate k 0)).foldl crcStep 0 ≠ 0 := by
  intro h
  rw [List.foldl_append, crc_zeros_from, List.foldl_append] at h
  have hlt : ∀ (xs : List Nat) (r : Nat), r < 4294967296 → xs.foldl crcStep r < 4294967296 := by
    intro xs
    induction xs with
    | nil => intro r hr; exact hr
    | cons x xs ih => intro r hr; exact ih _ (crcStep_lt hr)
  have h1 := crc_zeros_to k _ (hlt (1 :: ds) 0 (by decide)) h
  have h2 := crc_back (1 :: ds) 0 0 (by decide) (fun d hd' => by
    rcases List.mem_cons.1 hd' with rfl | h
    · decide
    · exact hd d h) (by rw [List.length_cons]; omega) h1 (Nat.two_pow_pos _)
  unfold lenum at h2
  omega
end Go.Proofs.Ytgnhpbolmfbngaa
