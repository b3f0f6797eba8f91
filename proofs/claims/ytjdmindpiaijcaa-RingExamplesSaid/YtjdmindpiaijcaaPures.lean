/- Strings as lists of bytes. The checksum as a function on numbers: what the program's shifts come to, and the link between Go's bit operations on a uint32 and Nat's. Numbers as bytes, the last byte last: what pack writes and reads. A frame's sector as a list of bytes. A block's sector as a list of bytes. A block's sector read back: the plain part of block.Decode. A frame's sector read back: the plain part of frame.Decode. A torn sector of a block: the plain part of BlockTorn. -/
import Derived.RowKit
import Derived.Lib.Bytes
import Derived.Laws.Entries
import Derived.Laws.BitsAllLaws
import Derived.Laws.Bits
import Derived.Laws.Bits64
import Derived.Laws.BytesArg
namespace Go.Proofs.Ytjdmindpiaijcaa

/-- The string of some bytes. -/
def S (l : List UInt8) : ByteArray := ⟨l.toArray⟩
theorem S_mk (l : List UInt8) : (⟨l.toArray⟩ : ByteArray) = S l := rfl
@[simp] theorem S_size (l : List UInt8) : (S l).size = l.length := by simp [S, ByteArray.size]
@[simp] theorem S_data (l : List UInt8) : (S l).data.toList = l := by simp [S]
theorem S_of (s : ByteArray) : S s.data.toList = s := by simp [S]
@[simp] theorem S_toList (l : List UInt8) : (S l).toList = l := by
  rw [Lib.toList_data, S_data]
@[simp, go_sem] theorem S_append (a b : List UInt8) : S a ++ S b = S (a ++ b) := by
  apply ByteArray.ext
  simp [S]
theorem S_extract (l : List UInt8) (a b : Nat) : (S l).extract a b = S ((l.take b).drop a) := by
  apply ByteArray.ext
  apply Array.ext'
  simp only [S, ByteArray.data_extract, List.extract_toArray, List.extract_eq_take_drop]
  rw [List.drop_take]
theorem S_inj {a b : List UInt8} : S a = S b ↔ a = b := by
  constructor
  · intro h
    have := congrArg (fun s : ByteArray => s.data.toList) h
    simpa using this
  · rintro rfl; rfl
theorem S_getElem (l : List UInt8) (i : Nat) (h : i < (S l).size) : (S l)[i] = l[i]'(by simpa using h) := by
  rfl
theorem size_data (s : ByteArray) : s.size = s.data.toList.length := Array.length_toList.symm
end Go.Proofs.Ytjdmindpiaijcaa
namespace Go.Proofs.Ytjdmindpiaijcaa
open Go.RowKit

/-- One bit goes in. -/
def crcStep (r bit : Nat) : Nat := if r % 2 ≠ bit then (r / 2) ^^^ 3988292384 else r / 2
/-- The first n bits of a byte. -/
def crcBits (r c : Nat) : Nat → Nat
  | 0 => r
  | n + 1 => crcStep (crcBits r c n) (c / 2 ^ n % 2)
def crcByte (r c : Nat) : Nat := crcBits r c 8
def crcFold (r : Nat) (l : List UInt8) : Nat := l.foldl (fun r b => crcByte r b.toNat) r
def crcMore (c : Nat) (l : List UInt8) : Nat := 4294967295 - crcFold (4294967295 - c) l
def crcSum (l : List UInt8) : Nat := crcMore 0 l

theorem xor_lt32 {a b : Nat} (ha : a < 4294967296) (hb : b < 4294967296) : a ^^^ b < 4294967296 := Nat.xor_lt_two_pow (n := 32) ha hb
theorem crcStep_lt {r bit : Nat} (h : r < 4294967296) : crcStep r bit < 4294967296 := by
  unfold crcStep
  split
  · exact xor_lt32 (by omega) (by decide)
  · omega
theorem crcBits_lt {r c : Nat} (h : r < 4294967296) : ∀ n, crcBits r c n < 4294967296
  | 0 => h
  | n + 1 => crcStep_lt (crcBits_lt h n)
theorem crcFold_lt {l : List UInt8} : ∀ {r : Nat}, r < 4294967296 → crcFold r l < 4294967296 := by
  induction l with
  | nil => intro r h; exact h
  | cons b l ih => intro r h; exact ih (crcBits_lt h 8)
theorem crcFold_snoc (r : Nat) (l : List UInt8) (b : UInt8) : crcFold r (l ++ [b]) = crcByte (crcFold r l) b.toNat := by
  simp [crcFold, List.foldl_append]
theorem crcMore_lt (c : Nat) (l : List UInt8) : crcMore c l < 4294967296 := by unfold crcMore; omega

theorem xor_all32 {a : Nat} (ha : a < 4294967296) : 4294967295 ^^^ a = 4294967295 - a := by
  have h : (BitVec.ofNat 32 4294967295 ^^^ BitVec.ofNat 32 a) = ~~~ (BitVec.ofNat 32 a) := by
    have : (BitVec.ofNat 32 4294967295) = BitVec.allOnes 32 := by decide
    rw [this, BitVec.allOnes_xor]
  have h2 := congrArg BitVec.toNat h
  rw [BitVec.toNat_xor, BitVec.toNat_ofNat, BitVec.toNat_ofNat, BitVec.toNat_not, BitVec.toNat_ofNat, Nat.mod_eq_of_lt (by decide), Nat.mod_eq_of_lt ha] at h2
  omega
theorem not_u32 (a : Nat) (ha : a < 4294967296) : bits .xor .u32 IntKind.u32.max (a : Int) = ((4294967295 - a : Nat) : Int) := by
  have : IntKind.u32.max = ((4294967295 : Nat) : Int) := by decide
  rw [this, u32_xor_nat _ _ (by decide) ha, xor_all32 ha]
theorem and1_u32 (a : Nat) (ha : a < 4294967296) : bits .and .u32 (a : Int) 1 = ((a % 2 : Nat) : Int) := by
  have := u32_and_nat a 1 ha (by decide)
  rw [nat_mask1] at this
  exact this
theorem poly_u32 (a : Nat) (ha : a < 4294967296) : bits .xor .u32 (a : Int) 3988292384 = ((a ^^^ 3988292384 : Nat) : Int) := u32_xor_nat a 3988292384 ha (by decide)
theorem take_snoc (s : ByteArray) (k : Nat) (h : k < s.size) : s.data.toList.take (k + 1) = s.data.toList.take k ++ [s[k]] := by
  rw [List.take_succ_eq_append_getElem (by simpa using h)]; rfl
theorem crcFold_take (r : Nat) (s : ByteArray) (k : Nat) (h : k < s.size) : crcFold r (s.data.toList.take (k + 1)) = crcByte (crcFold r (s.data.toList.take k)) s[k].toNat := by
  rw [take_snoc s k h, crcFold_snoc]
theorem crcFold_whole (r : Nat) (s : ByteArray) : crcFold r (s.data.toList.take s.size) = crcFold r s.data.toList := by
  rw [List.take_of_length_le (by simp)]
theorem bit_u32 (b m : Nat) (hb : b < 256) : bits .and .u32 ((b : Int) / 2 ^ m) 1 = ((b / 2 ^ m % 2 : Nat) : Int) := by
  have h2 : ((b : Int) / 2 ^ m) = ((b / 2 ^ m : Nat) : Int) := by simp
  rw [h2, and1_u32 _ (Nat.lt_of_le_of_lt (Nat.div_le_self _ _) (by omega))]
theorem poly_half (a : Nat) (ha : a < 4294967296) : bits .xor .u32 ((a : Int) / 2) 3988292384 = ((a / 2 ^^^ 3988292384 : Nat) : Int) := by
  have h2 : ((a : Int) / 2) = ((a / 2 : Nat) : Int) := by simp
  rw [h2, poly_u32 _ (by omega)]
theorem cast_bne (x y : Nat) : ((x : Int) != (y : Int)) = (x != y) := by
  rw [Bool.eq_iff_iff]; simp only [bne_iff_ne, ne_eq]; omega
theorem crc_yes {R b m : Nat} (hR : crcBits R b m < 4294967296) (hb : b < 256)
    (h : (bits .and .u32 (crcBits R b m : Int) 1 != bits .and .u32 ((b : Int) / 2 ^ m) 1) = true) :
    bits .xor .u32 ((crcBits R b m : Int) / 2) 3988292384 = (crcBits R b (m + 1) : Nat) := by
  rw [and1_u32 _ hR, bit_u32 b m hb, cast_bne] at h
  rw [poly_half _ hR, crcBits, crcStep, if_pos]
  simpa using h
theorem crc_no {R b m : Nat} (hR : crcBits R b m < 4294967296) (hb : b < 256)
    (h : (bits .and .u32 (crcBits R b m : Int) 1 != bits .and .u32 ((b : Int) / 2 ^ m) 1) = false) :
    ((crcBits R b m : Int) / 2) = (crcBits R b (m + 1) : Nat) := by
  rw [and1_u32 _ hR, bit_u32 b m hb, cast_bne] at h
  rw [crcBits, crcStep, if_neg]
  · simp
  · simpa using h
end Go.Proofs.Ytjdmindpiaijcaa
namespace Go.Proofs.Ytjdmindpiaijcaa
open Go.RowKit

theorem snocInd {α : Type} {P : List α → Prop} (h0 : P []) (h1 : ∀ l b, P l → P (l ++ [b])) (l : List α) : P l := by
  have : ∀ l : List α, P l.reverse := by
    intro l
    induction l with
    | nil => exact h0
    | cons b l ih => rw [List.reverse_cons]; exact h1 _ _ ih
  have h := this l.reverse
  rwa [List.reverse_reverse] at h
/-- The last w bytes of a number. -/
def be : Nat → Nat → List UInt8
  | 0, _ => []
  | w + 1, n => be w (n / 256) ++ [UInt8.ofNat (n % 256)]
/-- The number of some bytes. -/
def un (l : List UInt8) : Nat := l.foldl (fun n b => n * 256 + b.toNat) 0
@[simp] theorem be_length : ∀ w n, (be w n).length = w
  | 0, _ => rfl
  | w + 1, n => by simp [be, be_length w]
theorem un_snoc (l : List UInt8) (b : UInt8) : un (l ++ [b]) = un l * 256 + b.toNat := by simp [un, List.foldl_append]
theorem un_lt (l : List UInt8) : un l < 256 ^ l.length := by
  induction l using snocInd with
  | h0 => simp [un]
  | h1 l b ih =>
    rw [un_snoc, List.length_append, List.length_singleton, Nat.pow_succ]
    have := b.toNat_lt
    omega
theorem un_be : ∀ w n, n < 256 ^ w → un (be w n) = n
  | 0, n, h => by simp at h; subst h; rfl
  | w + 1, n, h => by
    rw [be, un_snoc, un_be w _ (by rw [Nat.pow_succ] at h; omega)]
    rw [UInt8.toNat_ofNat']
    omega
theorem be_un (l : List UInt8) : be l.length (un l) = l := by
  induction l using snocInd with
  | h0 => rfl
  | h1 l b ih =>
    rw [un_snoc, List.length_append, List.length_singleton, be]
    have hb := b.toNat_lt
    rw [show (un l * 256 + b.toNat) / 256 = un l by omega, show (un l * 256 + b.toNat) % 256 = b.toNat by omega, ih, UInt8.ofNat_toNat]
/-- w is the least width of n. -/
def LeastW (n w : Nat) : Prop := ∀ m, w ≤ m ↔ n < 256 ^ m
/-- After k rounds q is left of n. -/
def LeastAt (n k q : Nat) : Prop := q = n / 256 ^ k ∧ (k = 0 ∨ 0 < n / 256 ^ (k - 1))
theorem LeastAt.start (n : Nat) : LeastAt n 0 n := ⟨by simp, .inl rfl⟩
theorem LeastAt.step {n k q : Nat} (h : LeastAt n k q) (hq : 0 < q) : LeastAt n (k + 1) (q / 256) := by
  obtain ⟨rfl, _⟩ := h
  exact ⟨by rw [Nat.div_div_eq_div_mul, Nat.pow_succ], .inr (by simpa using hq)⟩
theorem LeastAt.lt8 {n k q : Nat} (h : LeastAt n k q) (hq : 0 < q) (hn : n < 18446744073709551616) : k < 8 := by
  obtain ⟨rfl, _⟩ := h
  rcases Nat.lt_or_ge k 8 with h | h
  · exact h
  · exfalso
    have h1 : 256 ^ 8 ≤ 256 ^ k := Nat.pow_le_pow_right (by decide) h
    have h2 : (256 : Nat) ^ 8 = 18446744073709551616 := by decide
    rw [Nat.div_eq_of_lt (by omega)] at hq
    omega
theorem LeastAt.done {n k : Nat} (h : LeastAt n k 0) : LeastW n k := by
  obtain ⟨h0, h1⟩ := h
  have hk : n < 256 ^ k := by
    have := Nat.div_eq_zero_iff.1 h0.symm
    rcases this with h | h
    · exact absurd h (Nat.pos_iff_ne_zero.1 (Nat.pow_pos (by decide)))
    · exact h
  intro m
  constructor
  · intro h
    exact Nat.lt_of_lt_of_le hk (Nat.pow_le_pow_right (by decide) h)
  · intro h
    rcases h1 with rfl | h1
    · exact Nat.zero_le _
    · rcases Nat.lt_or_ge m k with hm | hm
      · exfalso
        have h2 : 256 ^ m ≤ 256 ^ (k - 1) := Nat.pow_le_pow_right (by decide) (by omega)
        rw [Nat.div_eq_of_lt (by omega)] at h1
        omega
      · exact hm
theorem be_cons : ∀ w n, be (w + 1) n = UInt8.ofNat (n / 256 ^ w % 256) :: be w n
  | 0, n => by simp [be]
  | w + 1, n => by
    rw [be, be_cons w (n / 256), be, List.cons_append, Nat.div_div_eq_div_mul, Nat.pow_succ, Nat.mul_comm 256]
theorem be_take (w : Nat) (n : Nat) : ∀ i, i ≤ w → (be w n).take i = be i (n / 256 ^ (w - i)) := by
  intro i hi
  induction w generalizing n with
  | zero => obtain rfl : i = 0 := by omega
            simp [be]
  | succ w ih =>
    rcases Nat.lt_or_ge w i with h | h
    · obtain rfl : i = w + 1 := by omega
      rw [List.take_of_length_le (by simp), Nat.sub_self, Nat.pow_zero, Nat.div_one]
    · rw [be, List.take_append_of_le_length (by simpa using h), ih (n / 256) h, Nat.div_div_eq_div_mul, show w + 1 - i = (w - i) + 1 by omega, Nat.pow_succ, Nat.mul_comm 256]
def bv (b : UInt8) : Value := .int .u8 b.toNat
/-- The last i of k bytes of n stand in A; q is what is left of n. -/
def BytesAt (N n k i q : Nat) (A : Array Value) : Prop := A.size = N ∧ q = n / 256 ^ i ∧ (A.toList.drop (k - i)).take i = (be i n).map bv
theorem BytesAt.start {N n k : Nat} {A : Array Value} (h : A.size = N) : BytesAt N n k 0 n A := ⟨h, by simp, by simp [be]⟩
theorem BytesAt.step {N n k i q : Nat} {A : Array Value} (h : BytesAt N n k i q A) (hi : i < k) (hk : k ≤ N) :
    BytesAt N n k (i + 1) (q / 256) (A.setIfInBounds (k - 1 - i) (.int .u8 (q % 256 : Nat))) := by
  obtain ⟨h0, rfl, h2⟩ := h
  refine ⟨by simpa using h0, by rw [Nat.div_div_eq_div_mul, Nat.pow_succ], ?_⟩
  rw [be_cons, List.map_cons, ← h2]
  have hlen : A.toList.length = N := by simpa using h0
  rw [Array.toList_setIfInBounds, show k - (i + 1) = k - 1 - i by omega]
  apply List.ext_getElem
  · simp [hlen]; omega
  · intro j h3 h4
    rcases j with _ | j
    · simp [bv]
    · simp only [List.getElem_take, List.getElem_drop, List.getElem_cons_succ, List.getElem_set]
      rw [if_neg (by omega)]
      congr 1
      omega
theorem BytesAt.done {N n k q : Nat} {A : Array Value} (h : BytesAt N n k k q A) : A.toList.take k = (be k n).map bv := by
  have := h.2.2
  simpa using this
/-- After k - 1 rounds of the reference q is left of n. -/
def WidthAt (n k q : Nat) : Prop := 1 ≤ k ∧ q = n / 256 ^ (k - 1) ∧ (k = 1 ∨ 255 < n / 256 ^ (k - 2))
theorem WidthAt.start (n : Nat) : WidthAt n 1 n := ⟨by omega, by simp, .inl rfl⟩
theorem WidthAt.step {n k q : Nat} (h : WidthAt n k q) (hq : 255 < q) : WidthAt n (k + 1) (q / 256) := by
  obtain ⟨h1, rfl, _⟩ := h
  obtain ⟨j, rfl⟩ : ∃ j, k = j + 1 := ⟨k - 1, by omega⟩
  exact ⟨by omega, by rw [Nat.div_div_eq_div_mul]; simp [Nat.pow_succ], .inr (by simpa using hq)⟩
theorem WidthAt.lt8 {n k q : Nat} (h : WidthAt n k q) (hq : 255 < q) (hn : n < 18446744073709551616) : k < 8 := by
  obtain ⟨_, rfl, _⟩ := h
  rcases Nat.lt_or_ge k 8 with h | h
  · exact h
  · exfalso
    have h1 : 256 ^ 7 ≤ 256 ^ (k - 1) := Nat.pow_le_pow_right (by decide) (by omega)
    have h2 : (256 : Nat) ^ 7 = 72057594037927936 := by decide
    have h3 : n / 256 ^ (k - 1) ≤ n / 256 ^ 7 := Nat.div_le_div_left h1 (by decide)
    omega
theorem WidthAt.done {n k q : Nat} (h : WidthAt n k q) (hq : q ≤ 255) : ∀ m, 1 ≤ m → (k ≤ m ↔ n < 256 ^ m) := by
  obtain ⟨h0, rfl, h1⟩ := h
  obtain ⟨j, rfl⟩ : ∃ j, k = j + 1 := ⟨k - 1, by omega⟩
  have hk : n < 256 ^ (j + 1) := by
    have hp : 0 < 256 ^ j := Nat.pow_pos (by decide)
    have h4 : n / 256 ^ j < 256 := by simp at hq; omega
    have h5 := (Nat.div_lt_iff_lt_mul hp).1 h4
    rw [Nat.pow_succ, Nat.mul_comm]
    exact h5
  intro m hm
  constructor
  · intro h
    exact Nat.lt_of_lt_of_le hk (Nat.pow_le_pow_right (by decide) h)
  · intro h
    rcases h1 with h1 | h1
    · omega
    · rcases Nat.lt_or_ge m (j + 1) with hm' | hm'
      · exfalso
        obtain ⟨i, rfl⟩ : ∃ i, j = i + 1 := ⟨j - 1, by omega⟩
        have h2 : n / 256 ^ i ≤ 255 := by
          have h3 : n < 256 ^ i * 256 := by rw [← Nat.pow_succ]; exact Nat.lt_of_lt_of_le h (Nat.pow_le_pow_right (by decide) (by omega))
          have := (Nat.div_lt_iff_lt_mul (Nat.pow_pos (by decide) : 0 < 256 ^ i)).2 (by rw [Nat.mul_comm] at h3; exact h3)
          omega
        simp at h1
        omega
      · exact hm'
def numsOf (l : List UInt8) : List Int := l.map fun b => (b.toNat : Int)
theorem numsOf_length (l : List UInt8) : (numsOf l).length = l.length := by simp [numsOf]
theorem strOfNums_numsOf (l : List UInt8) : strOfNums (numsOf l) = ⟨l.toArray⟩ := by
  unfold strOfNums numsOf
  rw [List.map_map]
  congr 2
  apply List.ext_getElem
  · simp
  · intro i h1 h2
    simp
theorem BytesAt.cell {N n k q : Nat} {A : Array Value} (h : BytesAt N n k k q A) {i : Nat} (hi : i < k) : A[i]? = some (.int .u8 ((numsOf (be k n)).getD i 0)) := by
  have h1 : (A.toList.take k)[i]? = ((be k n).map bv)[i]? := by rw [h.done]
  rw [List.getElem?_take_of_lt hi, Array.getElem?_toList] at h1
  rw [h1, List.getElem?_map, List.getElem?_eq_getElem (by simpa using hi)]
  simp [numsOf, bv, hi]
theorem un_or {q k : Nat} (b : Nat) (hq : q < 256 ^ k) (hk : k < 8) (hb : b < 256) : bits .or .u64 (IntKind.u64.wrap ((q : Int) * 256)) (IntKind.u64.wrap (b : Int)) = ((q * 256 + b : Nat) : Int) := by
  have h4 : IntKind.u64.wrap (b : Int) = (b : Int) := by rw [IntKind.wrap_u64]; omega
  have h1 : q < 256 ^ 7 := Nat.lt_of_lt_of_le hq (Nat.pow_le_pow_right (by decide) (by omega))
  have h2 : (256 : Nat) ^ 7 = 72057594037927936 := by decide
  have h3 : IntKind.u64.wrap ((q : Int) * 256) = ((q * 256 : Nat) : Int) := by rw [IntKind.wrap_u64]; omega
  rw [h3, h4, u64_or_nat _ _ (by omega) (by omega), nat_join 8 _ _ (by omega) (by omega)]
theorem un_take (s : ByteArray) (k : Nat) (h : k < s.size) : un (s.data.toList.take (k + 1)) = un (s.data.toList.take k) * 256 + s[k].toNat := by
  rw [List.take_succ_eq_append_getElem (by simpa using h), un_snoc]; rfl
theorem un_next {q k b : Nat} (hq : q < 256 ^ k) (hb : b < 256) : q * 256 + b < 256 ^ (k + 1) := by rw [Nat.pow_succ]; omega
theorem un_all (s : ByteArray) : un (s.data.toList.take s.size) = un s.data.toList := by rw [List.take_of_length_le (by simp)]
theorem un_small {q k : Nat} (b : Nat) (hq : q < 256 ^ k) (hk : k < 8) (hb : b < 256) : q * 256 + b < 18446744073709551616 := by
  have h1 : q < 256 ^ 7 := Nat.lt_of_lt_of_le hq (Nat.pow_le_pow_right (by decide) (by omega))
  have h2 : (256 : Nat) ^ 7 = 72057594037927936 := by decide
  omega
theorem un_add {q k : Nat} (b : Nat) (hq : q < 256 ^ k) (hk : k < 8) (hb : b < 256) : IntKind.u64.wrap (IntKind.u64.wrap ((q : Int) * 256) + IntKind.u64.wrap (b : Int)) = ((q * 256 + b : Nat) : Int) := by
  have := un_small b hq hk hb
  rw [IntKind.wrap_u64, IntKind.wrap_u64, IntKind.wrap_u64]; omega
theorem un_lt7 (l : List UInt8) (h : l.length ≤ 7) : un l < 9223372036854775808 := by
  have h1 := un_lt l
  have h2 : 256 ^ l.length ≤ 256 ^ 7 := Nat.pow_le_pow_right (by decide) h
  have h3 : (256 : Nat) ^ 7 = 72057594037927936 := by decide
  omega
end Go.Proofs.Ytjdmindpiaijcaa
namespace Go.Proofs.Ytjdmindpiaijcaa

structure Frm where
  boot : Nat
  lsn : Nat
  part : Nat
  parts : Nat
  kind : Nat
  data : List UInt8
def Frm.head (b : Frm) : List UInt8 := be 4 b.boot ++ (be 6 b.lsn ++ (be 1 b.part ++ (be 1 b.parts ++ (be 1 b.kind ++ be 1 b.data.length))))
def Frm.sec (b : Frm) : List UInt8 := b.head ++ (be 4 (crcSum (b.head ++ b.data)) ++ (b.data ++ (List.replicate (51 - b.data.length) 0 ++ b.head.take 11)))
def Frm.Ok (b : Frm) : Prop := 1 ≤ b.boot ∧ b.boot < 4294967296 ∧ 1 ≤ b.lsn ∧ b.lsn < 281474976710656 ∧ b.part < b.parts ∧ b.parts ≤ 255 ∧ b.kind < 256 ∧ b.data.length ≤ 44
@[simp] theorem Frm.head_length (b : Frm) : b.head.length = 14 := by simp [Frm.head]
theorem Frm.sec_length (b : Frm) (h : b.data.length ≤ 44) : b.sec.length = 80 := by simp [Frm.sec]; omega
end Go.Proofs.Ytjdmindpiaijcaa
namespace Go.Proofs.Ytjdmindpiaijcaa

structure Blk where
  life : Nat
  boot : Nat
  n : Nat
  off : Nat
  data : List UInt8
def Blk.head (b : Blk) : List UInt8 := be 4 b.life ++ (be 4 b.boot ++ (be 4 b.n ++ (be 6 b.off ++ be 1 b.data.length)))
def Blk.sec (b : Blk) : List UInt8 := b.head ++ (be 4 (crcSum (b.head ++ b.data)) ++ (b.data ++ (List.replicate (45 - b.data.length) 0 ++ b.head.take 12)))
def Blk.Ok (b : Blk) : Prop := b.life < 4294967296 ∧ 1 ≤ b.boot ∧ b.boot < 4294967296 ∧ b.n < 4294967296 ∧ b.off < 281474976710656 ∧ 1 ≤ b.data.length ∧ b.data.length ≤ 36
@[simp] theorem Blk.head_length (b : Blk) : b.head.length = 19 := by simp [Blk.head]
theorem Blk.sec_length (b : Blk) (h : b.data.length ≤ 36) : b.sec.length = 80 := by simp [Blk.sec]; omega
end Go.Proofs.Ytjdmindpiaijcaa
namespace Go.Proofs.Ytjdmindpiaijcaa

/-- The fields of a sector. -/
def fieldsOf (s : List UInt8) : Blk := ⟨un (s.take 4), un ((s.take 8).drop 4), un ((s.take 12).drop 8), un ((s.take 18).drop 12), (s.take (23 + (s.getD 18 0).toNat)).drop 23⟩
instance (b : Blk) : Decidable b.Ok := by unfold Blk.Ok; infer_instance
instance : DecidableEq Blk := fun a b => by
  by_cases h : a.life = b.life ∧ a.boot = b.boot ∧ a.n = b.n ∧ a.off = b.off ∧ a.data = b.data
  · exact .isTrue (by cases a; cases b; simp_all)
  · exact .isFalse (by rintro rfl; exact h ⟨rfl, rfl, rfl, rfl, rfl⟩)
def decodeOf (s : List UInt8) : Option Blk :=
  if (s.length = 80 ∧ (s.getD 18 0).toNat ≤ 36) ∧ (fieldsOf s).Ok ∧ (fieldsOf s).sec = s then some (fieldsOf s) else none
theorem decodeOf_some {s : List UInt8} {b : Blk} (h : decodeOf s = some b) : b.Ok ∧ b.sec = s := by
  unfold decodeOf at h
  split at h
  · rename_i hc
    obtain rfl := Option.some.inj h
    exact hc.2
  · cases h
theorem be1 (n : Nat) (h : n < 256) : be 1 n = [UInt8.ofNat n] := by
  rw [be_cons]
  simp [be, Nat.mod_eq_of_lt h]
theorem take_app {α : Type} (a b : List α) (n : Nat) (h : a.length = n) : (a ++ b).take n = a := by subst h; simp
theorem drop_app {α : Type} (a b : List α) (n : Nat) (h : a.length = n) : (a ++ b).drop n = b := by subst h; simp
theorem take_app2 {α : Type} (a b : List α) (n k : Nat) (h : a.length = n) : (a ++ b).take (n + k) = a ++ b.take k := by
  subst h
  rw [List.take_append, List.take_of_length_le (by omega), show a.length + k - a.length = k by omega]
/-- The sector, field by field. -/
theorem Blk.sec_eq (b : Blk) : b.sec = be 4 b.life ++ (be 4 b.boot ++ (be 4 b.n ++ (be 6 b.off ++ (be 1 b.data.length ++ (be 4 (crcSum (b.head ++ b.data)) ++ (b.data ++ (List.replicate (45 - b.data.length) 0 ++ b.head.take 12))))))) := by
  unfold Blk.sec
  rw [Blk.head]
  simp only [List.append_assoc]
theorem fieldsOf_sec {b : Blk} (ok : b.Ok) : fieldsOf b.sec = b := by
  obtain ⟨h1, h2, h3, h4, h5, h6, h7⟩ := ok
  have l1 : (be 4 b.life).length = 4 := by simp
  have l2 : (be 4 b.boot).length = 4 := by simp
  have l3 : (be 4 b.n).length = 4 := by simp
  have l4 : (be 6 b.off).length = 6 := by simp
  have l5 : (be 1 b.data.length).length = 1 := by simp
  have l6 : (be 4 (crcSum (b.head ++ b.data))).length = 4 := by simp
  have e18 : (b.sec.getD 18 0).toNat = b.data.length := by
    rw [Blk.sec_eq, be1 _ (by omega)]
    rw [← List.append_assoc, ← List.append_assoc, ← List.append_assoc]
    rw [List.getD_eq_getElem?_getD, List.getElem?_append_right (by simp)]
    simp
    omega
  unfold fieldsOf
  rw [e18]
  rw [Blk.sec_eq]
  generalize be 4 (crcSum (b.head ++ b.data)) = c at l6 ⊢
  generalize List.replicate (45 - b.data.length) 0 ++ b.head.take 12 = z
  have g1 : ∀ r : List UInt8, (be 4 b.life ++ r).take 4 = be 4 b.life := fun r => take_app _ _ _ l1
  have g2 : ∀ r : List UInt8, ((be 4 b.life ++ (be 4 b.boot ++ r)).take 8).drop 4 = be 4 b.boot := fun r => by
    rw [take_app2 _ _ 4 4 l1, drop_app _ _ _ l1, take_app _ _ _ l2]
  have g3 : ∀ r : List UInt8, ((be 4 b.life ++ (be 4 b.boot ++ (be 4 b.n ++ r))).take 12).drop 8 = be 4 b.n := fun r => by
    rw [show (be 4 b.life ++ (be 4 b.boot ++ (be 4 b.n ++ r))) = (be 4 b.life ++ be 4 b.boot) ++ (be 4 b.n ++ r) by simp, take_app2 _ _ 8 4 (by simp), drop_app _ _ _ (by simp), take_app _ _ _ l3]
  have g4 : ∀ r : List UInt8, ((be 4 b.life ++ (be 4 b.boot ++ (be 4 b.n ++ (be 6 b.off ++ r)))).take 18).drop 12 = be 6 b.off := fun r => by
    rw [show (be 4 b.life ++ (be 4 b.boot ++ (be 4 b.n ++ (be 6 b.off ++ r)))) = (be 4 b.life ++ (be 4 b.boot ++ be 4 b.n)) ++ (be 6 b.off ++ r) by simp, take_app2 _ _ 12 6 (by simp), drop_app _ _ _ (by simp), take_app _ _ _ l4]
  have g5 : ∀ r : List UInt8, ((be 4 b.life ++ (be 4 b.boot ++ (be 4 b.n ++ (be 6 b.off ++ (be 1 b.data.length ++ (c ++ (b.data ++ r))))))).take (23 + b.data.length)).drop 23 = b.data := fun r => by
    rw [show (be 4 b.life ++ (be 4 b.boot ++ (be 4 b.n ++ (be 6 b.off ++ (be 1 b.data.length ++ (c ++ (b.data ++ r))))))) = (be 4 b.life ++ (be 4 b.boot ++ (be 4 b.n ++ (be 6 b.off ++ (be 1 b.data.length ++ c))))) ++ (b.data ++ r) by simp, take_app2 _ _ 23 _ (by simp [l6]), drop_app _ _ _ (by simp [l6]), take_app _ _ _ rfl]
  rw [g1, g2, g3, g4, g5, un_be _ _ (by omega), un_be _ _ (by omega), un_be _ _ (by omega), un_be _ _ (by omega)]
theorem sec_18 {b : Blk} (h : b.data.length ≤ 36) : (b.sec.getD 18 0).toNat = b.data.length := by
  rw [Blk.sec_eq, be1 _ (by omega)]
  rw [← List.append_assoc, ← List.append_assoc, ← List.append_assoc]
  rw [List.getD_eq_getElem?_getD, List.getElem?_append_right (by simp)]
  simp
  omega
theorem decodeOf_sec {b : Blk} (ok : b.Ok) : decodeOf b.sec = some b := by
  unfold decodeOf
  rw [fieldsOf_sec ok, if_pos ⟨⟨b.sec_length ok.2.2.2.2.2.2, by rw [sec_18 ok.2.2.2.2.2.2]; exact ok.2.2.2.2.2.2⟩, ok, rfl⟩]
theorem sec_inj {a b : Blk} (ha : a.Ok) (hb : b.Ok) (h : a.sec = b.sec) : a = b := by
  have h1 := decodeOf_sec ha
  rw [h, decodeOf_sec hb] at h1
  exact (Option.some.inj h1).symm
end Go.Proofs.Ytjdmindpiaijcaa
namespace Go.Proofs.Ytjdmindpiaijcaa

/-- The fields of a sector. -/
def ffieldsOf (s : List UInt8) : Frm := ⟨un (s.take 4), un ((s.take 10).drop 4), un ((s.take 11).drop 10), un ((s.take 12).drop 11), un ((s.take 13).drop 12), (s.take (18 + (s.getD 13 0).toNat)).drop 18⟩
instance (b : Frm) : Decidable b.Ok := by unfold Frm.Ok; infer_instance
instance : DecidableEq Frm := fun a b => by
  by_cases h : a.boot = b.boot ∧ a.lsn = b.lsn ∧ a.part = b.part ∧ a.parts = b.parts ∧ a.kind = b.kind ∧ a.data = b.data
  · exact .isTrue (by cases a; cases b; simp_all)
  · exact .isFalse (by rintro rfl; exact h ⟨rfl, rfl, rfl, rfl, rfl, rfl⟩)
def fdecodeOf (s : List UInt8) : Option Frm :=
  if (s.length = 80 ∧ (s.getD 13 0).toNat ≤ 44) ∧ (ffieldsOf s).Ok ∧ (ffieldsOf s).sec = s then some (ffieldsOf s) else none
theorem fdecodeOf_some {s : List UInt8} {b : Frm} (h : fdecodeOf s = some b) : b.Ok ∧ b.sec = s := by
  unfold fdecodeOf at h
  split at h
  · rename_i hc
    obtain rfl := Option.some.inj h
    exact hc.2
  · cases h
/-- The sector, field by field. -/
theorem Frm.sec_eq (b : Frm) : b.sec = be 4 b.boot ++ (be 6 b.lsn ++ (be 1 b.part ++ (be 1 b.parts ++ (be 1 b.kind ++ (be 1 b.data.length ++ (be 4 (crcSum (b.head ++ b.data)) ++ (b.data ++ (List.replicate (51 - b.data.length) 0 ++ b.head.take 11)))))))) := by
  unfold Frm.sec
  rw [Frm.head]
  simp only [List.append_assoc]
theorem fsec_13 {b : Frm} (h : b.data.length ≤ 44) : (b.sec.getD 13 0).toNat = b.data.length := by
  rw [Frm.sec_eq, be1 b.data.length (by omega)]
  rw [← List.append_assoc, ← List.append_assoc, ← List.append_assoc, ← List.append_assoc]
  rw [List.getD_eq_getElem?_getD, List.getElem?_append_right (by simp)]
  simp
  omega
theorem mid {a b r : List UInt8} {i j : Nat} (h : a.length = i) (h2 : b.length = j) : ((a ++ (b ++ r)).take (i + j)).drop i = b := by
  rw [take_app2 _ _ i j h, drop_app _ _ _ h, take_app _ _ _ h2]
theorem ffieldsOf_sec {b : Frm} (ok : b.Ok) : ffieldsOf b.sec = b := by
  obtain ⟨h1, h2, h3, h4, h5, h6, h7, h8⟩ := ok
  have l1 : (be 4 b.boot).length = 4 := by simp
  have l2 : (be 6 b.lsn).length = 6 := by simp
  have l3 : (be 1 b.part).length = 1 := by simp
  have l4 : (be 1 b.parts).length = 1 := by simp
  have l5 : (be 1 b.kind).length = 1 := by simp
  have l6 : (be 4 (crcSum (b.head ++ b.data))).length = 4 := by simp
  have e13 : (b.sec.getD 13 0).toNat = b.data.length := fsec_13 h8
  unfold ffieldsOf
  rw [e13]
  rw [Frm.sec_eq]
  generalize be 4 (crcSum (b.head ++ b.data)) = c at l6 ⊢
  generalize List.replicate (51 - b.data.length) 0 ++ b.head.take 11 = z
  have g1 : ∀ r : List UInt8, (be 4 b.boot ++ r).take 4 = be 4 b.boot := fun r => take_app _ _ _ l1
  have g2 : ∀ r : List UInt8, ((be 4 b.boot ++ (be 6 b.lsn ++ r)).take 10).drop 4 = be 6 b.lsn := fun r => mid l1 l2
  have g3 : ∀ r : List UInt8, ((be 4 b.boot ++ (be 6 b.lsn ++ (be 1 b.part ++ r))).take 11).drop 10 = be 1 b.part := fun r => by
    rw [show be 4 b.boot ++ (be 6 b.lsn ++ (be 1 b.part ++ r)) = (be 4 b.boot ++ be 6 b.lsn) ++ (be 1 b.part ++ r) by simp]
    exact mid (i := 10) (j := 1) (by simp) l3
  have g4 : ∀ r : List UInt8, ((be 4 b.boot ++ (be 6 b.lsn ++ (be 1 b.part ++ (be 1 b.parts ++ r)))).take 12).drop 11 = be 1 b.parts := fun r => by
    rw [show be 4 b.boot ++ (be 6 b.lsn ++ (be 1 b.part ++ (be 1 b.parts ++ r))) = (be 4 b.boot ++ (be 6 b.lsn ++ be 1 b.part)) ++ (be 1 b.parts ++ r) by simp]
    exact mid (i := 11) (j := 1) (by simp) l4
  have g5 : ∀ r : List UInt8, ((be 4 b.boot ++ (be 6 b.lsn ++ (be 1 b.part ++ (be 1 b.parts ++ (be 1 b.kind ++ r))))).take 13).drop 12 = be 1 b.kind := fun r => by
    rw [show be 4 b.boot ++ (be 6 b.lsn ++ (be 1 b.part ++ (be 1 b.parts ++ (be 1 b.kind ++ r)))) = (be 4 b.boot ++ (be 6 b.lsn ++ (be 1 b.part ++ be 1 b.parts))) ++ (be 1 b.kind ++ r) by simp]
    exact mid (i := 12) (j := 1) (by simp) l5
  have g6 : ∀ r : List UInt8, ((be 4 b.boot ++ (be 6 b.lsn ++ (be 1 b.part ++ (be 1 b.parts ++ (be 1 b.kind ++ (be 1 b.data.length ++ (c ++ (b.data ++ r)))))))).take (18 + b.data.length)).drop 18 = b.data := fun r => by
    rw [show be 4 b.boot ++ (be 6 b.lsn ++ (be 1 b.part ++ (be 1 b.parts ++ (be 1 b.kind ++ (be 1 b.data.length ++ (c ++ (b.data ++ r))))))) = (be 4 b.boot ++ (be 6 b.lsn ++ (be 1 b.part ++ (be 1 b.parts ++ (be 1 b.kind ++ (be 1 b.data.length ++ c)))))) ++ (b.data ++ r) by simp]
    exact mid (by simp [l6]) rfl
  rw [g1, g2, g3, g4, g5, g6, un_be _ _ (by omega), un_be _ _ (by omega), un_be _ _ (by omega), un_be _ _ (by omega), un_be _ _ (by omega)]
theorem fdecodeOf_sec {b : Frm} (ok : b.Ok) : fdecodeOf b.sec = some b := by
  have h8 : b.data.length ≤ 44 := ok.2.2.2.2.2.2.2
  unfold fdecodeOf
  rw [ffieldsOf_sec ok, if_pos ⟨⟨b.sec_length h8, by rw [fsec_13 h8]; exact h8⟩, ok, rfl⟩]
theorem fsec_inj {a b : Frm} (ha : a.Ok) (hb : b.Ok) (h : a.sec = b.sec) : a = b := by
  have h1 := fdecodeOf_sec ha
  rw [h, fdecodeOf_sec hb] at h1
  exact (Option.some.inj h1).symm
end Go.Proofs.Ytjdmindpiaijcaa
namespace Go.Proofs.Ytjdmindpiaijcaa

/-- A sector whose first n bytes are those of x, the others those of y, and whose first w bytes are its last ones, as in x and y. -/
theorem torn_is {x y : List UInt8} {N w n : Nat} (hw : w ≤ N - w) (hN : w ≤ N) (hx : x.length = N) (hy : y.length = N) (hxr : x.take w = x.drop (N - w)) (hyr : y.take w = y.drop (N - w)) (hxy : x.take w ≠ y.take w) (hn : n ≤ N)
    (hs : (x.take n ++ y.drop n).take w = (x.take n ++ y.drop n).drop (N - w)) : x.take n ++ y.drop n = x ∨ x.take n ++ y.drop n = y := by
  have lx : (x.take n).length = n := by rw [List.length_take]; omega
  by_cases h1 : n < w
  · right
    have e1 : (x.take n ++ y.drop n).drop (N - w) = y.take w := by
      rw [List.drop_append, List.drop_of_length_le (by omega), List.nil_append, lx, List.drop_drop, show n + (N - w - n) = N - w by omega, hyr]
    have e2 : (x.take n ++ y.drop n).take n = x.take n := by rw [List.take_append, lx, Nat.sub_self, List.take_zero, List.append_nil, List.take_take, Nat.min_self]
    have e3 := congrArg (List.take n) hs
    rw [List.take_take, Nat.min_eq_left (by omega), e2, e1, List.take_take, Nat.min_eq_left (by omega)] at e3
    rw [e3, List.take_append_drop]
  · have e0 : (x.take n ++ y.drop n).take w = x.take w := by rw [List.take_append, lx, show w - n = 0 by omega, List.take_zero, List.append_nil, List.take_take, Nat.min_eq_left (by omega)]
    by_cases h2 : n ≤ N - w
    · have e1 : (x.take n ++ y.drop n).drop (N - w) = y.take w := by
        rw [List.drop_append, List.drop_of_length_le (by omega), List.nil_append, lx, List.drop_drop, show n + (N - w - n) = N - w by omega, hyr]
      rw [e0, e1] at hs
      exact absurd hs hxy
    · left
      have e3 := congrArg (List.drop (n - (N - w))) hs
      rw [e0, hxr, List.drop_drop, List.drop_drop, show N - w + (n - (N - w)) = n by omega, List.drop_append, List.drop_of_length_le (show (x.take n).length ≤ n by omega), List.nil_append, lx, Nat.sub_self, List.drop_zero] at e3
      rw [← e3, List.take_append_drop]
theorem sec_ends {b : Blk} (h : b.data.length ≤ 36) : b.sec.take 12 = b.sec.drop 68 := by
  have e : b.sec.take 12 = b.head.take 12 := by
    unfold Blk.sec
    rw [List.take_append, Blk.head_length, show 12 - 19 = 0 by omega, List.take_zero, List.append_nil]
  rw [e]
  unfold Blk.sec
  have l : (b.head ++ (be 4 (crcSum (b.head ++ b.data)) ++ (b.data ++ List.replicate (45 - b.data.length) 0))).length = 68 := by simp; omega
  rw [show b.head ++ (be 4 (crcSum (b.head ++ b.data)) ++ (b.data ++ (List.replicate (45 - b.data.length) 0 ++ b.head.take 12))) = (b.head ++ (be 4 (crcSum (b.head ++ b.data)) ++ (b.data ++ List.replicate (45 - b.data.length) 0))) ++ b.head.take 12 by simp]
  rw [drop_app _ _ _ l]
theorem name_of {b : Blk} (ok : b.Ok) : b.life = un ((b.sec.take 12).take 4) ∧ b.boot = un (((b.sec.take 12).take 8).drop 4) ∧ b.n = un ((b.sec.take 12).drop 8) := by
  have h := fieldsOf_sec ok
  rw [List.take_take, List.take_take, show min 4 12 = 4 from rfl, show min 8 12 = 8 from rfl]
  exact ⟨(congrArg Blk.life h).symm, (congrArg Blk.boot h).symm, (congrArg Blk.n h).symm⟩
theorem un_zeros : ∀ k, un (List.replicate k 0) = 0
  | 0 => rfl
  | k + 1 => by
    rw [List.replicate_succ', un_snoc, un_zeros k]
    rfl
theorem decodeOf_zeros : decodeOf (List.replicate 80 0) = none := by
  cases h : decodeOf (List.replicate 80 0) with
  | none => rfl
  | some b =>
    obtain ⟨ok, hs⟩ := decodeOf_some h
    have := (name_of ok).2.1
    rw [hs, List.take_replicate, List.take_replicate, List.drop_replicate, un_zeros] at this
    have := ok.2.1
    omega
/-- What a torn sector is, if it is that of a block. -/
theorem torn_blocks {a b : Blk} (ha : a.Ok) (hb : b.Ok) (hd : ¬ (a.life = b.life ∧ a.boot = b.boot ∧ a.n = b.n)) {n : Nat} (hn : n ≤ 80) (h1 : a.sec.take n ++ b.sec.drop n ≠ a.sec) (h2 : a.sec.take n ++ b.sec.drop n ≠ b.sec) :
    decodeOf (a.sec.take n ++ b.sec.drop n) = none := by
  cases h : decodeOf (a.sec.take n ++ b.sec.drop n) with
  | none => rfl
  | some c =>
    obtain ⟨ok, hs⟩ := decodeOf_some h
    have hc := sec_ends ok.2.2.2.2.2.2
    rw [hs] at hc
    rcases torn_is (N := 80) (w := 12) (by omega) (by omega) (a.sec_length ha.2.2.2.2.2.2) (b.sec_length hb.2.2.2.2.2.2) (sec_ends ha.2.2.2.2.2.2) (sec_ends hb.2.2.2.2.2.2) (fun e => hd (by
      obtain ⟨a1, a2, a3⟩ := name_of ha
      obtain ⟨b1, b2, b3⟩ := name_of hb
      rw [e] at a1 a2 a3
      exact ⟨by omega, by omega, by omega⟩)) hn hc with h | h
    · exact absurd h h1
    · exact absurd h h2
theorem torn_blank {a : Blk} (ha : a.Ok) {n : Nat} (hn : n ≤ 80) (h1 : a.sec.take n ++ (List.replicate 80 0).drop n ≠ a.sec) : decodeOf (a.sec.take n ++ (List.replicate 80 0).drop n) = none := by
  cases h : decodeOf (a.sec.take n ++ (List.replicate 80 0).drop n) with
  | none => rfl
  | some c =>
    obtain ⟨ok, hs⟩ := decodeOf_some h
    have hc := sec_ends ok.2.2.2.2.2.2
    rw [hs] at hc
    rcases torn_is (N := 80) (w := 12) (by omega) (by omega) (a.sec_length ha.2.2.2.2.2.2) (List.length_replicate) (sec_ends ha.2.2.2.2.2.2) (by rw [List.take_replicate, List.drop_replicate]; rfl) (fun e => by
      have a2 := (name_of ha).2.1
      rw [e, List.take_replicate, List.take_replicate, List.drop_replicate, un_zeros] at a2
      have := ha.2.1
      omega) hn hc with h3 | h3
    · exact absurd h3 h1
    · rw [h3, decodeOf_zeros] at h
      cases h
end Go.Proofs.Ytjdmindpiaijcaa
