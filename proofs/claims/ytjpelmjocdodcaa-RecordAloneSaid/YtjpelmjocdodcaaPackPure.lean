/- Numbers as bytes, the last byte last: what pack writes and reads. -/
import Derived.Laws.BitsAllLaws
import Derived.Laws.Bits
import Derived.Laws.Bits64
import Derived.RowKit
import Derived.Laws.BytesArg
namespace Go.Proofs.Ytjpelmjocdodcaa
open Go.RowKit

theorem snocInd {α : Type} {P : List α → Prop} (h0 : P []) (h1 : ∀ l b, P l → P (l ++ [b])) (l : List α) : P l := by
  have : ∀ l : List α, P l.reverse := by
    intro l
    induction l with
    | nil => exact h0
    | cons b l ih => rw [List.reverse_cons]; exact h1 _ _ ih
  have h := this l.reverse
  rwa [List.reverse_reverse] at h
/-- The last w bytes of a number. -/
def be : Nat → Nat → List UInt8
  | 0, _ => []
  | w + 1, n => be w (n / 256) ++ [UInt8.ofNat (n % 256)]
/-- The number of some bytes. -/
def un (l : List UInt8) : Nat := l.foldl (fun n b => n * 256 + b.toNat) 0
@[simp] theorem be_length : ∀ w n, (be w n).length = w
  | 0, _ => rfl
  | w + 1, n => by simp [be, be_length w]
theorem un_snoc (l : List UInt8) (b : UInt8) : un (l ++ [b]) = un l * 256 + b.toNat := by simp [un, List.foldl_append]
theorem un_lt (l : List UInt8) : un l < 256 ^ l.length := by
  induction l using snocInd with
  | h0 => simp [un]
  | h1 l b ih =>
    rw [un_snoc, List.length_append, List.length_singleton, Nat.pow_succ]
    have := b.toNat_lt
    omega
theorem un_be : ∀ w n, n < 256 ^ w → un (be w n) = n
  | 0, n, h => by simp at h; subst h; rfl
  | w + 1, n, h => by
    rw [be, un_snoc, un_be w _ (by rw [Nat.pow_succ] at h; omega)]
    rw [UInt8.toNat_ofNat']
    omega
theorem be_un (l : List UInt8) : be l.length (un l) = l := by
  induction l using snocInd with
  | h0 => rfl
  | h1 l b ih =>
    rw [un_snoc, List.length_append, List.length_singleton, be]
    have hb := b.toNat_lt
    rw [show (un l * 256 + b.toNat) / 256 = un l by omega, show (un l * 256 + b.toNat) % 256 = b.toNat by omega, ih, UInt8.ofNat_toNat]
/-- w is the least width of n. -/
def LeastW (n w : Nat) : Prop := ∀ m, w ≤ m ↔ n < 256 ^ m
/-- After k rounds q is left of n. -/
def LeastAt (n k q : Nat) : Prop := q = n / 256 ^ k ∧ (k = 0 ∨ 0 < n / 256 ^ (k - 1))
theorem LeastAt.start (n : Nat) : LeastAt n 0 n := ⟨by simp, .inl rfl⟩
theorem LeastAt.step {n k q : Nat} (h : LeastAt n k q) (hq : 0 < q) : LeastAt n (k + 1) (q / 256) := by
  obtain ⟨rfl, _⟩ := h
  exact ⟨by rw [Nat.div_div_eq_div_mul, Nat.pow_succ], .inr (by simpa using hq)⟩
theorem LeastAt.lt8 {n k q : Nat} (h : LeastAt n k q) (hq : 0 < q) (hn : n < 18446744073709551616) : k < 8 := by
  obtain ⟨rfl, _⟩ := h
  rcases Nat.lt_or_ge k 8 with h | h
  · exact h
  · exfalso
    have h1 : 256 ^ 8 ≤ 256 ^ k := Nat.pow_le_pow_right (by decide) h
    have h2 : (256 : Nat) ^ 8 = 18446744073709551616 := by decide
    rw [Nat.div_eq_of_lt (by omega)] at hq
    omega
theorem LeastAt.done {n k : Nat} (h : LeastAt n k 0) : LeastW n k := by
  obtain ⟨h0, h1⟩ := h
  have hk : n < 256 ^ k := by
    have := Nat.div_eq_zero_iff.1 h0.symm
    rcases this with h | h
    · exact absurd h (Nat.pos_iff_ne_zero.1 (Nat.pow_pos (by decide)))
    · exact h
  intro m
  constructor
  · intro h
    exact Nat.lt_of_lt_of_le hk (Nat.pow_le_pow_right (by decide) h)
  · intro h
    rcases h1 with rfl | h1
    · exact Nat.zero_le _
    · rcases Nat.lt_or_ge m k with hm | hm
      · exfalso
        have h2 : 256 ^ m ≤ 256 ^ (k - 1) := Nat.pow_le_pow_right (by decide) (by omega)
        rw [Nat.div_eq_of_lt (by omega)] at h1
        omega
      · exact hm
theorem be_cons : ∀ w n, be (w + 1) n = UInt8.ofNat (n / 256 ^ w % 256) :: be w n
  | 0, n => by simp [be]
  | w + 1, n => by
    rw [be, be_cons w (n / 256), be, List.cons_append, Nat.div_div_eq_div_mul, Nat.pow_succ, Nat.mul_comm 256]
theorem be_take (w : Nat) (n : Nat) : ∀ i, i ≤ w → (be w n).take i = be i (n / 256 ^ (w - i)) := by
  intro i hi
  induction w generalizing n with
  | zero => obtain rfl : i = 0 := by omega
            simp [be]
  | succ w ih =>
    rcases Nat.lt_or_ge w i with h | h
    · obtain rfl : i = w + 1 := by omega
      rw [List.take_of_length_le (by simp), Nat.sub_self, Nat.pow_zero, Nat.div_one]
    · rw [be, List.take_append_of_le_length (by simpa using h), ih (n / 256) h, Nat.div_div_eq_div_mul, show w + 1 - i = (w - i) + 1 by omega, Nat.pow_succ, Nat.mul_comm 256]
def bv (b : UInt8) : Value := .int .u8 b.toNat
/-- The last i of k bytes of n stand in A; q is what is left of n. -/
def BytesAt (N n k i q : Nat) (A : Array Value) : Prop := A.size = N ∧ q = n / 256 ^ i ∧ (A.toList.drop (k - i)).take i = (be i n).map bv
theorem BytesAt.start {N n k : Nat} {A : Array Value} (h : A.size = N) : BytesAt N n k 0 n A := ⟨h, by simp, by simp [be]⟩
theorem BytesAt.step {N n k i q : Nat} {A : Array Value} (h : BytesAt N n k i q A) (hi : i < k) (hk : k ≤ N) :
    BytesAt N n k (i + 1) (q / 256) (A.setIfInBounds (k - 1 - i) (.int .u8 (q % 256 : Nat))) := by
  obtain ⟨h0, rfl, h2⟩ := h
  refine ⟨by simpa using h0, by rw [Nat.div_div_eq_div_mul, Nat.pow_succ], ?_⟩
  rw [be_cons, List.map_cons, ← h2]
  have hlen : A.toList.length = N := by simpa using h0
  rw [Array.toList_setIfInBounds, show k - (i + 1) = k - 1 - i by omega]
  apply List.ext_getElem
  · simp [hlen]; omega
  · intro j h3 h4
    rcases j with _ | j
    · simp [bv]
    · simp only [List.getElem_take, List.getElem_drop, List.getElem_cons_succ, List.getElem_set]
      rw [if_neg (by omega)]
      congr 1
      omega
theorem BytesAt.done {N n k q : Nat} {A : Array Value} (h : BytesAt N n k k q A) : A.toList.take k = (be k n).map bv := by
  have := h.2.2
  simpa using this
/-- After k - 1 rounds of the reference q is left of n. -/
def WidthAt (n k q : Nat) : Prop := 1 ≤ k ∧ q = n / 256 ^ (k - 1) ∧ (k = 1 ∨ 255 < n / 256 ^ (k - 2))
theorem WidthAt.start (n : Nat) : WidthAt n 1 n := ⟨by omega, by simp, .inl rfl⟩
theorem WidthAt.step {n k q : Nat} (h : WidthAt n k q) (hq : 255 < q) : WidthAt n (k + 1) (q / 256) := by
  obtain ⟨h1, rfl, _⟩ := h
  obtain ⟨j, rfl⟩ : ∃ j, k = j + 1 := ⟨k - 1, by omega⟩
  exact ⟨by omega, by rw [Nat.div_div_eq_div_mul]; simp [Nat.pow_succ], .inr (by simpa using hq)⟩
theorem WidthAt.lt8 {n k q : Nat} (h : WidthAt n k q) (hq : 255 < q) (hn : n < 18446744073709551616) : k < 8 := by
  obtain ⟨_, rfl, _⟩ := h
  rcases Nat.lt_or_ge k 8 with h | h
  · exact h
  · exfalso
    have h1 : 256 ^ 7 ≤ 256 ^ (k - 1) := Nat.pow_le_pow_right (by decide) (by omega)
    have h2 : (256 : Nat) ^ 7 = 72057594037927936 := by decide
    have h3 : n / 256 ^ (k - 1) ≤ n / 256 ^ 7 := Nat.div_le_div_left h1 (by decide)
    omega
theorem WidthAt.done {n k q : Nat} (h : WidthAt n k q) (hq : q ≤ 255) : ∀ m, 1 ≤ m → (k ≤ m ↔ n < 256 ^ m) := by
  obtain ⟨h0, rfl, h1⟩ := h
  obtain ⟨j, rfl⟩ : ∃ j, k = j + 1 := ⟨k - 1, by omega⟩
  have hk : n < 256 ^ (j + 1) := by
    have hp : 0 < 256 ^ j := Nat.pow_pos (by decide)
    have h4 : n / 256 ^ j < 256 := by simp at hq; omega
    have h5 := (Nat.div_lt_iff_lt_mul hp).1 h4
    rw [Nat.pow_succ, Nat.mul_comm]
    exact h5
  intro m hm
  constructor
  · intro h
    exact Nat.lt_of_lt_of_le hk (Nat.pow_le_pow_right (by decide) h)
  · intro h
    rcases h1 with h1 | h1
    · omega
    · rcases Nat.lt_or_ge m (j + 1) with hm' | hm'
      · exfalso
        obtain ⟨i, rfl⟩ : ∃ i, j = i + 1 := ⟨j - 1, by omega⟩
        have h2 : n / 256 ^ i ≤ 255 := by
          have h3 : n < 256 ^ i * 256 := by rw [← Nat.pow_succ]; exact Nat.lt_of_lt_of_le h (Nat.pow_le_pow_right (by decide) (by omega))
          have := (Nat.div_lt_iff_lt_mul (Nat.pow_pos (by decide) : 0 < 256 ^ i)).2 (by rw [Nat.mul_comm] at h3; exact h3)
          omega
        simp at h1
        omega
      · exact hm'
def numsOf (l : List UInt8) : List Int := l.map fun b => (b.toNat : Int)
theorem numsOf_length (l : List UInt8) : (numsOf l).length = l.length := by simp [numsOf]
theorem strOfNums_numsOf (l : List UInt8) : strOfNums (numsOf l) = ⟨l.toArray⟩ := by
  unfold strOfNums numsOf
  rw [List.map_map]
  congr 2
  apply List.ext_getElem
  · simp
  · intro i h1 h2
    simp
theorem BytesAt.cell {N n k q : Nat} {A : Array Value} (h : BytesAt N n k k q A) {i : Nat} (hi : i < k) : A[i]? = some (.int .u8 ((numsOf (be k n)).getD i 0)) := by
  have h1 : (A.toList.take k)[i]? = ((be k n).map bv)[i]? := by rw [h.done]
  rw [List.getElem?_take_of_lt hi, Array.getElem?_toList] at h1
  rw [h1, List.getElem?_map, List.getElem?_eq_getElem (by simpa using hi)]
  simp [numsOf, bv, hi]
theorem un_or {q k : Nat} (b : Nat) (hq : q < 256 ^ k) (hk : k < 8) (hb : b < 256) : bits .or .u64 (IntKind.u64.wrap ((q : Int) * 256)) (IntKind.u64.wrap (b : Int)) = ((q * 256 + b : Nat) : Int) := by
  have h4 : IntKind.u64.wrap (b : Int) = (b : Int) := by rw [IntKind.wrap_u64]; omega
  have h1 : q < 256 ^ 7 := Nat.lt_of_lt_of_le hq (Nat.pow_le_pow_right (by decide) (by omega))
  have h2 : (256 : Nat) ^ 7 = 72057594037927936 := by decide
  have h3 : IntKind.u64.wrap ((q : Int) * 256) = ((q * 256 : Nat) : Int) := by rw [IntKind.wrap_u64]; omega
  rw [h3, h4, u64_or_nat _ _ (by omega) (by omega), nat_join 8 _ _ (by omega) (by omega)]
theorem un_take (s : ByteArray) (k : Nat) (h : k < s.size) : un (s.data.toList.take (k + 1)) = un (s.data.toList.take k) * 256 + s[k].toNat := by
  rw [List.take_succ_eq_append_getElem (by simpa using h), un_snoc]; rfl
theorem un_next {q k b : Nat} (hq : q < 256 ^ k) (hb : b < 256) : q * 256 + b < 256 ^ (k + 1) := by rw [Nat.pow_succ]; omega
theorem un_all (s : ByteArray) : un (s.data.toList.take s.size) = un s.data.toList := by rw [List.take_of_length_le (by simp)]
theorem un_small {q k : Nat} (b : Nat) (hq : q < 256 ^ k) (hk : k < 8) (hb : b < 256) : q * 256 + b < 18446744073709551616 := by
  have h1 : q < 256 ^ 7 := Nat.lt_of_lt_of_le hq (Nat.pow_le_pow_right (by decide) (by omega))
  have h2 : (256 : Nat) ^ 7 = 72057594037927936 := by decide
  omega
theorem un_add {q k : Nat} (b : Nat) (hq : q < 256 ^ k) (hk : k < 8) (hb : b < 256) : IntKind.u64.wrap (IntKind.u64.wrap ((q : Int) * 256) + IntKind.u64.wrap (b : Int)) = ((q * 256 + b : Nat) : Int) := by
  have := un_small b hq hk hb
  rw [IntKind.wrap_u64, IntKind.wrap_u64, IntKind.wrap_u64]; omega
theorem un_lt7 (l : List UInt8) (h : l.length ≤ 7) : un l < 9223372036854775808 := by
  have h1 := un_lt l
  have h2 : 256 ^ l.length ≤ 256 ^ 7 := Nat.pow_le_pow_right (by decide) h
  have h3 : (256 : Nat) ^ 7 = 72057594037927936 := by decide
  omega
end Go.Proofs.Ytjpelmjocdodcaa
