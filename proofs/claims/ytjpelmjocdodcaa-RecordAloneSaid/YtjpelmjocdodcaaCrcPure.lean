/- The checksum as a function on numbers: what the program's shifts come to, and the link between Go's bit operations on a uint32 and Nat's. -/
import Derived.Laws.BitsAllLaws
import Derived.Laws.Bits
import Derived.RowKit
namespace Go.Proofs.Ytjpelmjocdodcaa
open Go.RowKit

/-- One bit goes in. -/
def crcStep (r bit : Nat) : Nat := if r % 2 ≠ bit then (r / 2) ^^^ 3988292384 else r / 2
/-- The first n bits of a byte. -/
def crcBits (r c : Nat) : Nat → Nat
  | 0 => r
  | n + 1 => crcStep (crcBits r c n) (c / 2 ^ n % 2)
def crcByte (r c : Nat) : Nat := crcBits r c 8
def crcFold (r : Nat) (l : List UInt8) : Nat := l.foldl (fun r b => crcByte r b.toNat) r
def crcMore (c : Nat) (l : List UInt8) : Nat := 4294967295 - crcFold (4294967295 - c) l
def crcSum (l : List UInt8) : Nat := crcMore 0 l

theorem xor_lt32 {a b : Nat} (ha : a < 4294967296) (hb : b < 4294967296) : a ^^^ b < 4294967296 := Nat.xor_lt_two_pow (n := 32) ha hb
theorem crcStep_lt {r bit : Nat} (h : r < 4294967296) : crcStep r bit < 4294967296 := by
  unfold crcStep
  split
  · exact xor_lt32 (by omega) (by decide)
  · omega
theorem crcBits_lt {r c : Nat} (h : r < 4294967296) : ∀ n, crcBits r c n < 4294967296
  | 0 => h
  | n + 1 => crcStep_lt (crcBits_lt h n)
theorem crcFold_lt {l : List UInt8} : ∀ {r : Nat}, r < 4294967296 → crcFold r l < 4294967296 := by
  induction l with
  | nil => intro r h; exact h
  | cons b l ih => intro r h; exact ih (crcBits_lt h 8)
theorem crcFold_snoc (r : Nat) (l : List UInt8) (b : UInt8) : crcFold r (l ++ [b]) = crcByte (crcFold r l) b.toNat := by
  simp [crcFold, List.foldl_append]
theorem crcMore_lt (c : Nat) (l : List UInt8) : crcMore c l < 4294967296 := by unfold crcMore; omega

theorem xor_all32 {a : Nat} (ha : a < 4294967296) : 4294967295 ^^^ a = 4294967295 - a := by
  have h : (BitVec.ofNat 32 4294967295 ^^^ BitVec.ofNat 32 a) = ~~~ (BitVec.ofNat 32 a) := by
    have : (BitVec.ofNat 32 4294967295) = BitVec.allOnes 32 := by decide
    rw [this, BitVec.allOnes_xor]
  have h2 := congrArg BitVec.toNat h
  rw [BitVec.toNat_xor, BitVec.toNat_ofNat, BitVec.toNat_ofNat, BitVec.toNat_not, BitVec.toNat_ofNat, Nat.mod_eq_of_lt (by decide), Nat.mod_eq_of_lt ha] at h2
  omega
theorem not_u32 (a : Nat) (ha : a < 4294967296) : bits .xor .u32 IntKind.u32.max (a : Int) = ((4294967295 - a : Nat) : Int) := by
  have : IntKind.u32.max = ((4294967295 : Nat) : Int) := by decide
  rw [this, u32_xor_nat _ _ (by decide) ha, xor_all32 ha]
theorem and1_u32 (a : Nat) (ha : a < 4294967296) : bits .and .u32 (a : Int) 1 = ((a % 2 : Nat) : Int) := by
  have := u32_and_nat a 1 ha (by decide)
  rw [nat_mask1] at this
  exact this
theorem poly_u32 (a : Nat) (ha : a < 4294967296) : bits .xor .u32 (a : Int) 3988292384 = ((a ^^^ 3988292384 : Nat) : Int) := u32_xor_nat a 3988292384 ha (by decide)
theorem take_snoc (s : ByteArray) (k : Nat) (h : k < s.size) : s.data.toList.take (k + 1) = s.data.toList.take k ++ [s[k]] := by
  rw [List.take_succ_eq_append_getElem (by simpa using h)]; rfl
theorem crcFold_take (r : Nat) (s : ByteArray) (k : Nat) (h : k < s.size) : crcFold r (s.data.toList.take (k + 1)) = crcByte (crcFold r (s.data.toList.take k)) s[k].toNat := by
  rw [take_snoc s k h, crcFold_snoc]
theorem crcFold_whole (r : Nat) (s : ByteArray) : crcFold r (s.data.toList.take s.size) = crcFold r s.data.toList := by
  rw [List.take_of_length_le (by simp)]
theorem bit_u32 (b m : Nat) (hb : b < 256) : bits .and .u32 ((b : Int) / 2 ^ m) 1 = ((b / 2 ^ m % 2 : Nat) : Int) := by
  have h2 : ((b : Int) / 2 ^ m) = ((b / 2 ^ m : Nat) : Int) := by simp
  rw [h2, and1_u32 _ (Nat.lt_of_le_of_lt (Nat.div_le_self _ _) (by omega))]
theorem poly_half (a : Nat) (ha : a < 4294967296) : bits .xor .u32 ((a : Int) / 2) 3988292384 = ((a / 2 ^^^ 3988292384 : Nat) : Int) := by
  have h2 : ((a : Int) / 2) = ((a / 2 : Nat) : Int) := by simp
  rw [h2, poly_u32 _ (by omega)]
theorem cast_bne (x y : Nat) : ((x : Int) != (y : Int)) = (x != y) := by
  rw [Bool.eq_iff_iff]; simp only [bne_iff_ne, ne_eq]; omega
theorem crc_yes {R b m : Nat} (hR : crcBits R b m < 4294967296) (hb : b < 256)
    (h : (bits .and .u32 (crcBits R b m : Int) 1 != bits .and .u32 ((b : Int) / 2 ^ m) 1) = true) :
    bits .xor .u32 ((crcBits R b m : Int) / 2) 3988292384 = (crcBits R b (m + 1) : Nat) := by
  rw [and1_u32 _ hR, bit_u32 b m hb, cast_bne] at h
  rw [poly_half _ hR, crcBits, crcStep, if_pos]
  simpa using h
theorem crc_no {R b m : Nat} (hR : crcBits R b m < 4294967296) (hb : b < 256)
    (h : (bits .and .u32 (crcBits R b m : Int) 1 != bits .and .u32 ((b : Int) / 2 ^ m) 1) = false) :
    ((crcBits R b m : Int) / 2) = (crcBits R b (m + 1) : Nat) := by
  rw [and1_u32 _ hR, bit_u32 b m hb, cast_bne] at h
  rw [crcBits, crcStep, if_neg]
  · simp
  · simpa using h
end Go.Proofs.Ytjpelmjocdodcaa
