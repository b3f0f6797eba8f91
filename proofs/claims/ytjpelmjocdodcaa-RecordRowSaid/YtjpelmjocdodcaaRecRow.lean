/- RecordRow: the plain part. -/
import Derived.Test.YtjpelmjocdodcaaRecBack
import Derived.Test.YtjpelmjocdodcaaFrmTear
namespace Go.Proofs.Ytjpelmjocdodcaa
open Go.RowKit

theorem and_u16 (g i : Nat) (hg : g < 65536) : Go.bits .and .u16 ((g : Int) / 2 ^ i) 1 = ((g / 2 ^ i % 2 : Nat) : Int) := by
  have e1 : ((g : Int) / 2 ^ i) = ((g / 2 ^ i : Nat) : Int) := by norm_cast
  have hlt : g / 2 ^ i < 65536 := Nat.lt_of_le_of_lt (Nat.div_le_self ..) hg
  rw [e1]
  show IntKind.u16.wrap (((BitVec.ofInt 16 ((g / 2 ^ i : Nat) : Int)) &&& (BitVec.ofInt 16 1)).toNat : Int) = _
  have h3 : ((BitVec.ofInt 16 ((g / 2 ^ i : Nat) : Int)) &&& (BitVec.ofInt 16 1)).toNat = g / 2 ^ i % 2 := by
    rw [BitVec.toNat_and, BitVec.ofInt_natCast, BitVec.toNat_ofNat, Nat.mod_eq_of_lt hlt]
    show (g / 2 ^ i) &&& 1 = _
    exact Nat.and_one_is_mod _
  rw [h3, IntKind.wrap_u16]
  omega
/-- Where the record i begins, its boot, and the disk ahead of it. -/
def rowAt (l : List (List UInt8)) : Nat → Nat
  | 0 => 0
  | i + 1 => rowAt l i + npart (secAt l i).length
def rowBoot (g : Nat) : Nat → Nat
  | 0 => 1
  | i + 1 => rowBoot g i + g / 2 ^ i % 2
def rowSecs (g n : Nat) (l : List (List UInt8)) (i : Nat) : List (List UInt8) := (recSecs (rowBoot g i : Nat) (n + 1 + i : Nat) 2 (secAt l i)).1
def rowD (g n : Nat) (l : List (List UInt8)) : Nat → Dk
  | 0 => Dk.new 80
  | i + 1 => (rowD g n l i).puts (rowAt l i) (rowSecs g n l i)
theorem rowBoot_le (g i : Nat) : 1 ≤ rowBoot g i ∧ rowBoot g i ≤ i + 1 := by
  induction i with
  | zero => exact ⟨Nat.le_refl _, Nat.le_refl _⟩
  | succ i ih => unfold rowBoot; omega
theorem rowBoot_mono (g i : Nat) : rowBoot g i ≤ rowBoot g (i + 1) := by
  show _ ≤ rowBoot g i + g / 2 ^ i % 2
  omega
theorem row_ok {g n i : Nat} (hn : n < 256) (hi : i < 12) : ROk (rowBoot g i : Nat) (n + 1 + i : Nat) := by
  have := rowBoot_le g i
  unfold ROk
  omega
theorem rowAt_le {l : List (List UInt8)} {i : Nat} (h : ∀ j, j < i → (secAt l j).length ≤ 200) : rowAt l i ≤ 5 * i := by
  induction i with
  | zero => exact Nat.le_refl _
  | succ i ih =>
    have h1 := ih fun j hj => h j (by omega)
    have h2 := h i (Nat.lt_succ_self i)
    show rowAt l i + npart (secAt l i).length ≤ _
    unfold npart
    omega
theorem rowAt_lt (l : List (List UInt8)) {i j : Nat} (h : i < j) : rowAt l i + npart (secAt l i).length ≤ rowAt l j := by
  induction j with
  | zero => omega
  | succ j ih =>
    by_cases e : i = j
    · subst e; exact Nat.le_refl _
    · have := ih (by omega)
      show _ ≤ rowAt l j + npart (secAt l j).length
      omega
theorem rowSecs_len {g n i : Nat} {l : List (List UInt8)} (hn : n < 256) (hi : i < 12) (h : (secAt l i).length ≤ 200) : (rowSecs g n l i).length = npart (secAt l i).length := recSecs_len (by omega) (row_ok hn hi)
theorem rowD_S (g n : Nat) (l : List (List UInt8)) (i : Nat) : (rowD g n l i).S = List.replicate 80 Z80 := by
  induction i with
  | zero => rfl
  | succ i ih => exact ih
theorem rowD_P {g n : Nat} {l : List (List UInt8)} {i : Nat} (hn : n < 256) (hi : i ≤ 12) (h : ∀ j, j < i → (secAt l j).length ≤ 200) : (rowD g n l i).P.length = rowAt l i := by
  induction i with
  | zero => rfl
  | succ i ih =>
    show ((rowD g n l i).P ++ wputs (rowAt l i) (rowSecs g n l i)).length = rowAt l i + npart (secAt l i).length
    rw [List.length_append, wputs_len, ih (by omega) fun j hj => h j (by omega), rowSecs_len hn (by omega) (h i (by omega))]
theorem rowD_ge {g n : Nat} {l : List (List UInt8)} {i k : Nat} (hn : n < 256) (hi : i ≤ 12) (h : ∀ j, j < i → (secAt l j).length ≤ 200) (hk : rowAt l i ≤ k) : (rowD g n l i).read k = (Dk.new 80).read k := by
  induction i with
  | zero => rfl
  | succ i ih =>
    have h2 : rowAt l i + npart (secAt l i).length ≤ k := hk
    show ((rowD g n l i).puts (rowAt l i) (rowSecs g n l i)).read k = _
    rw [puts_read, rowSecs_len hn (by omega) (h i (by omega)), if_neg (by omega)]
    exact ih (by omega) (fun j hj => h j (by omega)) (by omega)
theorem rowD_rat {g n : Nat} {l : List (List UInt8)} {i j : Nat} (hn : n < 256) (hj : j ≤ 12) (h : ∀ q, q < j → (secAt l q).length ≤ 200) (hij : i < j) : RAt (rowD g n l j).read (rowAt l i) (rowBoot g i : Nat) (n + 1 + i : Nat) 2 (secAt l i) := by
  induction j with
  | zero => omega
  | succ j ih =>
    by_cases e : i = j
    · subst e
      exact puts_rat _ _ (by have := h i (by omega); omega) (row_ok hn (by omega))
    · intro k hk
      show ((rowD g n l j).puts (rowAt l j) (rowSecs g n l j)).read (rowAt l i + k) = _
      have h2 := rowAt_lt l (show i < j by omega)
      rw [puts_read, if_neg (by omega)]
      exact ih (by omega) (fun q hq => h q (by omega)) (by omega) k hk
theorem rowD_blank {g n : Nat} {l : List (List UInt8)} {K : Nat} (hn : n < 256) (hK : K ≤ 12) (h : ∀ q, q < K → (secAt l q).length ≤ 200) : rdec (rowD g n l K).read (rowAt l K) 0 = none := by
  have h2 := rowAt_le h
  unfold rdec
  rw [Nat.add_zero, rowD_ge hn hK h (Nat.le_refl _)]
  show fdecodeOf (List.getD (List.replicate 80 Z80) (rowAt l K) []) = none
  rw [List.getD_eq_getElem?_getD, List.getElem?_replicate, if_pos (by omega)]
  exact fdecodeOf_zeros
/-- The boot that is known ahead of the record i. -/
def rowPrev (g : Nat) : Nat → Nat
  | 0 => 1
  | i + 1 => rowBoot g i
theorem rowPrev_le (g i : Nat) : rowPrev g i ≤ rowBoot g i := by
  cases i with
  | zero => exact Nat.le_refl _
  | succ i => exact rowBoot_mono g i
theorem rowPrev_12 {g i : Nat} (hi : i ≤ 12) : 1 ≤ rowPrev g i ∧ rowPrev g i ≤ 13 := by
  cases i with
  | zero => exact ⟨Nat.le_refl _, by show 1 ≤ 13; omega⟩
  | succ i => have := rowBoot_le g i; show 1 ≤ rowBoot g i ∧ rowBoot g i ≤ 13; omega
theorem row_reads {g n : Nat} {l : List (List UInt8)} {K : Nat} (hn : n < 256) (hK : K ≤ 12) (h : ∀ q, q < K → (secAt l q).length ≤ 200) :
    (∀ i, i < K → readVal (rowD g n l K) .idle (rowAt l i : Nat) (rowAt l K : Nat) ((n : Int) + 1 + (i : Int)) (rowPrev g i : Nat) = .tuple #[.agg #[.int .i64 (rowBoot g i : Nat), .int .i64 ((n : Int) + 1 + (i : Int)), .int .i64 0, .int .i64 (npart (secAt l i).length : Nat), .int .u8 2, .string (S (secAt l i))], .int .i64 0]) ∧
    readVal (rowD g n l K) .idle (rowAt l K : Nat) 80 ((n : Int) + 1 + (K : Int)) (rowPrev g K : Nat) = .tuple #[zfrm, .int .i64 12] := by
  have hle := rowAt_le h
  have hDl : (rowD g n l K).S.length = 80 := by rw [rowD_S, List.length_replicate]
  have hE : ∀ a c : Nat, a ≤ c → c ≤ 80 → readE (rowD g n l K) .idle a c = 0 := fun a c h1 h2 => by
    unfold readE
    rw [if_neg (by omega), if_neg (by decide)]
  refine ⟨fun i hi => ?_, ?_⟩
  · have hlt := rowAt_lt l hi
    have hat := rowD_rat (g := g) hn hK h hi
    have e1 : (n : Int) + 1 + (i : Int) = ((n + 1 + i : Nat) : Int) := by omega
    have hp := rowPrev_le g i
    have h2 := h i hi
    unfold readVal
    rw [if_pos (hE _ _ (by omega) (by omega)), Int.toNat_natCast, Int.toNat_natCast, e1, hat.found (by decide) (by omega) (row_ok hn (by omega)) hlt (by omega)]
    show Value.tuple #[(rfound _ _ _ _).val, .int .i64 0] = _
    rw [rfound_val (by decide) (row_ok hn (by omega))]
  · unfold readVal
    rw [show (80 : Int) = ((80 : Nat) : Int) from rfl, if_pos (hE _ _ (by omega) (by omega)), Int.toNat_natCast, Int.toNat_natCast, recRead_none (rowD_blank hn hK h)]
    rfl
end Go.Proofs.Ytjpelmjocdodcaa
