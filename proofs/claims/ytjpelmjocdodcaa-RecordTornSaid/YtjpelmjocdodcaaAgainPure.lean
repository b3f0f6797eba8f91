/- A kept write taken out of a choice. -/
import Derived.Test.YtjpelmjocdodcaaCrashPure
namespace Go.Proofs.Ytjpelmjocdodcaa
open Go

theorem wrap_u64 {x : Int} (h0 : 0 ≤ x) (h1 : x < 18446744073709551616) : IntKind.u64.wrap x = x := by
  rw [IntKind.wrap_u64]
  omega
theorem keepB_bit (N : Nat) (hN : N < 18446744073709551616) (k : Nat) : keepB (N : Int) k = N.testBit (k % 64) := by
  have hj : k % 64 < 64 := Nat.mod_lt _ (by omega)
  obtain ⟨j, hjj⟩ : ∃ j, k % 64 = j := ⟨_, rfl⟩
  unfold keepB
  rw [hjj]
  have e1 : ((N : Int) / 2 ^ j) = ((N / 2 ^ j : Nat) : Int) := by norm_cast
  have hlt : N / 2 ^ j < 18446744073709551616 := Nat.lt_of_le_of_lt (Nat.div_le_self ..) hN
  have e2 : Go.bits .and .u64 ((N / 2 ^ j : Nat) : Int) 1 = ((N / 2 ^ j % 2 : Nat) : Int) := by
    show IntKind.u64.wrap (((BitVec.ofInt 64 ((N / 2 ^ j : Nat) : Int)) &&& (BitVec.ofInt 64 1)).toNat : Int) = _
    have h3 : ((BitVec.ofInt 64 ((N / 2 ^ j : Nat) : Int)) &&& (BitVec.ofInt 64 1)).toNat = N / 2 ^ j % 2 := by
      rw [BitVec.toNat_and, BitVec.ofInt_natCast, BitVec.toNat_ofNat, Nat.mod_eq_of_lt hlt]
      show (N / 2 ^ j) &&& 1 = _
      exact Nat.and_one_is_mod _
    rw [h3]
    exact wrap_u64 (by omega) (by omega)
  rw [e1, e2, Nat.testBit_eq_decide_div_mod_eq]
  rcases Nat.mod_two_eq_zero_or_one (N / 2 ^ j) with h | h <;> rw [h] <;> rfl
theorem andNot_is (N t : Nat) : ∃ M : Nat, Go.bits .andNot .u64 (N : Int) ((2 ^ t : Nat) : Int) = (M : Int) ∧ M < 18446744073709551616 ∧ ∀ k, k < 64 → M.testBit k = (N.testBit k && !(decide (t = k))) := by
  refine ⟨(BitVec.ofNat 64 N &&& ~~~ BitVec.ofNat 64 (2 ^ t)).toNat, ?_, BitVec.isLt _, fun k hk => ?_⟩
  · show IntKind.u64.wrap (((BitVec.ofInt 64 (N : Int)) &&& ~~~ (BitVec.ofInt 64 ((2 ^ t : Nat) : Int))).toNat : Int) = _
    rw [BitVec.ofInt_natCast, BitVec.ofInt_natCast]
    exact wrap_u64 (by omega) (by have := (BitVec.ofNat 64 N &&& ~~~ BitVec.ofNat 64 (2 ^ t)).isLt; omega)
  · rw [BitVec.testBit_toNat, BitVec.getLsbD_and, BitVec.getLsbD_not, BitVec.getLsbD_ofNat, BitVec.getLsbD_ofNat, Nat.testBit_two_pow]
    simp [hk]
theorem keepB_andNot {N t k : Nat} (hN : N < 18446744073709551616) (hk : k < 64) : keepB (Go.bits .andNot .u64 (N : Int) ((2 ^ t : Nat) : Int)) k = if k = t then false else keepB (N : Int) k := by
  obtain ⟨M, e, hM, hb⟩ := andNot_is N t
  have hkk : k % 64 = k := Nat.mod_eq_of_lt hk
  rw [e, keepB_bit M hM, keepB_bit N hN, hkk, hb k hk]
  by_cases h : k = t
  · subst h; simp
  · rw [if_neg h]
    have : decide (t = k) = false := by rw [decide_eq_false_iff_not]; omega
    rw [this]
    simp
end Go.Proofs.Ytjpelmjocdodcaa
