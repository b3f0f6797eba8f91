/- Big-endian numbers are ordered as their bytes: the plain part of FrameOrder. -/
import Derived.Test.YtcdpgkefdnmkeaaFrmDec
import Derived.Laws.Strings
namespace Go.Proofs.Ytcdpgkefdnmkeaa
open Go.Op

theorem un_foldl (l : List UInt8) : ∀ n : Nat, l.foldl (fun n b => n * 256 + b.toNat) n = n * 256 ^ l.length + un l := by
  induction l with
  | nil => intro n; simp [un]
  | cons b l ih =>
    intro n
    unfold un
    rw [List.foldl_cons, List.foldl_cons, ih, ih, List.length_cons, Nat.pow_succ, Nat.add_mul, Nat.mul_comm (256 ^ l.length) 256, ← Nat.mul_assoc]
    simp [Nat.add_assoc]
theorem un_cons (b : UInt8) (l : List UInt8) : un (b :: l) = b.toNat * 256 ^ l.length + un l := by
  have h := un_foldl l (b.toNat)
  rw [← h]
  unfold un
  rw [List.foldl_cons]
  simp
theorem less_app : ∀ (x y r s : List UInt8), x.length = y.length → bytesLess (x ++ r) (y ++ s) = if un x < un y then true else if un y < un x then false else bytesLess r s
  | [], [], r, s, _ => by simp
  | a :: x, b :: y, r, s, h => by
    have hl : x.length = y.length := by simpa using h
    have ih := less_app x y r s hl
    have ux := un_lt x
    have uy := un_lt y
    rw [List.cons_append, List.cons_append, bytesLess, un_cons, un_cons, ih]
    rw [hl] at ux ⊢
    generalize 256 ^ y.length = P at ux uy ⊢
    by_cases h1 : a.toNat < b.toNat
    · have h1' : a < b := UInt8.lt_iff_toNat_lt.2 h1
      have : a.toNat * P + un x < b.toNat * P + un y := by
        have : (a.toNat + 1) * P ≤ b.toNat * P := Nat.mul_le_mul_right _ h1
        rw [Nat.add_mul] at this
        omega
      rw [if_pos this]
      simp [h1']
    · have h1' : ¬ a < b := fun h => h1 (UInt8.lt_iff_toNat_lt.1 h)
      by_cases h2 : b.toNat < a.toNat
      · have : b.toNat * P + un y < a.toNat * P + un x := by
          have : (b.toNat + 1) * P ≤ a.toNat * P := Nat.mul_le_mul_right _ h2
          rw [Nat.add_mul] at this
          omega
        rw [if_neg (show ¬ (a.toNat * P + un x < b.toNat * P + un y) by omega), if_pos this]
        have hne : ¬ a = b := fun e => by rw [e] at h2; omega
        simp [h1', hne]
      · have e : a = b := UInt8.toNat_inj.1 (by omega)
        subst e
        simp only [Nat.add_lt_add_iff_left]
        simp
  | [], _ :: _, _, _, h => by simp at h
  | _ :: _, [], _, _, h => by simp at h
theorem less_be {k m n : Nat} (r s : List UInt8) (hm : m < 256 ^ k) (hn : n < 256 ^ k) : bytesLess (be k m ++ r) (be k n ++ s) = if m < n then true else if n < m then false else bytesLess r s := by
  rw [less_app _ _ _ _ (by simp), un_be _ _ hm, un_be _ _ hn]
/-- Which of two frames is less. -/
def fless (a b : Frm) : Bool := if a.boot < b.boot then true else if b.boot < a.boot then false else if a.lsn < b.lsn then true else if b.lsn < a.lsn then false else decide (a.part < b.part)
theorem sec_less {a b : Frm} (ha : a.Ok) (hb : b.Ok) (hd : ¬ (a.boot = b.boot ∧ a.lsn = b.lsn ∧ a.part = b.part)) : bytesLess a.sec b.sec = fless a b := by
  obtain ⟨a1, a2, a3, a4, a5, a6, a7, a8⟩ := ha
  obtain ⟨b1, b2, b3, b4, b5, b6, b7, b8⟩ := hb
  rw [Frm.sec_eq, Frm.sec_eq, less_be _ _ (by omega) (by omega), less_be _ _ (by omega) (by omega), less_be _ _ (by omega) (by omega)]
  unfold fless
  by_cases h1 : a.boot < b.boot
  · rw [if_pos h1, if_pos h1]
  · rw [if_neg h1, if_neg h1]
    by_cases h2 : b.boot < a.boot
    · rw [if_pos h2, if_pos h2]
    · rw [if_neg h2, if_neg h2]
      by_cases h3 : a.lsn < b.lsn
      · rw [if_pos h3, if_pos h3]
      · rw [if_neg h3, if_neg h3]
        by_cases h4 : b.lsn < a.lsn
        · rw [if_pos h4, if_pos h4]
        · rw [if_neg h4, if_neg h4]
          by_cases h5 : a.part < b.part
          · rw [if_pos h5, decide_eq_true h5]
          · rw [if_neg h5, if_pos (by omega), decide_eq_false h5]
theorem sec_ne {a b : Frm} (ha : a.Ok) (hb : b.Ok) (hd : ¬ (a.boot = b.boot ∧ a.lsn = b.lsn ∧ a.part = b.part)) : ¬ a.sec = b.sec := fun e => hd (by
  obtain rfl := fsec_inj ha hb e
  exact ⟨rfl, rfl, rfl⟩)
end Go.Proofs.Ytcdpgkefdnmkeaa
