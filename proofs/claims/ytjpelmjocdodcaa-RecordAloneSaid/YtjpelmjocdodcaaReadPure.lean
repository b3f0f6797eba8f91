/- What record.Read returns. -/
import Derived.Test.YtjpelmjocdodcaaRecPure
import Derived.Test.YtjpelmjocdodcaaDiskPure
namespace Go.Proofs.Ytjpelmjocdodcaa

/-- The frame that the sector at + i holds. -/
def rdec (rd : Nat → List UInt8) (a i : Nat) : Option Frm := fdecodeOf (rd (a + i))
def rdata (rd : Nat → List UInt8) (a : Nat) : Nat → List UInt8
  | 0 => []
  | k + 1 => rdata rd a k ++ (match rdec rd a k with | some f => f.data | none => [])
def rsecs (rd : Nat → List UInt8) (a k : Nat) : List (List UInt8) := (List.range k).map fun i => rd (a + i)
theorem rsecs_len (rd : Nat → List UInt8) (a k : Nat) : (rsecs rd a k).length = k := by simp [rsecs]
theorem rsecs_succ (rd : Nat → List UInt8) (a k : Nat) : rsecs rd a (k + 1) = rsecs rd a k ++ [rd (a + k)] := by simp [rsecs, List.range_succ]
/-- All the sectors of a record lie ahead of the end and hold frames. -/
def rwhole (rd : Nat → List UInt8) (a n k : Nat) : Prop := ∀ i, i < k → a + i < n ∧ (rdec rd a i).isSome = true
instance (rd : Nat → List UInt8) (a n k : Nat) : Decidable (rwhole rd a n k) := by unfold rwhole; infer_instance
def rgood (rd : Nat → List UInt8) (a n : Nat) (lsn boot : Int) (f : Frm) : Prop :=
  rwhole rd a n f.parts ∧ (recSecs f.boot f.lsn f.kind (rdata rd a f.parts)).2 = 0 ∧ (f.lsn : Int) = lsn ∧ boot ≤ f.boot ∧ rsecs rd a f.parts = (recSecs f.boot f.lsn f.kind (rdata rd a f.parts)).1
instance (rd : Nat → List UInt8) (a n : Nat) (lsn boot : Int) (f : Frm) : Decidable (rgood rd a n lsn boot f) := by unfold rgood; infer_instance
def recRead (rd : Nat → List UInt8) (a n : Nat) (lsn boot : Int) : Option Frm :=
  match rdec rd a 0 with
  | none => none
  | some f => if rgood rd a n lsn boot f then some ⟨f.boot, f.lsn, f.part, f.parts, f.kind, rdata rd a f.parts⟩ else none
theorem recRead_none {rd : Nat → List UInt8} {a n : Nat} {lsn boot : Int} (h : rdec rd a 0 = none) : recRead rd a n lsn boot = none := by unfold recRead; rw [h]
theorem recRead_bad {rd : Nat → List UInt8} {a n : Nat} {lsn boot : Int} {f : Frm} (h : rdec rd a 0 = some f) (hb : ¬ rgood rd a n lsn boot f) : recRead rd a n lsn boot = none := by unfold recRead; rw [h]; exact if_neg hb
theorem recRead_good {rd : Nat → List UInt8} {a n : Nat} {lsn boot : Int} {f : Frm} (h : rdec rd a 0 = some f) (hb : rgood rd a n lsn boot f) : recRead rd a n lsn boot = some ⟨f.boot, f.lsn, f.part, f.parts, f.kind, rdata rd a f.parts⟩ := by unfold recRead; rw [h]; exact if_pos hb
theorem rdec_ok {rd : Nat → List UInt8} {a i : Nat} {f : Frm} (h : rdec rd a i = some f) : f.Ok ∧ f.sec = rd (a + i) := fdecodeOf_some h
/-- A sector that is not there, or holds no frame. -/
theorem recRead_stop {rd : Nat → List UInt8} {a n i : Nat} {lsn boot : Int} {f : Frm} (h : rdec rd a 0 = some f) (hi : i < f.parts) (hb : ¬ (a + i < n ∧ (rdec rd a i).isSome = true)) : recRead rd a n lsn boot = none :=
  recRead_bad h (fun g => hb (g.1 i hi))
theorem recRead_first {rd : Nat → List UInt8} {a n : Nat} {lsn boot : Int} (hb : ¬ (a < n ∧ (rdec rd a 0).isSome = true)) : recRead rd a n lsn boot = none := by
  cases h : rdec rd a 0 with
  | none => exact recRead_none h
  | some f =>
    refine recRead_stop h (i := 0) (by have := (rdec_ok h).1; unfold Frm.Ok at this; omega) ?_
    rw [Nat.add_zero]
    exact hb
theorem rdata_len (rd : Nat → List UInt8) (a k : Nat) : (rdata rd a k).length ≤ 44 * k := by
  induction k with
  | zero => exact Nat.le_refl _
  | succ k ih =>
    unfold rdata
    rw [List.length_append]
    have : (match rdec rd a k with | some f => f.data | none => []).length ≤ 44 := by
      cases h : rdec rd a k with
      | none => exact Nat.zero_le _
      | some f => have := (rdec_ok h).1; unfold Frm.Ok at this; exact this.2.2.2.2.2.2.2
    omega
theorem rdata_succ {rd : Nat → List UInt8} {a k : Nat} {f : Frm} (h : rdec rd a k = some f) : rdata rd a (k + 1) = rdata rd a k ++ f.data := by
  show rdata rd a k ++ _ = _
  rw [h]
/-- The number of the error that a call with such arguments returns ahead of all reading. -/
def readE (D : Dk) (z : Fz) (a n : Int) : Int := if a < 0 ∨ n < a ∨ (D.S.length : Int) < n then 3 else if z.dead then 10 else 0
end Go.Proofs.Ytjpelmjocdodcaa
