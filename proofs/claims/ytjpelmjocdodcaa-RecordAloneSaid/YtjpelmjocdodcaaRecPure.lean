/- A record's pieces and sectors, without a program. -/
import Derived.Test.YtjpelmjocdodcaaGFOne
namespace Go.Proofs.Ytjpelmjocdodcaa

def npart (n : Nat) : Nat := max 1 ((n + 43) / 44)
def rpiece (t : List UInt8) (k : Nat) : List UInt8 := (t.take (44 * k + 44)).drop (44 * k)
theorem rpiece_len (t : List UInt8) (k : Nat) : (rpiece t k).length = min (44 * k + 44) t.length - 44 * k := by unfold rpiece; rw [List.length_drop, List.length_take]
theorem rpiece_le (t : List UInt8) (k : Nat) : (rpiece t k).length ≤ 44 := by rw [rpiece_len]; omega
/-- The numbers of a record that is valid. -/
def ROk (boot lsn : Int) : Prop := 1 ≤ boot ∧ boot ≤ 4294967295 ∧ 1 ≤ lsn ∧ lsn ≤ 281474976710655
instance (boot lsn : Int) : Decidable (ROk boot lsn) := by unfold ROk; infer_instance
def recF (boot lsn kind : Int) (t : List UInt8) (k : Nat) : Frm := ⟨boot.toNat, lsn.toNat, k, npart t.length, kind.toNat, rpiece t k⟩
/-- The sectors of a record, and the error. -/
def recSecs (boot lsn kind : Int) (t : List UInt8) : List (List UInt8) × Int :=
  if 4096 < t.length then ([], 5) else if ROk boot lsn then ((List.range (npart t.length)).map fun k => (recF boot lsn kind t k).sec, 0) else ([], 2)
theorem npart_pos (n : Nat) : 1 ≤ npart n := by unfold npart; omega
theorem npart_le {n : Nat} (h : n ≤ 4096) : npart n ≤ 94 := by unfold npart; omega
/-- Encode of a piece. -/
theorem fencOf_piece {boot lsn kind : Int} {t : List UInt8} {k : Nat} (ht : t.length ≤ 4096) (hk : k < npart t.length) :
    fencOf boot lsn k (npart t.length : Nat) kind (rpiece t k) = if ROk boot lsn then ((recF boot lsn kind t k).sec, 0) else ([], 2) := by
  have h1 := rpiece_le t k
  have h2 := npart_le ht
  have h3 := npart_pos t.length
  unfold fencOf
  rw [if_neg (by omega)]
  by_cases h : ROk boot lsn
  · rw [if_pos h, if_pos (by unfold FOk; unfold ROk at h; omega)]
    unfold recF
    simp
  · rw [if_neg h, if_neg (by unfold FOk; unfold ROk at h; omega)]
theorem recF_ok {boot lsn kind : Int} {t : List UInt8} {k : Nat} (hk : 0 ≤ kind ∧ kind < 256) (ht : t.length ≤ 4096) (h : ROk boot lsn) (hn : k < npart t.length) : (recF boot lsn kind t k).Ok := by
  have h1 := rpiece_le t k
  have h2 := npart_le ht
  unfold ROk at h
  unfold recF Frm.Ok
  dsimp only
  omega
theorem recSecs_long {boot lsn kind : Int} {t : List UInt8} (h : 4096 < t.length) : recSecs boot lsn kind t = ([], 5) := by unfold recSecs; rw [if_pos h]
theorem recSecs_bad {boot lsn kind : Int} {t : List UInt8} (h : t.length ≤ 4096) (hb : ¬ ROk boot lsn) : recSecs boot lsn kind t = ([], 2) := by unfold recSecs; rw [if_neg (by omega), if_neg hb]
theorem recSecs_ok {boot lsn kind : Int} {t : List UInt8} (h : t.length ≤ 4096) (hb : ROk boot lsn) : recSecs boot lsn kind t = ((List.range (npart t.length)).map fun k => (recF boot lsn kind t k).sec, 0) := by unfold recSecs; rw [if_neg (by omega), if_pos hb]
theorem rpiece_sub {t : List UInt8} {k j : Nat} (hj : j < (rpiece t k).length) (h : 44 * k + j < t.length) : (rpiece t k)[j] = t[44 * k + j] := by
  have h1 : (rpiece t k)[j]? = some t[44 * k + j] := by
    rw [rpiece_len] at hj
    unfold rpiece
    rw [List.getElem?_drop, List.getElem?_take, if_pos (by omega), List.getElem?_eq_getElem h]
  exact (List.getElem?_eq_some_iff.1 h1).2
end Go.Proofs.Ytjpelmjocdodcaa
