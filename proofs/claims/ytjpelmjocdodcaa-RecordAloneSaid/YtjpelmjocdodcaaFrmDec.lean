/- A frame's sector read back: the plain part of frame.Decode. -/
import Derived.Test.YtjpelmjocdodcaaFrmPure
import Derived.Test.YtjpelmjocdodcaaBlockDec
namespace Go.Proofs.Ytjpelmjocdodcaa

/-- The fields of a sector. -/
def ffieldsOf (s : List UInt8) : Frm := ⟨un (s.take 4), un ((s.take 10).drop 4), un ((s.take 11).drop 10), un ((s.take 12).drop 11), un ((s.take 13).drop 12), (s.take (18 + (s.getD 13 0).toNat)).drop 18⟩
instance (b : Frm) : Decidable b.Ok := by unfold Frm.Ok; infer_instance
instance : DecidableEq Frm := fun a b => by
  by_cases h : a.boot = b.boot ∧ a.lsn = b.lsn ∧ a.part = b.part ∧ a.parts = b.parts ∧ a.kind = b.kind ∧ a.data = b.data
  · exact .isTrue (by cases a; cases b; simp_all)
  · exact .isFalse (by rintro rfl; exact h ⟨rfl, rfl, rfl, rfl, rfl, rfl⟩)
def fdecodeOf (s : List UInt8) : Option Frm :=
  if (s.length = 80 ∧ (s.getD 13 0).toNat ≤ 44) ∧ (ffieldsOf s).Ok ∧ (ffieldsOf s).sec = s then some (ffieldsOf s) else none
theorem fdecodeOf_some {s : List UInt8} {b : Frm} (h : fdecodeOf s = some b) : b.Ok ∧ b.sec = s := by
  unfold fdecodeOf at h
  split at h
  · rename_i hc
    obtain rfl := Option.some.inj h
    exact hc.2
  · cases h
/-- The sector, field by field. -/
theorem Frm.sec_eq (b : Frm) : b.sec = be 4 b.boot ++ (be 6 b.lsn ++ (be 1 b.part ++ (be 1 b.parts ++ (be 1 b.kind ++ (be 1 b.data.length ++ (be 4 (crcSum (b.head ++ b.data)) ++ (b.data ++ (List.replicate (51 - b.data.length) 0 ++ b.head.take 11)))))))) := by
  unfold Frm.sec
  rw [Frm.head]
  simp only [List.append_assoc]
theorem fsec_13 {b : Frm} (h : b.data.length ≤ 44) : (b.sec.getD 13 0).toNat = b.data.length := by
  rw [Frm.sec_eq, be1 b.data.length (by omega)]
  rw [← List.append_assoc, ← List.append_assoc, ← List.append_assoc, ← List.append_assoc]
  rw [List.getD_eq_getElem?_getD, List.getElem?_append_right (by simp)]
  simp
  omega
theorem mid {a b r : List UInt8} {i j : Nat} (h : a.length = i) (h2 : b.length = j) : ((a ++ (b ++ r)).take (i + j)).drop i = b := by
  rw [take_app2 _ _ i j h, drop_app _ _ _ h, take_app _ _ _ h2]
theorem ffieldsOf_sec {b : Frm} (ok : b.Ok) : ffieldsOf b.sec = b := by
  obtain ⟨h1, h2, h3, h4, h5, h6, h7, h8⟩ := ok
  have l1 : (be 4 b.boot).length = 4 := by simp
  have l2 : (be 6 b.lsn).length = 6 := by simp
  have l3 : (be 1 b.part).length = 1 := by simp
  have l4 : (be 1 b.parts).length = 1 := by simp
  have l5 : (be 1 b.kind).length = 1 := by simp
  have l6 : (be 4 (crcSum (b.head ++ b.data))).length = 4 := by simp
  have e13 : (b.sec.getD 13 0).toNat = b.data.length := fsec_13 h8
  unfold ffieldsOf
  rw [e13]
  rw [Frm.sec_eq]
  generalize be 4 (crcSum (b.head ++ b.data)) = c at l6 ⊢
  generalize List.replicate (51 - b.data.length) 0 ++ b.head.take 11 = z
  have g1 : ∀ r : List UInt8, (be 4 b.boot ++ r).take 4 = be 4 b.boot := fun r => take_app _ _ _ l1
  have g2 : ∀ r : List UInt8, ((be 4 b.boot ++ (be 6 b.lsn ++ r)).take 10).drop 4 = be 6 b.lsn := fun r => mid l1 l2
  have g3 : ∀ r : List UInt8, ((be 4 b.boot ++ (be 6 b.lsn ++ (be 1 b.part ++ r))).take 11).drop 10 = be 1 b.part := fun r => by
    rw [show be 4 b.boot ++ (be 6 b.lsn ++ (be 1 b.part ++ r)) = (be 4 b.boot ++ be 6 b.lsn) ++ (be 1 b.part ++ r) by simp]
    exact mid (i := 10) (j := 1) (by simp) l3
  have g4 : ∀ r : List UInt8, ((be 4 b.boot ++ (be 6 b.lsn ++ (be 1 b.part ++ (be 1 b.parts ++ r)))).take 12).drop 11 = be 1 b.parts := fun r => by
    rw [show be 4 b.boot ++ (be 6 b.lsn ++ (be 1 b.part ++ (be 1 b.parts ++ r))) = (be 4 b.boot ++ (be 6 b.lsn ++ be 1 b.part)) ++ (be 1 b.parts ++ r) by simp]
    exact mid (i := 11) (j := 1) (by simp) l4
  have g5 : ∀ r : List UInt8, ((be 4 b.boot ++ (be 6 b.lsn ++ (be 1 b.part ++ (be 1 b.parts ++ (be 1 b.kind ++ r))))).take 13).drop 12 = be 1 b.kind := fun r => by
    rw [show be 4 b.boot ++ (be 6 b.lsn ++ (be 1 b.part ++ (be 1 b.parts ++ (be 1 b.kind ++ r)))) = (be 4 b.boot ++ (be 6 b.lsn ++ (be 1 b.part ++ be 1 b.parts))) ++ (be 1 b.kind ++ r) by simp]
    exact mid (i := 12) (j := 1) (by simp) l5
  have g6 : ∀ r : List UInt8, ((be 4 b.boot ++ (be 6 b.lsn ++ (be 1 b.part ++ (be 1 b.parts ++ (be 1 b.kind ++ (be 1 b.data.length ++ (c ++ (b.data ++ r)))))))).take (18 + b.data.length)).drop 18 = b.data := fun r => by
    rw [show be 4 b.boot ++ (be 6 b.lsn ++ (be 1 b.part ++ (be 1 b.parts ++ (be 1 b.kind ++ (be 1 b.data.length ++ (c ++ (b.data ++ r))))))) = (be 4 b.boot ++ (be 6 b.lsn ++ (be 1 b.part ++ (be 1 b.parts ++ (be 1 b.kind ++ (be 1 b.data.length ++ c)))))) ++ (b.data ++ r) by simp]
    exact mid (by simp [l6]) rfl
  rw [g1, g2, g3, g4, g5, g6, un_be _ _ (by omega), un_be _ _ (by omega), un_be _ _ (by omega), un_be _ _ (by omega), un_be _ _ (by omega)]
theorem fdecodeOf_sec {b : Frm} (ok : b.Ok) : fdecodeOf b.sec = some b := by
  have h8 : b.data.length ≤ 44 := ok.2.2.2.2.2.2.2
  unfold fdecodeOf
  rw [ffieldsOf_sec ok, if_pos ⟨⟨b.sec_length h8, by rw [fsec_13 h8]; exact h8⟩, ok, rfl⟩]
theorem fsec_inj {a b : Frm} (ha : a.Ok) (hb : b.Ok) (h : a.sec = b.sec) : a = b := by
  have h1 := fdecodeOf_sec ha
  rw [h, fdecodeOf_sec hb] at h1
  exact (Option.some.inj h1).symm
end Go.Proofs.Ytjpelmjocdodcaa
