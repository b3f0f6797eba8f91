/- A header's sector as a list of bytes, written and read back. -/
import Derived.Test.YtgnhpbolmfbngaaPures
namespace Go.Proofs.Ytgnhpbolmfbngaa

structure Hd where
  seq : Nat
  boot : Nat
  area : Nat
  first : Nat
  snaps : Nat
def Hd.head (b : Hd) : List UInt8 := be 6 b.seq ++ (be 4 b.boot ++ (be 1 b.area ++ (be 6 b.first ++ be 2 b.snaps)))
def Hd.sec (b : Hd) : List UInt8 := b.head ++ (be 4 (crcSum b.head) ++ (List.replicate 51 0 ++ b.head.take 6))
def Hd.Ok (b : Hd) : Prop := 1 ≤ b.seq ∧ b.seq < 281474976710656 ∧ 1 ≤ b.boot ∧ b.boot < 4294967296 ∧ b.area ≤ 1 ∧ 1 ≤ b.first ∧ b.first < 281474976710656 ∧ b.snaps ≤ 65535
@[simp] theorem Hd.head_length (b : Hd) : b.head.length = 19 := by simp [Hd.head]
theorem Hd.sec_length (b : Hd) : b.sec.length = 80 := by simp [Hd.sec]
/-- The fields of a sector. -/
def hfieldsOf (s : List UInt8) : Hd := ⟨un (s.take 6), un ((s.take 10).drop 6), un ((s.take 11).drop 10), un ((s.take 17).drop 11), un ((s.take 19).drop 17)⟩
instance (b : Hd) : Decidable b.Ok := by unfold Hd.Ok; infer_instance
instance : DecidableEq Hd := fun a b => by
  by_cases h : a.seq = b.seq ∧ a.boot = b.boot ∧ a.area = b.area ∧ a.first = b.first ∧ a.snaps = b.snaps
  · exact .isTrue (by cases a; cases b; simp_all)
  · exact .isFalse (by rintro rfl; exact h ⟨rfl, rfl, rfl, rfl, rfl⟩)
def hdecodeOf (s : List UInt8) : Option Hd :=
  if s.length = 80 ∧ (hfieldsOf s).Ok ∧ (hfieldsOf s).sec = s then some (hfieldsOf s) else none
theorem hdecodeOf_some {s : List UInt8} {b : Hd} (h : hdecodeOf s = some b) : b.Ok ∧ b.sec = s := by
  unfold hdecodeOf at h
  split at h
  · rename_i hc
    obtain rfl := Option.some.inj h
    exact hc.2
  · cases h
theorem Hd.sec_eq (b : Hd) : b.sec = be 6 b.seq ++ (be 4 b.boot ++ (be 1 b.area ++ (be 6 b.first ++ (be 2 b.snaps ++ (be 4 (crcSum b.head) ++ (List.replicate 51 0 ++ b.head.take 6)))))) := by
  unfold Hd.sec
  rw [Hd.head]
  simp only [List.append_assoc]
theorem hmid {a b r : List UInt8} {i j : Nat} (h : a.length = i) (h2 : b.length = j) : ((a ++ (b ++ r)).take (i + j)).drop i = b := by
  rw [take_app2 _ _ i j h, drop_app _ _ _ h, take_app _ _ _ h2]
theorem hfieldsOf_sec {b : Hd} (ok : b.Ok) : hfieldsOf b.sec = b := by
  obtain ⟨h1, h2, h3, h4, h5, h6, h7, h8⟩ := ok
  have l1 : (be 6 b.seq).length = 6 := by simp
  have l2 : (be 4 b.boot).length = 4 := by simp
  have l3 : (be 1 b.area).length = 1 := by simp
  have l4 : (be 6 b.first).length = 6 := by simp
  have l5 : (be 2 b.snaps).length = 2 := by simp
  unfold hfieldsOf
  rw [Hd.sec_eq]
  generalize be 4 (crcSum b.head) ++ (List.replicate 51 0 ++ b.head.take 6) = z
  have g1 : ∀ r : List UInt8, (be 6 b.seq ++ r).take 6 = be 6 b.seq := fun r => take_app _ _ _ l1
  have g2 : ∀ r : List UInt8, ((be 6 b.seq ++ (be 4 b.boot ++ r)).take 10).drop 6 = be 4 b.boot := fun r => hmid l1 l2
  have g3 : ∀ r : List UInt8, ((be 6 b.seq ++ (be 4 b.boot ++ (be 1 b.area ++ r))).take 11).drop 10 = be 1 b.area := fun r => by
    rw [show be 6 b.seq ++ (be 4 b.boot ++ (be 1 b.area ++ r)) = (be 6 b.seq ++ be 4 b.boot) ++ (be 1 b.area ++ r) by simp]
    exact hmid (i := 10) (j := 1) (by simp) l3
  have g4 : ∀ r : List UInt8, ((be 6 b.seq ++ (be 4 b.boot ++ (be 1 b.area ++ (be 6 b.first ++ r)))).take 17).drop 11 = be 6 b.first := fun r => by
    rw [show be 6 b.seq ++ (be 4 b.boot ++ (be 1 b.area ++ (be 6 b.first ++ r))) = (be 6 b.seq ++ (be 4 b.boot ++ be 1 b.area)) ++ (be 6 b.first ++ r) by simp]
    exact hmid (i := 11) (j := 6) (by simp) l4
  have g5 : ∀ r : List UInt8, ((be 6 b.seq ++ (be 4 b.boot ++ (be 1 b.area ++ (be 6 b.first ++ (be 2 b.snaps ++ r))))).take 19).drop 17 = be 2 b.snaps := fun r => by
    rw [show be 6 b.seq ++ (be 4 b.boot ++ (be 1 b.area ++ (be 6 b.first ++ (be 2 b.snaps ++ r)))) = (be 6 b.seq ++ (be 4 b.boot ++ (be 1 b.area ++ be 6 b.first))) ++ (be 2 b.snaps ++ r) by simp]
    exact hmid (i := 17) (j := 2) (by simp) l5
  rw [g1, g2, g3, g4, g5, un_be _ _ (by omega), un_be _ _ (by omega), un_be _ _ (by omega), un_be _ _ (by omega), un_be _ _ (by omega)]
theorem hdecodeOf_sec {b : Hd} (ok : b.Ok) : hdecodeOf b.sec = some b := by
  unfold hdecodeOf
  rw [hfieldsOf_sec ok, if_pos ⟨b.sec_length, ok, rfl⟩]
theorem hsec_inj {a b : Hd} (ha : a.Ok) (hb : b.Ok) (h : a.sec = b.sec) : a = b := by
  have h1 := hdecodeOf_sec ha
  rw [h, hdecodeOf_sec hb] at h1
  exact (Option.some.inj h1).symm
theorem hdecodeOf_len {s : List UInt8} (h : ¬ s.length = 80) : hdecodeOf s = none := by
  unfold hdecodeOf
  rw [if_neg (fun e => h e.1)]
/-- The parts of a sector that Decode reads. -/
theorem hpieces (l : List UInt8) (h80 : l.length = 80) : ∃ l0 l1 l2 l3 l4 : List UInt8, (S l).extract 0 6 = S l0 ∧ (S l).extract 6 10 = S l1 ∧ (S l).extract 10 11 = S l2 ∧ (S l).extract 11 17 = S l3 ∧ (S l).extract 17 19 = S l4 ∧
    (1 ≤ l0.length ∧ l0.length ≤ 7) ∧ (1 ≤ l1.length ∧ l1.length ≤ 7) ∧ (1 ≤ l2.length ∧ l2.length ≤ 7) ∧ (1 ≤ l3.length ∧ l3.length ≤ 7) ∧ (1 ≤ l4.length ∧ l4.length ≤ 7) ∧ (un l0 < 281474976710656 ∧ un l1 < 4294967296 ∧ un l2 < 256 ∧ un l3 < 281474976710656 ∧ un l4 < 65536) ∧ hfieldsOf l = ⟨un l0, un l1, un l2, un l3, un l4⟩ := by
  have u0 := un_lt ((l.take 6).drop 0)
  have u1 := un_lt ((l.take 10).drop 6)
  have u2 := un_lt ((l.take 11).drop 10)
  have u3 := un_lt ((l.take 17).drop 11)
  have u4 := un_lt ((l.take 19).drop 17)
  have n0 : ((l.take 6).drop 0).length = 6 := by rw [List.length_drop, List.length_take]; omega
  have n1 : ((l.take 10).drop 6).length = 4 := by rw [List.length_drop, List.length_take]; omega
  have n2 : ((l.take 11).drop 10).length = 1 := by rw [List.length_drop, List.length_take]; omega
  have n3 : ((l.take 17).drop 11).length = 6 := by rw [List.length_drop, List.length_take]; omega
  have n4 : ((l.take 19).drop 17).length = 2 := by rw [List.length_drop, List.length_take]; omega
  rw [n0] at u0
  rw [n1] at u1
  rw [n2] at u2
  rw [n3] at u3
  rw [n4] at u4
  refine ⟨(l.take 6).drop 0, (l.take 10).drop 6, (l.take 11).drop 10, (l.take 17).drop 11, (l.take 19).drop 17, S_extract _ _ _, S_extract _ _ _, S_extract _ _ _, S_extract _ _ _, S_extract _ _ _, by omega, by omega, by omega, by omega, by omega, ⟨u0, u1, u2, u3, u4⟩, ?_⟩
  unfold hfieldsOf
  rw [List.drop_zero]
end Go.Proofs.Ytgnhpbolmfbngaa
