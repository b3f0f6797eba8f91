/- A block's sector read back: the plain part of block.Decode. -/
import Derived.Test.YtjpelmjocdodcaaBlockPure
namespace Go.Proofs.Ytjpelmjocdodcaa

/-- The fields of a sector. -/
def fieldsOf (s : List UInt8) : Blk := ⟨un (s.take 4), un ((s.take 8).drop 4), un ((s.take 12).drop 8), un ((s.take 18).drop 12), (s.take (23 + (s.getD 18 0).toNat)).drop 23⟩
instance (b : Blk) : Decidable b.Ok := by unfold Blk.Ok; infer_instance
instance : DecidableEq Blk := fun a b => by
  by_cases h : a.life = b.life ∧ a.boot = b.boot ∧ a.n = b.n ∧ a.off = b.off ∧ a.data = b.data
  · exact .isTrue (by cases a; cases b; simp_all)
  · exact .isFalse (by rintro rfl; exact h ⟨rfl, rfl, rfl, rfl, rfl⟩)
def decodeOf (s : List UInt8) : Option Blk :=
  if (s.length = 80 ∧ (s.getD 18 0).toNat ≤ 36) ∧ (fieldsOf s).Ok ∧ (fieldsOf s).sec = s then some (fieldsOf s) else none
theorem decodeOf_some {s : List UInt8} {b : Blk} (h : decodeOf s = some b) : b.Ok ∧ b.sec = s := by
  unfold decodeOf at h
  split at h
  · rename_i hc
    obtain rfl := Option.some.inj h
    exact hc.2
  · cases h
theorem be1 (n : Nat) (h : n < 256) : be 1 n = [UInt8.ofNat n] := by
  rw [be_cons]
  simp [be, Nat.mod_eq_of_lt h]
theorem take_app {α : Type} (a b : List α) (n : Nat) (h : a.length = n) : (a ++ b).take n = a := by subst h; simp
theorem drop_app {α : Type} (a b : List α) (n : Nat) (h : a.length = n) : (a ++ b).drop n = b := by subst h; simp
theorem take_app2 {α : Type} (a b : List α) (n k : Nat) (h : a.length = n) : (a ++ b).take (n + k) = a ++ b.take k := by
  subst h
  rw [List.take_append, List.take_of_length_le (by omega), show a.length + k - a.length = k by omega]
/-- The sector, field by field. -/
theorem Blk.sec_eq (b : Blk) : b.sec = be 4 b.life ++ (be 4 b.boot ++ (be 4 b.n ++ (be 6 b.off ++ (be 1 b.data.length ++ (be 4 (crcSum (b.head ++ b.data)) ++ (b.data ++ (List.replicate (45 - b.data.length) 0 ++ b.head.take 12))))))) := by
  unfold Blk.sec
  rw [Blk.head]
  simp only [List.append_assoc]
theorem fieldsOf_sec {b : Blk} (ok : b.Ok) : fieldsOf b.sec = b := by
  obtain ⟨h1, h2, h3, h4, h5, h6, h7⟩ := ok
  have l1 : (be 4 b.life).length = 4 := by simp
  have l2 : (be 4 b.boot).length = 4 := by simp
  have l3 : (be 4 b.n).length = 4 := by simp
  have l4 : (be 6 b.off).length = 6 := by simp
  have l5 : (be 1 b.data.length).length = 1 := by simp
  have l6 : (be 4 (crcSum (b.head ++ b.data))).length = 4 := by simp
  have e18 : (b.sec.getD 18 0).toNat = b.data.length := by
    rw [Blk.sec_eq, be1 _ (by omega)]
    rw [← List.append_assoc, ← List.append_assoc, ← List.append_assoc]
    rw [List.getD_eq_getElem?_getD, List.getElem?_append_right (by simp)]
    simp
    omega
  unfold fieldsOf
  rw [e18]
  rw [Blk.sec_eq]
  generalize be 4 (crcSum (b.head ++ b.data)) = c at l6 ⊢
  generalize List.replicate (45 - b.data.length) 0 ++ b.head.take 12 = z
  have g1 : ∀ r : List UInt8, (be 4 b.life ++ r).take 4 = be 4 b.life := fun r => take_app _ _ _ l1
  have g2 : ∀ r : List UInt8, ((be 4 b.life ++ (be 4 b.boot ++ r)).take 8).drop 4 = be 4 b.boot := fun r => by
    rw [take_app2 _ _ 4 4 l1, drop_app _ _ _ l1, take_app _ _ _ l2]
  have g3 : ∀ r : List UInt8, ((be 4 b.life ++ (be 4 b.boot ++ (be 4 b.n ++ r))).take 12).drop 8 = be 4 b.n := fun r => by
    rw [show (be 4 b.life ++ (be 4 b.boot ++ (be 4 b.n ++ r))) = (be 4 b.life ++ be 4 b.boot) ++ (be 4 b.n ++ r) by simp, take_app2 _ _ 8 4 (by simp), drop_app _ _ _ (by simp), take_app _ _ _ l3]
  have g4 : ∀ r : List UInt8, ((be 4 b.life ++ (be 4 b.boot ++ (be 4 b.n ++ (be 6 b.off ++ r)))).take 18).drop 12 = be 6 b.off := fun r => by
    rw [show (be 4 b.life ++ (be 4 b.boot ++ (be 4 b.n ++ (be 6 b.off ++ r)))) = (be 4 b.life ++ (be 4 b.boot ++ be 4 b.n)) ++ (be 6 b.off ++ r) by simp, take_app2 _ _ 12 6 (by simp), drop_app _ _ _ (by simp), take_app _ _ _ l4]
  have g5 : ∀ r : List UInt8, ((be 4 b.life ++ (be 4 b.boot ++ (be 4 b.n ++ (be 6 b.off ++ (be 1 b.data.length ++ (c ++ (b.data ++ r))))))).take (23 + b.data.length)).drop 23 = b.data := fun r => by
    rw [show (be 4 b.life ++ (be 4 b.boot ++ (be 4 b.n ++ (be 6 b.off ++ (be 1 b.data.length ++ (c ++ (b.data ++ r))))))) = (be 4 b.life ++ (be 4 b.boot ++ (be 4 b.n ++ (be 6 b.off ++ (be 1 b.data.length ++ c))))) ++ (b.data ++ r) by simp, take_app2 _ _ 23 _ (by simp [l6]), drop_app _ _ _ (by simp [l6]), take_app _ _ _ rfl]
  rw [g1, g2, g3, g4, g5, un_be _ _ (by omega), un_be _ _ (by omega), un_be _ _ (by omega), un_be _ _ (by omega)]
theorem sec_18 {b : Blk} (h : b.data.length ≤ 36) : (b.sec.getD 18 0).toNat = b.data.length := by
  rw [Blk.sec_eq, be1 _ (by omega)]
  rw [← List.append_assoc, ← List.append_assoc, ← List.append_assoc]
  rw [List.getD_eq_getElem?_getD, List.getElem?_append_right (by simp)]
  simp
  omega
theorem decodeOf_sec {b : Blk} (ok : b.Ok) : decodeOf b.sec = some b := by
  unfold decodeOf
  rw [fieldsOf_sec ok, if_pos ⟨⟨b.sec_length ok.2.2.2.2.2.2, by rw [sec_18 ok.2.2.2.2.2.2]; exact ok.2.2.2.2.2.2⟩, ok, rfl⟩]
theorem sec_inj {a b : Blk} (ha : a.Ok) (hb : b.Ok) (h : a.sec = b.sec) : a = b := by
  have h1 := decodeOf_sec ha
  rw [h, decodeOf_sec hb] at h1
  exact (Option.some.inj h1).symm
end Go.Proofs.Ytjpelmjocdodcaa
