/- A sector of which bits within 32 bits of what the checksum is of were changed: the plain part of FrameBits. -/
import Derived.Test.YtcdpgkefdnmkeaaFrmDec
import Derived.Test.YtcdpgkefdnmkeaaBurst
namespace Go.Proofs.Ytcdpgkefdnmkeaa.Fr

/-- The bytes of a sector that the checksum is of: 0 to 13, and the data. -/
def msg (s : List UInt8) (len : Nat) : List UInt8 := s.take 14 ++ (s.drop 18).take len
/-- Bit p of some bytes. -/
def bitAt (l : List UInt8) (p : Nat) : Nat := (l.getD (p / 8) 0).toNat / 2 ^ (p % 8) % 2
theorem sec_parts (b : Frm) : b.sec.take 14 = b.head ∧ b.sec.drop 14 = be 4 (crcSum (b.head ++ b.data)) ++ (b.data ++ (List.replicate (51 - b.data.length) 0 ++ b.head.take 11)) := by
  unfold Frm.sec
  exact ⟨take_app _ _ _ b.head_length, drop_app _ _ _ b.head_length⟩
theorem sum_sec (b : Frm) : (b.sec.drop 14).take 4 = be 4 (crcSum (b.head ++ b.data)) := by
  rw [(sec_parts b).2]
  exact take_app _ _ _ (by simp)
theorem msg_sec (b : Frm) : msg b.sec b.data.length = b.head ++ b.data := by
  unfold msg
  rw [(sec_parts b).1, show b.sec.drop 18 = (b.sec.drop 14).drop 4 by rw [List.drop_drop], (sec_parts b).2, drop_app _ _ 4 (by simp), take_app _ _ _ rfl]
theorem bits_seen {b c : Frm} (okb : b.Ok) (okc : c.Ok) (h18 : (c.sec.getD 13 0) = b.sec.getD 13 0) (hsum : (c.sec.drop 14).take 4 = (b.sec.drop 14).take 4) (F : Nat → Nat) (first : Nat) (hf : first < 8 * (14 + b.data.length))
    (hD : ∀ p, p < 8 * (14 + b.data.length) → (bitAt (msg c.sec b.data.length) p + bitAt (msg b.sec b.data.length) p) % 2 = F p) (h1 : F first = 1) (h2 : ∀ p, p < first → F p = 0) (h3 : ∀ p, first + 32 ≤ p → F p = 0) : False := by
  have hlen : c.data.length = b.data.length := by
    have e1 := fsec_13 okc.2.2.2.2.2.2.2
    have e2 := fsec_13 okb.2.2.2.2.2.2.2
    rw [h18] at e1
    omega
  have hm : msg c.sec b.data.length = c.head ++ c.data := by rw [← hlen]; exact msg_sec c
  have hs : crcSum (c.head ++ c.data) = crcSum (b.head ++ b.data) := by
    rw [sum_sec, sum_sec] at hsum
    have e := congrArg un hsum
    have k1 : crcSum (c.head ++ c.data) < 256 ^ 4 := crcMore_lt 0 _
    have k2 : crcSum (b.head ++ b.data) < 256 ^ 4 := crcMore_lt 0 _
    rw [un_be 4 _ k1, un_be 4 _ k2] at e
    exact e
  rw [hm, msg_sec] at hD
  have lc : (c.head ++ c.data).length = 14 + b.data.length := by rw [List.length_append, Frm.head_length, hlen]
  have lb : (b.head ++ b.data).length = 14 + b.data.length := by rw [List.length_append, Frm.head_length]
  generalize c.head ++ c.data = mc at *
  generalize b.head ++ b.data = mb at *
  have hfold : crcFold 4294967295 mc = crcFold 4294967295 mb := by
    unfold crcSum crcMore at hs
    have a1 := crcFold_lt (l := mc) (r := 4294967295) (by decide)
    have a2 := crcFold_lt (l := mb) (r := 4294967295) (by decide)
    rw [show 4294967295 - 0 = 4294967295 from rfl] at hs
    omega
  have hb2 : ∀ l : List UInt8, ∀ x ∈ bitsOf l, x < 2 := by
    intro l x hx
    unfold bitsOf at hx
    obtain ⟨u, _, hu⟩ := List.mem_flatMap.1 hx
    unfold bitsOfByte at hu
    obtain ⟨i, _, rfl⟩ := List.mem_map.1 hu
    exact Nat.mod_lt _ (by decide)
  have hx := fold_xor (bitsOf mc) (bitsOf mb) 4294967295 4294967295 (by rw [bitsOf_length, bitsOf_length, lc, lb]) (hb2 mc) (hb2 mb)
  rw [← crcFold_bits, ← crcFold_bits, hfold, Nat.xor_self, Nat.xor_self] at hx
  obtain ⟨D, hDd⟩ : ∃ D, List.zipWith (fun a b => (a + b) % 2) (bitsOf mc) (bitsOf mb) = D := ⟨_, rfl⟩
  rw [hDd] at hx
  have lD : D.length = 8 * (14 + b.data.length) := by rw [← hDd, List.length_zipWith, bitsOf_length, bitsOf_length, lc, lb, Nat.min_self]
  have gD : ∀ p (h : p < D.length), D[p] = F p := by
    intro p h
    rw [lD] at h
    rw [← hD p h]
    have hc8 : p / 8 < mc.length := by omega
    have hb8 : p / 8 < mb.length := by omega
    have e : D[p]? = some ((bitAt mc p + bitAt mb p) % 2) := by
      rw [← hDd, List.getElem?_zipWith, List.getElem?_eq_getElem (by rw [bitsOf_length]; omega), List.getElem?_eq_getElem (by rw [bitsOf_length]; omega)]
      rw [bitsOf_get mc p _ hc8, bitsOf_get mb p _ hb8]
      unfold bitAt
      rw [List.getD_eq_getElem?_getD, List.getD_eq_getElem?_getD, List.getElem?_eq_getElem hc8, List.getElem?_eq_getElem hb8]
      rfl
    rw [List.getElem?_eq_getElem (by omega)] at e
    exact Option.some.inj e
  have hfD : first < D.length := by omega
  have p1 : D.take first = List.replicate first 0 := by
    rw [List.eq_replicate_iff]
    refine ⟨by rw [List.length_take]; omega, fun x hx => ?_⟩
    obtain ⟨i, hi, rfl⟩ := List.mem_iff_getElem.1 hx
    rw [List.length_take] at hi
    rw [List.getElem_take, gD]
    exact h2 i (by omega)
  have p2 : D.drop first = 1 :: D.drop (first + 1) := by
    rw [List.drop_eq_getElem_cons hfD, gD, h1]
  have p3 : (D.drop (first + 1)).drop 31 = List.replicate (D.length - (first + 32)) 0 := by
    rw [List.eq_replicate_iff]
    refine ⟨by rw [List.length_drop, List.length_drop]; omega, fun x hx => ?_⟩
    obtain ⟨i, hi, rfl⟩ := List.mem_iff_getElem.1 hx
    rw [List.length_drop, List.length_drop] at hi
    rw [List.getElem_drop, List.getElem_drop, gD]
    exact h3 _ (by omega)
  have p4 : D = List.replicate first 0 ++ (1 :: (D.drop (first + 1)).take 31 ++ List.replicate (D.length - (first + 32)) 0) := by
    rw [← p3, List.cons_append, List.take_append_drop, ← p2, ← p1, List.take_append_drop]
  have hd2 : ∀ d ∈ (D.drop (first + 1)).take 31, d < 2 := by
    intro d hd
    have hd := List.mem_of_mem_drop (List.mem_of_mem_take hd)
    rw [← hDd] at hd
    obtain ⟨i, hi, rfl⟩ := List.mem_iff_getElem.1 hd
    rw [List.getElem_zipWith]
    exact Nat.mod_lt _ (by decide)
  rw [p4] at hx
  exact burst_seen first _ _ hd2 (by rw [List.length_take]; omega) hx.symm
end Go.Proofs.Ytcdpgkefdnmkeaa.Fr
