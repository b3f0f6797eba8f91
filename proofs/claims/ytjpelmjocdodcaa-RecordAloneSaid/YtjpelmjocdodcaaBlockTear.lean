/- A torn sector of a block: the plain part of BlockTorn. -/
import Derived.Test.YtjpelmjocdodcaaBlockDec
namespace Go.Proofs.Ytjpelmjocdodcaa

/-- A sector whose first n bytes are those of x, the others those of y, and whose first w bytes are its last ones, as in x and y. -/
theorem torn_is {x y : List UInt8} {N w n : Nat} (hw : w ≤ N - w) (hN : w ≤ N) (hx : x.length = N) (hy : y.length = N) (hxr : x.take w = x.drop (N - w)) (hyr : y.take w = y.drop (N - w)) (hxy : x.take w ≠ y.take w) (hn : n ≤ N)
    (hs : (x.take n ++ y.drop n).take w = (x.take n ++ y.drop n).drop (N - w)) : x.take n ++ y.drop n = x ∨ x.take n ++ y.drop n = y := by
  have lx : (x.take n).length = n := by rw [List.length_take]; omega
  by_cases h1 : n < w
  · right
    have e1 : (x.take n ++ y.drop n).drop (N - w) = y.take w := by
      rw [List.drop_append, List.drop_of_length_le (by omega), List.nil_append, lx, List.drop_drop, show n + (N - w - n) = N - w by omega, hyr]
    have e2 : (x.take n ++ y.drop n).take n = x.take n := by rw [List.take_append, lx, Nat.sub_self, List.take_zero, List.append_nil, List.take_take, Nat.min_self]
    have e3 := congrArg (List.take n) hs
    rw [List.take_take, Nat.min_eq_left (by omega), e2, e1, List.take_take, Nat.min_eq_left (by omega)] at e3
    rw [e3, List.take_append_drop]
  · have e0 : (x.take n ++ y.drop n).take w = x.take w := by rw [List.take_append, lx, show w - n = 0 by omega, List.take_zero, List.append_nil, List.take_take, Nat.min_eq_left (by omega)]
    by_cases h2 : n ≤ N - w
    · have e1 : (x.take n ++ y.drop n).drop (N - w) = y.take w := by
        rw [List.drop_append, List.drop_of_length_le (by omega), List.nil_append, lx, List.drop_drop, show n + (N - w - n) = N - w by omega, hyr]
      rw [e0, e1] at hs
      exact absurd hs hxy
    · left
      have e3 := congrArg (List.drop (n - (N - w))) hs
      rw [e0, hxr, List.drop_drop, List.drop_drop, show N - w + (n - (N - w)) = n by omega, List.drop_append, List.drop_of_length_le (show (x.take n).length ≤ n by omega), List.nil_append, lx, Nat.sub_self, List.drop_zero] at e3
      rw [← e3, List.take_append_drop]
theorem sec_ends {b : Blk} (h : b.data.length ≤ 36) : b.sec.take 12 = b.sec.drop 68 := by
  have e : b.sec.take 12 = b.head.take 12 := by
    unfold Blk.sec
    rw [List.take_append, Blk.head_length, show 12 - 19 = 0 by omega, List.take_zero, List.append_nil]
  rw [e]
  unfold Blk.sec
  have l : (b.head ++ (be 4 (crcSum (b.head ++ b.data)) ++ (b.data ++ List.replicate (45 - b.data.length) 0))).length = 68 := by simp; omega
  rw [show b.head ++ (be 4 (crcSum (b.head ++ b.data)) ++ (b.data ++ (List.replicate (45 - b.data.length) 0 ++ b.head.take 12))) = (b.head ++ (be 4 (crcSum (b.head ++ b.data)) ++ (b.data ++ List.replicate (45 - b.data.length) 0))) ++ b.head.take 12 by simp]
  rw [drop_app _ _ _ l]
theorem name_of {b : Blk} (ok : b.Ok) : b.life = un ((b.sec.take 12).take 4) ∧ b.boot = un (((b.sec.take 12).take 8).drop 4) ∧ b.n = un ((b.sec.take 12).drop 8) := by
  have h := fieldsOf_sec ok
  rw [List.take_take, List.take_take, show min 4 12 = 4 from rfl, show min 8 12 = 8 from rfl]
  exact ⟨(congrArg Blk.life h).symm, (congrArg Blk.boot h).symm, (congrArg Blk.n h).symm⟩
theorem un_zeros : ∀ k, un (List.replicate k 0) = 0
  | 0 => rfl
  | k + 1 => by
    rw [List.replicate_succ', un_snoc, un_zeros k]
    rfl
theorem decodeOf_zeros : decodeOf (List.replicate 80 0) = none := by
  cases h : decodeOf (List.replicate 80 0) with
  | none => rfl
  | some b =>
    obtain ⟨ok, hs⟩ := decodeOf_some h
    have := (name_of ok).2.1
    rw [hs, List.take_replicate, List.take_replicate, List.drop_replicate, un_zeros] at this
    have := ok.2.1
    omega
/-- What a torn sector is, if it is that of a block. -/
theorem torn_blocks {a b : Blk} (ha : a.Ok) (hb : b.Ok) (hd : ¬ (a.life = b.life ∧ a.boot = b.boot ∧ a.n = b.n)) {n : Nat} (hn : n ≤ 80) (h1 : a.sec.take n ++ b.sec.drop n ≠ a.sec) (h2 : a.sec.take n ++ b.sec.drop n ≠ b.sec) :
    decodeOf (a.sec.take n ++ b.sec.drop n) = none := by
  cases h : decodeOf (a.sec.take n ++ b.sec.drop n) with
  | none => rfl
  | some c =>
    obtain ⟨ok, hs⟩ := decodeOf_some h
    have hc := sec_ends ok.2.2.2.2.2.2
    rw [hs] at hc
    rcases torn_is (N := 80) (w := 12) (by omega) (by omega) (a.sec_length ha.2.2.2.2.2.2) (b.sec_length hb.2.2.2.2.2.2) (sec_ends ha.2.2.2.2.2.2) (sec_ends hb.2.2.2.2.2.2) (fun e => hd (by
      obtain ⟨a1, a2, a3⟩ := name_of ha
      obtain ⟨b1, b2, b3⟩ := name_of hb
      rw [e] at a1 a2 a3
      exact ⟨by omega, by omega, by omega⟩)) hn hc with h | h
    · exact absurd h h1
    · exact absurd h h2
theorem torn_blank {a : Blk} (ha : a.Ok) {n : Nat} (hn : n ≤ 80) (h1 : a.sec.take n ++ (List.replicate 80 0).drop n ≠ a.sec) : decodeOf (a.sec.take n ++ (List.replicate 80 0).drop n) = none := by
  cases h : decodeOf (a.sec.take n ++ (List.replicate 80 0).drop n) with
  | none => rfl
  | some c =>
    obtain ⟨ok, hs⟩ := decodeOf_some h
    have hc := sec_ends ok.2.2.2.2.2.2
    rw [hs] at hc
    rcases torn_is (N := 80) (w := 12) (by omega) (by omega) (a.sec_length ha.2.2.2.2.2.2) (List.length_replicate) (sec_ends ha.2.2.2.2.2.2) (by rw [List.take_replicate, List.drop_replicate]; rfl) (fun e => by
      have a2 := (name_of ha).2.1
      rw [e, List.take_replicate, List.take_replicate, List.drop_replicate, un_zeros] at a2
      have := ha.2.1
      omega) hn hc with h3 | h3
    · exact absurd h3 h1
    · rw [h3, decodeOf_zeros] at h
      cases h
end Go.Proofs.Ytjpelmjocdodcaa
