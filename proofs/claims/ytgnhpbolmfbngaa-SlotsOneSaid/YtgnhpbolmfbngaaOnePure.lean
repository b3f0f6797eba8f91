/- What a disk of two slots holds while one header after another is saved. -/
import Derived.Test.YtgnhpbolmfbngaaKnown07
namespace Go.Proofs.Ytgnhpbolmfbngaa

structure OneInv (D : Dk) (N : Hd) : Prop where
  len : D.S.length = 2
  emp : D.P = []
  ok : N.Ok
  mine : secAt D.S (N.seq % 2) = N.sec
  l80 : (secAt D.S ((N.seq + 1) % 2)).length = 80
  tail : (secAt D.S ((N.seq + 1) % 2)).drop 74 = be 6 (N.seq - 1)
  small : N.seq ≤ 32
theorem read_emp {D : Dk} (h : D.P = []) (i : Nat) : D.read i = secAt D.S i := by
  unfold Dk.read
  rw [h]
  rfl
theorem Hd.sec_tail (b : Hd) : b.sec.drop 74 = be 6 b.seq := by
  have h : b.head.take 6 = be 6 b.seq := take_app _ _ _ (by simp)
  unfold Hd.sec
  rw [show b.head ++ (be 4 (crcSum b.head) ++ (List.replicate 51 0 ++ b.head.take 6)) = (b.head ++ (be 4 (crcSum b.head) ++ List.replicate 51 0)) ++ b.head.take 6 by simp, h]
  exact drop_app _ _ _ (by simp)
/-- A header of the other slot is the one before. -/
theorem OneInv.other {D : Dk} {N : Hd} (h : OneInv D N) : hdSeq (hdAt D ((N.seq + 1) % 2)) ≤ N.seq - 1 := by
  unfold hdAt
  rw [read_emp h.emp]
  cases hd : hdecodeOf (secAt D.S ((N.seq + 1) % 2)) with
  | none => exact Nat.zero_le _
  | some x =>
    obtain ⟨xok, xs⟩ := hdecodeOf_some hd
    have ht := x.sec_tail
    rw [xs, h.tail] at ht
    have h1 := congrArg un ht
    have h2 := h.small
    have h3 := xok.2.1
    rw [un_be _ _ (by omega), un_be _ _ (by omega)] at h1
    dsimp only
    split
    · show x.seq ≤ _
      omega
    · exact Nat.zero_le _
theorem OneInv.load {D : Dk} {N : Hd} (h : OneInv D N) : loadVal D = .tuple #[N.val, .int .i64 0] := by
  have hm : hdAt D (N.seq % 2) = some N := hdAt_some (by rw [read_emp h.emp, h.mine]) h.ok rfl
  have ho := h.other
  have h1 := h.ok.1
  have hn : newest D = some N := by
    unfold newest
    rcases Nat.mod_two_eq_zero_or_one N.seq with e | e
    · rw [e] at hm
      rw [show (N.seq + 1) % 2 = 1 by omega] at ho
      rw [hm, if_neg (by show ¬ N.seq < _; omega)]
    · rw [e] at hm
      rw [show (N.seq + 1) % 2 = 0 by omega] at ho
      rw [hm, if_pos (by show _ < N.seq; omega)]
  unfold loadVal
  rw [hn, if_neg (by show ¬ N.seq = 0; omega)]
  rfl
theorem be6_take (s k : Nat) (hs : s < 256) (hk : k ≤ 5) : (be 6 s).take k = be k 0 := by
  rw [be_take 6 s k (by omega)]
  congr 1
  apply Nat.div_eq_of_lt
  have : 256 ^ 1 ≤ 256 ^ (6 - k) := Nat.pow_le_pow_right (by omega) (by omega)
  omega
/-- The other slot is written. -/
theorem OneInv.put {D : Dk} {N X : Hd} (h : OneInv D N) (hX : X.Ok) (hs : X.seq = N.seq + 1) (h31 : N.seq ≤ 31) (f : Bool) : OneInv ⟨D.S.set (X.seq % 2) X.sec, [], f⟩ X := by
  have e1 : X.seq % 2 = (N.seq + 1) % 2 := by rw [hs]
  have e2 : (X.seq + 1) % 2 = N.seq % 2 := by rw [hs]; omega
  have hl := h.len
  have hn : secAt (D.S.set (X.seq % 2) X.sec) (N.seq % 2) = N.sec := by
    rw [secAt_set _ _ _ _ (by omega), if_neg (by omega)]
    exact h.mine
  refine ⟨by rw [List.length_set]; exact hl, rfl, hX, ?_, ?_, ?_, by omega⟩
  · show secAt (D.S.set (X.seq % 2) X.sec) (X.seq % 2) = X.sec
    rw [secAt_set _ _ _ _ (by omega), if_pos rfl]
  · show (secAt (D.S.set (X.seq % 2) X.sec) ((X.seq + 1) % 2)).length = 80
    rw [e2, hn]
    exact N.sec_length
  · show (secAt (D.S.set (X.seq % 2) X.sec) ((X.seq + 1) % 2)).drop 74 = _
    rw [e2, hn, N.sec_tail, hs, Nat.add_sub_cancel]
/-- The other slot is torn. -/
theorem OneInv.torn {D : Dk} {N X : Hd} (h : OneInv D N) (hs : X.seq = N.seq + 1) (h31 : N.seq ≤ 31) (f : Bool) {n : Nat} (hn : n < 80) :
    OneInv ⟨D.S.set (X.seq % 2) (X.sec.take n ++ (secAt D.S (X.seq % 2)).drop n), [], f⟩ N := by
  have e1 : X.seq % 2 = (N.seq + 1) % 2 := by rw [hs]
  have hl := h.len
  have hx := X.sec_length
  have h80 := h.l80
  have h1 := h.ok.1
  have hl80 : (X.sec.take n ++ (secAt D.S ((N.seq + 1) % 2)).drop n).length = 80 := by rw [List.length_append, List.length_take, List.length_drop]; omega
  rw [e1]
  refine ⟨by rw [List.length_set]; exact hl, rfl, h.ok, ?_, ?_, ?_, h.small⟩
  · show secAt (D.S.set ((N.seq + 1) % 2) _) (N.seq % 2) = N.sec
    rw [secAt_set _ _ _ _ (by omega), if_neg (by omega)]
    exact h.mine
  · show (secAt (D.S.set ((N.seq + 1) % 2) _) ((N.seq + 1) % 2)).length = 80
    rw [secAt_set _ _ _ _ (by omega), if_pos rfl]
    exact hl80
  · show (secAt (D.S.set ((N.seq + 1) % 2) _) ((N.seq + 1) % 2)).drop 74 = be 6 (N.seq - 1)
    rw [secAt_set _ _ _ _ (by omega), if_pos rfl]
    by_cases h74 : n ≤ 74
    · rw [List.drop_append, List.drop_eq_nil_of_le (by rw [List.length_take]; omega), List.nil_append, List.drop_drop, List.length_take]
      rw [show n + (74 - min n X.sec.length) = 74 by omega]
      exact h.tail
    · have t1 : (X.sec.take n).drop 74 = (be 6 X.seq).take (n - 74) := by
        rw [← X.sec_tail, List.take_drop]
        congr 2
        omega
      have t2 : (secAt D.S ((N.seq + 1) % 2)).drop n = (be 6 (N.seq - 1)).drop (n - 74) := by
        rw [← h.tail, List.drop_drop]
        congr 1
        omega
      rw [List.drop_append, t1, List.length_take, show 74 - min n X.sec.length = 0 by omega, List.drop_zero, t2, be6_take _ _ (by omega) (by omega), ← be6_take (N.seq - 1) _ (by omega) (by omega)]
      exact List.take_append_drop _ _
/-- One try: what Save returns, and what is there behind the crash. -/
theorem OneInv.step {D : Dk} {N X : Hd} (h : OneInv D N) (hX : X.Ok) (hs : X.seq = N.seq + 1) (h31 : N.seq ≤ 31) {k : Nat} (hk : k < 3) (keep torn bytes : Int) :
    ∃ (es : Int) (D2 : Dk) (z2 : Fz) (R : Hd), saveD D (.armed k) X = (es, D2, z2) ∧ (es = if k = 2 then 0 else 10) ∧ OneInv (D2.crash keep torn bytes) R ∧ ((R = N ∧ k ≠ 2) ∨ (R = X ∧ k ≠ 0)) ∧ secAt (D2.crash keep torn bytes).S (N.seq % 2) = N.sec := by
  have hl := h.len
  have hput := h.put hX hs h31 D.full
  have hnm : secAt (D.S.set (X.seq % 2) X.sec) (N.seq % 2) = N.sec := by
    rw [secAt_set _ _ _ _ (by omega), if_neg (by omega)]
    exact h.mine
  rcases (show k = 0 ∨ k = 1 ∨ k = 2 by omega) with rfl | rfl | rfl
  · refine ⟨10, D, .blown, N, rfl, rfl, ?_, .inl ⟨rfl, by decide⟩, ?_⟩
    · rw [crash_none h.emp]; exact h
    · rw [crash_none h.emp]; exact h.mine
  · have hP : (D.write (X.seq % 2) X.sec).P = [(X.seq % 2, X.sec)] := by unfold Dk.write; rw [h.emp]; rfl
    have hc : (D.write (X.seq % 2) X.sec).crash keep torn bytes = ⟨tearAt keep torn (tearN bytes) 0 (X.seq % 2, X.sec) D.S, [], D.full⟩ := by
      unfold Dk.crash
      rw [hP]
      rfl
    have hk2 : saveD D (.armed 1) X = (10, D.write (X.seq % 2) X.sec, .blown) := rfl
    by_cases ht : ((0 : Nat) : Int) = torn
    · have e : tearAt keep torn (tearN bytes) 0 (X.seq % 2, X.sec) D.S = D.S.set (X.seq % 2) (X.sec.take (tearN bytes) ++ (secAt D.S (X.seq % 2)).drop (tearN bytes)) := if_pos ht
      have hT := h.torn (X := X) hs h31 D.full (tearN_lt bytes)
      exact ⟨10, _, .blown, N, hk2, rfl, by rw [hc, e]; exact hT, .inl ⟨rfl, by decide⟩, by rw [hc, e]; exact hT.mine⟩
    · by_cases hb : keepB keep 0 = true
      · have e : tearAt keep torn (tearN bytes) 0 (X.seq % 2, X.sec) D.S = D.S.set (X.seq % 2) X.sec := by
          unfold tearAt
          rw [if_neg ht, if_pos hb]
        exact ⟨10, _, .blown, X, hk2, rfl, by rw [hc, e]; exact hput, .inr ⟨rfl, by decide⟩, by rw [hc, e]; exact hnm⟩
      · have e : tearAt keep torn (tearN bytes) 0 (X.seq % 2, X.sec) D.S = D.S := by
          unfold tearAt
          rw [if_neg ht, if_neg hb]
        exact ⟨10, _, .blown, N, hk2, rfl, by rw [hc, e]; exact ⟨h.len, rfl, h.ok, h.mine, h.l80, h.tail, h.small⟩, .inl ⟨rfl, by decide⟩, by rw [hc, e]; exact h.mine⟩
  · have hk2 : saveD D (.armed 2) X = (0, (D.write (X.seq % 2) X.sec).sync, .armed 0) := rfl
    have hsy : (D.write (X.seq % 2) X.sec).sync = ⟨D.S.set (X.seq % 2) X.sec, [], D.full⟩ := by
      unfold Dk.sync Dk.write
      rw [h.emp]
      rfl
    exact ⟨0, _, .armed 0, X, hk2, rfl, by rw [crash_none rfl, hsy]; exact hput, .inr ⟨rfl, by decide⟩, by rw [crash_none rfl, hsy]; exact hnm⟩
theorem OneInv.start : OneInv ((Dk.new 2).write 1 (⟨1, 1, 0, 1, 0⟩ : Hd).sec).sync ⟨1, 1, 0, 1, 0⟩ :=
  ⟨rfl, rfl, by decide, rfl, rfl, rfl, by decide⟩
end Go.Proofs.Ytgnhpbolmfbngaa
