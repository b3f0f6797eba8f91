/- A header's sector with one byte changed is that of no header. -/
import Derived.Test.YtgnhpbolmfbngaaOnePure
import Derived.Test.YtgnhpbolmfbngaaBurst
namespace Go.Proofs.Ytgnhpbolmfbngaa

theorem zip_same : ∀ (xs : List Nat), (List.zipWith (fun a b => (a + b) % 2) xs xs) = List.replicate xs.length 0
  | [] => rfl
  | x :: xs => by
    rw [List.zipWith_cons_cons, zip_same xs, List.length_cons, List.replicate_succ, show (x + x) % 2 = 0 by omega]
theorem zip_zero : ∀ (xs ys : List Nat), xs.length = ys.length → (∀ x ∈ xs, x < 2) → (∀ y ∈ ys, y < 2) → lenum (List.zipWith (fun a b => (a + b) % 2) xs ys) = 0 → xs = ys
  | [], [], _, _, _, _ => rfl
  | x :: xs, y :: ys, h, hx, hy, h0 => by
    rw [List.zipWith_cons_cons] at h0
    unfold lenum at h0
    have h1 := hx x (.head _)
    have h2 := hy y (.head _)
    have e : x = y := by omega
    rw [e, zip_zero xs ys (by simpa using h) (fun z hz => hx z (.tail _ hz)) (fun z hz => hy z (.tail _ hz)) (by omega)]
  | [], _ :: _, h, _, _, _ => by simp at h
  | _ :: _, [], h, _, _, _ => by simp at h
theorem bits_lt {c b : Nat} (h : b ∈ bitsOfByte c) : b < 2 := by
  unfold bitsOfByte at h
  obtain ⟨i, _, rfl⟩ := List.mem_map.1 h
  exact Nat.mod_lt _ (by decide)
theorem bitsOf_lt {l : List UInt8} {b : Nat} (h : b ∈ bitsOf l) : b < 2 := by
  unfold bitsOf at h
  obtain ⟨x, _, hx⟩ := List.mem_flatMap.1 h
  exact bits_lt hx
theorem bits_back : ∀ c, c < 256 → lenum (bitsOfByte c) = c := by decide +kernel
theorem xor_zero {a b : Nat} (h : a ^^^ b = 0) : a = b := by
  have h1 : (a ^^^ b) ^^^ b = b := by rw [h, Nat.zero_xor]
  rw [Nat.xor_assoc, Nat.xor_self, Nat.xor_zero] at h1
  exact h1
theorem crcFold_app (r : Nat) (a b : List UInt8) : crcFold r (a ++ b) = crcFold (crcFold r a) b := by unfold crcFold; rw [List.foldl_append]
theorem fold_inj {X Y : Nat} (hX : X < 4294967296) (hY : Y < 4294967296) (l : List UInt8) (h : crcFold X l = crcFold Y l) : X = Y := by
  rw [crcFold_bits, crcFold_bits] at h
  have h1 := fold_xor (bitsOf l) (bitsOf l) X Y rfl (fun _ => bitsOf_lt) (fun _ => bitsOf_lt)
  rw [h, Nat.xor_self, zip_same] at h1
  exact xor_zero (crc_zeros_to _ _ (xor_lt32 hX hY) h1.symm)
theorem zip_lt : ∀ (xs ys : List Nat), ∀ d ∈ List.zipWith (fun a b => (a + b) % 2) xs ys, d < 2
  | [], _, d, h => by simp at h
  | _ :: _, [], d, h => by simp at h
  | x :: xs, y :: ys, d, h => by
    rw [List.zipWith_cons_cons] at h
    rcases List.mem_cons.1 h with rfl | h
    · exact Nat.mod_lt _ (by decide)
    · exact zip_lt xs ys d h
theorem byte_inj {s : Nat} {x y : UInt8} (h : crcByte s x.toNat = crcByte s y.toNat) : x = y := by
  rw [crcByte_fold, crcByte_fold] at h
  have h1 := fold_xor (bitsOfByte x.toNat) (bitsOfByte y.toNat) s s (by simp [bitsOfByte]) (fun _ => bits_lt) (fun _ => bits_lt)
  rw [h, Nat.xor_self, Nat.xor_self] at h1
  have h2 := crc_back _ 0 0 (by decide) (zip_lt _ _) (by simp [bitsOfByte]) h1.symm (Nat.two_pow_pos _)
  have h3 : lenum (List.zipWith (fun a b => (a + b) % 2) (bitsOfByte x.toNat) (bitsOfByte y.toNat)) = 0 := by omega
  have h4 := zip_zero _ _ (by simp [bitsOfByte]) (fun _ => bits_lt) (fun _ => bits_lt) h3
  have h5 := congrArg lenum h4
  rw [bits_back _ x.toNat_lt, bits_back _ y.toNat_lt] at h5
  exact UInt8.toNat_inj.1 h5
theorem crc_one {a r : List UInt8} {x y : UInt8} (h : crcSum (a ++ x :: r) = crcSum (a ++ y :: r)) : x = y := by
  have e : ∀ l : List UInt8, crcFold 4294967295 l = 4294967295 - crcSum l := fun l => by
    have := crcFold_lt (l := l) (r := 4294967295) (by decide)
    show _ = 4294967295 - (4294967295 - crcFold (4294967295 - 0) l)
    rw [Nat.sub_zero]
    omega
  have h1 : crcFold 4294967295 (a ++ x :: r) = crcFold 4294967295 (a ++ y :: r) := by rw [e, e, h]
  rw [crcFold_app, crcFold_app] at h1
  have hs := crcFold_lt (l := a) (r := 4294967295) (by decide)
  have hb : ∀ z : UInt8, crcByte (crcFold 4294967295 a) z.toNat < 4294967296 := fun z => crcFold_lt (l := [z]) hs
  exact byte_inj (fold_inj (hb x) (hb y) r h1)
theorem sec_of_head {a b : Hd} (h : a.head = b.head) : a.sec = b.sec := by unfold Hd.sec; rw [h]
theorem Hd.sec_head (b : Hd) : b.sec.take 19 = b.head := take_app _ _ _ b.head_length
theorem Hd.sec_sum (b : Hd) : (b.sec.drop 19).take 4 = be 4 (crcSum b.head) := by
  unfold Hd.sec
  rw [drop_app _ _ _ b.head_length, take_app _ _ _ (by simp)]
theorem hurt_none (N : Hd) {j : Nat} (hj : j < 80) {v : UInt8} (hv : ¬ v = N.sec.getD j 0) : hdecodeOf (N.sec.set j v) = none := by
  cases hd : hdecodeOf (N.sec.set j v) with
  | none => rfl
  | some h =>
    exfalso
    obtain ⟨ok, hs⟩ := hdecodeOf_some hd
    have hN := N.sec_length
    have h19 : h.head = (N.sec.set j v).take 19 := by rw [← hs, h.sec_head]
    by_cases hj19 : j < 19
    · have hl := N.head_length
      rw [List.take_set, N.sec_head] at h19
      have hsum : be 4 (crcSum h.head) = be 4 (crcSum N.head) := by
        rw [← h.sec_sum, ← N.sec_sum, hs, List.drop_set_of_lt (by omega)]
      have hc := congrArg un hsum
      rw [un_be _ _ (crcMore_lt 0 _), un_be _ _ (crcMore_lt 0 _)] at hc
      have e1 : N.head.set j v = N.head.take j ++ v :: N.head.drop (j + 1) := by
        rw [List.set_eq_take_append_cons_drop, if_pos (by omega)]
      have e2 : N.head = N.head.take j ++ N.head[j] :: N.head.drop (j + 1) := by
        have h := List.take_append_drop j N.head
        rw [List.drop_eq_getElem_cons (show j < N.head.length by omega)] at h
        exact h.symm
      have hx : v = N.head[j] := by
        apply crc_one (a := N.head.take j) (r := N.head.drop (j + 1))
        rw [← e1, ← e2, ← h19]
        exact hc
      apply hv
      have e3 : N.sec.getD j 0 = N.head[j] := by
        rw [List.getD_eq_getElem?_getD]
        unfold Hd.sec
        rw [List.getElem?_append_left (by omega), List.getElem?_eq_getElem (by omega)]
        rfl
      rw [e3]
      exact hx
    · rw [List.take_set_of_le (by omega), N.sec_head] at h19
      have h2 := sec_of_head h19
      rw [hs] at h2
      apply hv
      have h3 := congrArg (fun l => l.getD j 0) h2
      simp only [List.getD_eq_getElem?_getD] at h3
      rw [List.getElem?_set_self (by omega)] at h3
      rw [List.getD_eq_getElem?_getD]
      exact h3
/-- The i-th header of SlotsHurt. -/
def hurtN (i : Nat) : Hd := ⟨i, i + 3, i % 2, 5 * i, i⟩
theorem hurtN_ok {i : Nat} (h1 : 1 ≤ i) (h2 : i ≤ 30) : (hurtN i).Ok := by
  unfold hurtN Hd.Ok
  dsimp only
  omega
structure HurtInv (D : Dk) (i : Nat) : Prop where
  base : i = 0 → D = Dk.new 2
  one : 1 ≤ i → OneInv D (hurtN i)
  prev : 2 ≤ i → secAt D.S ((i + 1) % 2) = (hurtN (i - 1)).sec
theorem HurtInv.len {D : Dk} {i : Nat} (h : HurtInv D i) : D.S.length = 2 ∧ D.P = [] := by
  by_cases h0 : i = 0
  · rw [h.base h0]
    exact ⟨rfl, rfl⟩
  · exact ⟨(h.one (by omega)).len, (h.one (by omega)).emp⟩
theorem HurtInv.step {D : Dk} {i : Nat} (h : HurtInv D i) (hi : i ≤ 25) : HurtInv (D.write ((i + 1) % 2) (hurtN (i + 1)).sec).sync (i + 1) := by
  have hsy : (D.write ((i + 1) % 2) (hurtN (i + 1)).sec).sync = ⟨D.S.set ((i + 1) % 2) (hurtN (i + 1)).sec, [], D.full⟩ := by
    unfold Dk.sync Dk.write
    rw [h.len.2]
    rfl
  by_cases h0 : i = 0
  · subst h0
    rw [h.base rfl]
    exact ⟨fun e => by omega, fun _ => ⟨rfl, rfl, by decide, rfl, rfl, rfl, by decide⟩, fun e => by omega⟩
  · have hO := h.one (by omega)
    have hp := hO.put (X := hurtN (i + 1)) (hurtN_ok (by omega) (by omega)) rfl (by show i ≤ 31; omega) D.full
    rw [hsy]
    refine ⟨fun e => by omega, fun _ => hp, fun _ => ?_⟩
    have hl := hO.len
    show secAt (D.S.set ((i + 1) % 2) _) ((i + 1 + 1) % 2) = _
    rw [secAt_set _ _ _ _ (by omega), if_neg (by omega), show (i + 1 + 1) % 2 = i % 2 by omega, Nat.add_sub_cancel]
    exact hO.mine
theorem HurtInv.hurt {D : Dk} {n : Nat} (h : HurtInv D n) (h2 : 2 ≤ n) (h20 : n ≤ 25) {j : Nat} (hj : j < 80) {v : UInt8} (hv : ¬ v = (hurtN n).sec.getD j 0) : loadVal (D.write (n % 2) ((hurtN n).sec.set j v)) = .tuple #[(hurtN (n - 1)).val, .int .i64 0] := by
  have hO := h.one (by omega)
  have hP : (D.write (n % 2) ((hurtN n).sec.set j v)).P = [(n % 2, (hurtN n).sec.set j v)] := by unfold Dk.write; rw [hO.emp]; rfl
  have r1 : (D.write (n % 2) ((hurtN n).sec.set j v)).read (n % 2) = (hurtN n).sec.set j v := by
    unfold Dk.read
    rw [hP]
    exact if_pos rfl
  have r2 : (D.write (n % 2) ((hurtN n).sec.set j v)).read ((n + 1) % 2) = (hurtN (n - 1)).sec := by
    unfold Dk.read
    rw [hP]
    exact (if_neg (by omega)).trans (h.prev h2)
  have a1 : hdAt (D.write (n % 2) ((hurtN n).sec.set j v)) (n % 2) = none := hdAt_none (by rw [r1]; exact hurt_none _ hj hv)
  have a2 : hdAt (D.write (n % 2) ((hurtN n).sec.set j v)) ((n + 1) % 2) = some (hurtN (n - 1)) := hdAt_some r2 (hurtN_ok (by omega) (by omega)) (by show (n - 1) % 2 = _; omega)
  clear r1 r2 hP
  obtain ⟨D2, hD2⟩ : ∃ D2, D.write (n % 2) ((hurtN n).sec.set j v) = D2 := ⟨_, rfl⟩
  rw [hD2] at a1 a2 ⊢
  have hn : newest D2 = some (hurtN (n - 1)) := by
    unfold newest
    rcases Nat.mod_two_eq_zero_or_one n with e | e
    · rw [e] at a1
      rw [show (n + 1) % 2 = 1 by omega] at a2
      rw [a1, a2, if_pos (by show 0 < n - 1; omega)]
    · rw [e] at a1
      rw [show (n + 1) % 2 = 0 by omega] at a2
      rw [a1, a2, if_neg (by show ¬ n - 1 < 0; omega)]
  unfold loadVal
  rw [hn, if_neg (by show ¬ n - 1 = 0; omega)]
  rfl
end Go.Proofs.Ytgnhpbolmfbngaa
