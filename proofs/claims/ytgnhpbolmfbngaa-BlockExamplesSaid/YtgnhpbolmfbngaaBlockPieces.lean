/- BlockPieces. -/
import Derived.Test.YtgnhpbolmfbngaaSplitAll
import Derived.Test.YtgnhpbolmfbngaaKnown24
namespace Go.Proofs.Ytgnhpbolmfbngaa
open Go.RowKit Go.ChangeMaps

theorem wrap64_in {x : Int} (h0 : -9223372036854775808 ≤ x) (h1 : x < 9223372036854775808) : wrap64 x = x := by
  unfold wrap64
  omega
theorem pieces_take (t : List UInt8) (i : Nat) : t.take (36 * i) ++ pieceAt t i = t.take (36 * (i + 1)) := by
  have h := List.take_append_drop (36 * i) (t.take (36 * i + 36))
  rw [List.take_take, Nat.min_eq_left (by omega)] at h
  exact h
theorem pieceAt_length (t : List UInt8) (i : Nat) : (pieceAt t i).length = min (36 * i + 36) t.length - 36 * i := by unfold pieceAt; rw [List.length_drop, List.length_take]
theorem small_ok {life boot n off : Int} {t : List UInt8} {k : Nat} (h1 : 0 ≤ life ∧ life < 65536) (h2 : 1 ≤ boot ∧ boot ≤ 65536) (h3 : 0 ≤ n ∧ n < 65536) (h4 : 0 ≤ off ∧ off < 4294967296) (hk : k < npieces t) (ht : t.length ≤ 256) : (splitB life boot n off t k).err = 0 := by
  unfold npieces at hk
  have hk8 : k ≤ 7 := by omega
  have hd := pieceAt_length t k
  have e1 : wrap64 (n + (k : Int)) = n + k := wrap64_in (by omega) (by omega)
  have e2 : wrap64 (off + ((36 * k : Nat) : Int)) = off + 36 * k := wrap64_in (by omega) (by omega)
  unfold IB.err splitB
  dsimp only
  rw [e1, e2]
  unfold encOf
  rw [if_neg (by omega), if_pos (by omega)]
set_option maxRecDepth 100000 in
set_option maxHeartbeats 8000000 in
theorem blockPieces_any (life boot n off : Nat) (h1 : life < 65536) (h2 : boot < 65536) (h3 : n < 65536) (h4 : off < 4294967296) (a : ByteArray) (w : World) :
    Calls Try.prog 5 #[.int .u16 life, .int .u16 boot, .int .u16 n, .int .u32 off, .string a] w fun e w' => e = .returned (.bool true) ∧ Below w.heap.size w w' := by
  obtain ⟨t, rfl⟩ : ∃ t, a = S t := ⟨a.data.toList, (S_of a).symm⟩
  by_cases hl : 256 < t.length
  · have hl' : (256 : Int) < (t.length : Int) := by omega
    go_enter Try.func5, Try.ntmps5
    go_wp2_with (go_at_call 12; refine (known24_any _).mono ?_; rintro e5 we ⟨rfl, b5⟩)
    go_ret
    exact ⟨rfl, b5⟩
  have hl' : ¬ (256 : Int) < (t.length : Int) := by omega
  have ht : t.length ≤ 256 := by omega
  go_enter Try.func5, Try.ntmps5
  go_wp2_with (fail)
  refine (split_any (life : Int) ((boot : Int) + 1) (n : Int) (off : Int) t ht w).mono ?_
  rintro e w1 (⟨v, -, rfl, hr, hb, -⟩ | ⟨⟨k, hk, he⟩, -, -⟩)
  case inr =>
    rw [small_ok (by omega) (by omega) (by omega) (by omega) hk ht] at he
    cases he
  obtain ⟨K, hK⟩ : ∃ K, npieces t = K := ⟨_, rfl⟩
  rw [hK] at hr
  have hK8 : K ≤ 8 := by rw [← hK]; unfold npieces; omega
  have HK : Hid (36 * K ≤ t.length + 35 ∧ t.length ≤ 36 * K) := by unfold Hid; rw [← hK]; unfold npieces; omega
  obtain ⟨A, cap, rfl⟩ := ownsRow_is hr
  have HR := Lib.hid hr
  have HB1 := Lib.hid hb
  have hKi : (K : Int) ≤ 8 := by omega
  clear hr hb hK
  go_wp2_with (fail)
  go_loopw [13, 14, 15] (fun v13 v14 _ wr => ∃ i : Nat, i ≤ K ∧ v14 = .int .i64 i ∧ v13 = .string (S (t.take (36 * i))) ∧ Hid (Below w1.heap.size w1 wr)) (fun _ v14 _ _ => K - (intOf v14).toNat)
  case atStart => exact ⟨0, Nat.zero_le _, rfl, rfl, .refl _ _⟩
  case round =>
    obtain ⟨i, hi, rfl, rfl, hB2⟩ := hrel
    by_cases hlt : i < K
    · have hR2 := row_keeps (S := fun _ => False) HR.out (.of_below hB2.out) (fun _ _ => id)
      obtain ⟨g, cap2, hv, z0, z0', z1, z2, z3, z4⟩ := irow_at hR2 (splitL_at (life : Int) ((boot : Int) + 1) (n : Int) (off : Int) t hlt)
      obtain ⟨rfl, -, rfl⟩ : A = some ⟨g, 0, none⟩ ∧ K = K ∧ cap = cap2 := by injection hv with a b c; exact ⟨a, rfl, c⟩
      unfold splitB at z0 z0' z1 z2 z3 z4
      dsimp only at z0 z0' z1 z2 z3 z4
      have hik : i ≤ 7 := by omega
      rw [wrap64_in (by omega) (by omega)] at z2
      rw [wrap64_in (by omega) (by omega)] at z3
      have hTT := pieces_take t i
      have hPL := pieceAt_length t i
      have hWL : (t.take (36 * i)).length = 36 * i := by rw [List.length_take]; have := HK.out; omega
      obtain ⟨Wl, hW⟩ : ∃ Wl, t.take (36 * i) = Wl := ⟨_, rfl⟩
      obtain ⟨P, hP⟩ : ∃ P, pieceAt t i = P := ⟨_, rfl⟩
      rw [hW, hP] at hTT
      rw [hW] at hWL
      rw [hP] at hPL z4
      rw [hW]
      have hp1 : 1 ≤ P.length := by have := HK.out; omega
      have hp36 : P.length ≤ 36 := by omega
      have hpf : i + 1 < K → P.length = 36 := fun h => by have := HK.out; omega
      have HTT := Lib.hid hTT
      have hwli : (Wl.length : Int) = 36 * (i : Int) := by omega
      have z3' : wr.cell? ⟨g, i * 5 + 3, none⟩ = some (.int .i64 ((off : Int) + 36 * (i : Int))) := z3
      clear hR2 hv hTT hPL hW hP hWL z3
      by_cases hlast : i + 1 < K
      · have hpl : (P.length : Int) = 36 := by have := hpf hlast; omega
        have hla : (i : Int) < (K : Int) - 1 := by omega
        clear hpf
        have HB3 := Lib.hid (below_step (alloc_below wr (.cells #[.int .i64 ↑life, .int .i64 (↑boot + 1), .int .i64 (↑n + ↑i), .int .i64 (↑off + 36 * ↑i), .string (S P)] 31)) hB2.out (Nat.le_refl _))
        go_wp2_with (fail)
        go_roundw
        case rel => exact ⟨i + 1, by omega, by go_num, by rw [← HTT.out], HB3⟩
        case measure => simp [intOf]; omega
      · have hla : ¬ (i : Int) < (K : Int) - 1 := by omega
        clear hpf
        have HB3 := Lib.hid (below_step (alloc_below wr (.cells #[.int .i64 ↑life, .int .i64 (↑boot + 1), .int .i64 (↑n + ↑i), .int .i64 (↑off + 36 * ↑i), .string (S P)] 31)) hB2.out (Nat.le_refl _))
        go_wp2_with (fail)
        go_roundw
        case rel => exact ⟨i + 1, by omega, by go_num, by rw [← HTT.out], HB3⟩
        case measure => simp [intOf]; omega
    · obtain rfl : K = i := by omega
      have hT : t.take (36 * K) = t := List.take_of_length_le (by have := HK.out; omega)
      rw [hT]
      have HB2 := Lib.hid (below_step hB2.out HB1.out (Nat.le_refl _))
      clear hT hB2
      go_wp2_with (go_at_call 12; refine (known24_any _).mono ?_; rintro e5 we ⟨rfl, b5⟩)
      go_ret
      exact ⟨rfl, below_step b5 HB2.out (Nat.le_refl _)⟩
theorem blockPieces_row (a0 a1 a2 a3 : Int) (a4 : ByteArray) (W : World) (w0 : (Lit.int .u16 a0).wf = true) (w1 : (Lit.int .u16 a1).wf = true) (w2 : (Lit.int .u16 a2).wf = true) (w3 : (Lit.int .u32 a3).wf = true) (_w4 : a4.size ≤ 140737488351232) :
    Calls Try.prog 5 #[.int .u16 a0, .int .u16 a1, .int .u16 a2, .int .u32 a3, .string a4] W fun e w' => e = .returned (.bool true) ∧ Below W.heap.size W w' := by
  simp [Lit.wf, IntKind.min, IntKind.max, IntKind.signed, IntKind.bits] at w0 w1 w2 w3
  obtain ⟨x0, rfl⟩ := Int.eq_ofNat_of_zero_le w0.1
  obtain ⟨x1, rfl⟩ := Int.eq_ofNat_of_zero_le w1.1
  obtain ⟨x2, rfl⟩ := Int.eq_ofNat_of_zero_le w2.1
  obtain ⟨x3, rfl⟩ := Int.eq_ofNat_of_zero_le w3.1
  exact blockPieces_any x0 x1 x2 x3 (by omega) (by omega) (by omega) (by omega) a4 W
end Go.Proofs.Ytgnhpbolmfbngaa
