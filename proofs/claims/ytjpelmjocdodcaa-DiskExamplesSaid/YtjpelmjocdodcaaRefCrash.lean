/- sacristanref04: Crash. -/
import Derived.Test.YtjpelmjocdodcaaRefSync
namespace Go.Proofs.Ytjpelmjocdodcaa
open Go.RowKit Go.ChangeMaps

theorem and_one (x : Int) : Go.bits .and .u64 x 1 = 0 ∨ Go.bits .and .u64 x 1 = 1 := by
  have h : ((BitVec.ofInt 64 x) &&& (BitVec.ofInt 64 1)).toNat = (BitVec.ofInt 64 x).toNat % 2 := by
    rw [BitVec.toNat_and]
    exact Nat.and_one_is_mod _
  have e : Go.bits .and .u64 x 1 = IntKind.u64.wrap ((((BitVec.ofInt 64 x) &&& (BitVec.ofInt 64 1)).toNat : Nat) : Int) := rfl
  rw [e, h, IntKind.wrap_u64]
  rcases Nat.mod_two_eq_zero_or_one (BitVec.ofInt 64 x).toNat with h | h <;> rw [h]
  · exact .inl rfl
  · exact .inr rfl
theorem keepB_one (keep : Int) (k : Nat) : (Go.bits .and .u64 (keep / 2 ^ (k % 64)) 1 == 1) = keepB keep k := by
  unfold keepB
  rcases and_one (keep / 2 ^ (k % 64)) with h | h <;> rw [h] <;> rfl
theorem sec_len_of {D : Dk} (hok : D.Ok) {i : Nat} (hi : i < D.S.length) : (secAt D.S i).length = 80 := secAt_length hok.2.2.1 hi
set_option maxRecDepth 100000 in
set_option maxHeartbeats 8000000 in
theorem rdcrash_any (r g sb : Nat) (pv : Value) (D : Dk) (keep torn bytes : Int) (w : World) (h : RefAt w r g sb pv D) :
    Calls Try.prog 80 #[.pointer (some ⟨r, 0, none⟩), .agg #[.int .u64 keep, .int .i64 torn, .int .i64 bytes]] w fun e w' => e = .returned (.tuple #[]) ∧ RefAt w' r g sb (.slice none 0 0) (D.crash keep torn bytes) ∧ Keeps (fun k => k = r ∨ k = sb) w w' := by
  obtain ⟨A, cap, rfl⟩ := ownsRow_is h.row
  have hPl := row_len h.row
  unfold maxLen at hPl
  have ht := tmod80 bytes
  have hw : IntKind.i64.wrap (bytes.tmod 80 + 80) = bytes.tmod 80 + 80 := by rw [IntKind.wrap_i64]; omega
  have ht0 : 0 ≤ bytes.tmod 80 + 80 := by omega
  have hn80 := tearN_lt bytes
  have e1 : (bytes.tmod 80 + 80).tmod 80 = (tearN bytes : Int) := by
    unfold tearN
    rw [Int.tmod_eq_emod_of_nonneg ht0]
    omega
  have e2 : (bytes.tmod 80 + 80) % 80 = (tearN bytes : Int) := by rw [← e1, Int.tmod_eq_emod_of_nonneg ht0]
  obtain ⟨n, hn⟩ : ∃ n, tearN bytes = n := ⟨_, rfl⟩
  have HN := Lib.hid hn
  rw [hn] at e1 e2 hn80
  have hlen := h.ok.2.1
  clear hn ht
  have m1 := alloc_new w (.cells #[.int .u64 keep, .int .i64 torn, .int .i64 bytes] 39)
  have b1 := alloc_below w (.cells #[.int .u64 keep, .int .i64 torn, .int .i64 bytes] 39)
  go_enter Try.func80, Try.ntmps80
  obtain ⟨w1, hw1⟩ : ∃ w1, w.alloc (.cells #[.int .u64 keep, .int .i64 torn, .int .i64 bytes] 39) = w1 := ⟨_, rfl⟩
  rw [hw1] at m1 b1
  have k2 : w1.cell? ⟨w.heap.size, 2, none⟩ = some (.int .i64 bytes) := (cell_of m1 2).trans rfl
  have H1 : Hid (RefAt w1 r g sb (.slice A D.P.length cap) ⟨tearFrom keep torn n 0 (D.P.take 0) D.S, D.P, D.full⟩) := h.below b1
  have B1 := Lib.hid b1
  have M1 := Lib.hid m1
  have HH := Lib.hid h
  have hbs : ¬ w.heap.size = sb := by have := (Array.getElem?_eq_some_iff.1 h.sec).1; omega
  have HBS := Lib.hid hbs
  clear h m1 b1 hbs
  go_wp2_with (fail)
  clear hw e1 e2 ht0 hw1 k2
  go_loopw [5, 6] (fun v5 _ wr => ∃ k : Nat, k ≤ D.P.length ∧ v5 = .int .i64 k ∧ Hid (RefAt wr r g sb (.slice A D.P.length cap) ⟨tearFrom keep torn n 0 (D.P.take k) D.S, D.P, D.full⟩) ∧ Hid (Keeps (fun k => k = sb) w1 wr)) (fun v5 _ _ => D.P.length - (intOf v5).toNat)
  case atStart => exact ⟨0, Nat.zero_le _, rfl, H1, .refl _ _⟩
  case round =>
    obtain ⟨k, hk, rfl, hR, hK⟩ := hrel
    have c0 := hR.out.c0
    have c1 := hR.out.c1
    rw [tearFrom_length] at c0
    by_cases hlt : k < D.P.length
    · obtain ⟨p, rfl, e0, e0', e1⟩ := RefAt.pend (D := ⟨tearFrom keep torn n 0 (D.P.take k) D.S, D.P, D.full⟩) hR.out hlt
      have hPT := tearFrom_snoc keep torn n hlt D.S
      have hpk := HH.out.ok.2.2.2 (D.P[k]) (List.getElem_mem hlt)
      dsimp only at e0 e0' e1
      obtain ⟨⟨a, s⟩, hp⟩ : ∃ x, D.P[k] = x := ⟨_, rfl⟩
      simp only [hp] at e0 e0' e1 hPT hpk
      have ha : a < D.S.length := hpk.1
      have hai : (a : Int) < (D.S.length : Int) := by omega
      have b2 := alloc_below wr (.cells #[.int .i64 a, .string (S s)] 135)
      have HX := Lib.hid (hR.out.below b2)
      have HKX := Lib.hid (hK.out.step b2)
      obtain ⟨L, hL⟩ : ∃ L, tearFrom keep torn n 0 (D.P.take k) D.S = L := ⟨_, rfl⟩
      simp only [hL] at HX hPT hR
      have hLl : L.length = D.S.length := by rw [← hL]; exact tearFrom_length ..
      have s0 := HX.out.sec_at (i := a) (by show a < L.length; omega)
      have f0 := free_of HX.out.sec a
      dsimp only at s0
      have cx0 := HX.out.c0
      dsimp only at cx0
      rw [hLl] at cx0
      have HS := Lib.hid hpk.2
      have q0 : wr.cell? ⟨w.heap.size, 0, none⟩ = some (.int .u64 keep) := hK.out.cell ((cell_of M1.out 0).trans rfl) HBS.out
      have q1 : wr.cell? ⟨w.heap.size, 1, none⟩ = some (.int .i64 torn) := hK.out.cell ((cell_of M1.out 1).trans rfl) HBS.out
      have q0a := below_cell b2 q0
      have q1a := below_cell b2 q1
      have hsl : (s.length : Int) = 80 := by have := hpk.2; omega
      have hol : (secAt L a).length = 80 := sec_len_of HX.out.ok (by show a < L.length; omega)
      have holi : ((secAt L a).length : Int) = 80 := by omega
      obtain ⟨o, ho⟩ : ∃ o, secAt L a = o := ⟨_, rfl⟩
      rw [ho] at s0 hol holi
      have HO := Lib.hid ho
      have HOL := Lib.hid hol
      have HPT := Lib.hid hPT
      have hni : (n : Int) ≤ 80 := by omega
      clear hp hPT hpk hL hLl ho hol b2
      by_cases htk : (k : Int) = torn
      · have htb : ((k : Int) == torn) = true := beq_iff_eq.2 htk
        have HTK := Lib.hid htk
        clear htk
        have HTA : Hid (tearAt keep torn n k (a, s) L = L.set a (s.take n ++ o.drop n)) := by unfold Hid tearAt; rw [if_pos HTK.out, HO.out]
        have hx1 : (S s).extract 0 n = S (s.take n) := by rw [S_extract, List.drop_zero]
        have hx2 : (S o).extract n o.length = S (o.drop n) := by rw [S_extract, List.take_of_length_le (Nat.le_refl _)]
        have hx3 : (S o).extract n 80 = S (o.drop n) := by rw [← HOL.out]; exact hx2
        have HVL : Hid ((s.take n ++ o.drop n).length = 80) := by unfold Hid; rw [List.length_append, List.length_take, List.length_drop, HS.out, HOL.out]; omega
        have HRD := Lib.hid (HX.out.setSec (a := a) (s := s.take n ++ o.drop n) HVL.out)
        have HR2 : Hid (RefAt ((wr.alloc (.cells #[.int .i64 a, .string (S s)] 135)).setCell ⟨sb, a, none⟩ (.string (S (s.take n ++ o.drop n)))).drew r g sb (.slice (some ⟨p, 0, none⟩) D.P.length cap) ⟨tearFrom keep torn n 0 (D.P.take (k + 1)) D.S, D.P, D.full⟩) := by
          unfold Hid
          rw [HPT.out, HTA.out]
          exact HRD.out.1.below (Below.refl _ _).drew
        have HK2 := Lib.hid ((HKX.out.trans HRD.out.2).drew)
        go_wp2_with (fail)
        go_region
        go_wp2_with (fail)
        go_roundw
        case rel => exact ⟨k + 1, by omega, by go_num, HR2, HK2⟩
        case measure => simp [intOf]; omega
      · have htb : ((k : Int) == torn) = false := beq_eq_false_iff_ne.2 htk
        have HTK := Lib.hid htk
        have hkb := keepB_one keep k
        clear htk
        cases hb : keepB keep k
        · rw [hb] at hkb
          have HTA : Hid (tearAt keep torn n k (a, s) L = L) := by unfold Hid tearAt; rw [if_neg HTK.out, hb]; rfl
          have HR2 : Hid (RefAt (wr.alloc (.cells #[.int .i64 a, .string (S s)] 135)) r g sb (.slice (some ⟨p, 0, none⟩) D.P.length cap) ⟨tearFrom keep torn n 0 (D.P.take (k + 1)) D.S, D.P, D.full⟩) := by
            unfold Hid
            rw [HPT.out, HTA.out]
            exact HX.out
          go_wp2_with (fail)
          go_roundw
          case rel => exact ⟨k + 1, by omega, by go_num, HR2, HKX⟩
          case measure => simp [intOf]; omega
        · rw [hb] at hkb
          have HTA : Hid (tearAt keep torn n k (a, s) L = L.set a s) := by unfold Hid tearAt; rw [if_neg HTK.out, hb]; rfl
          have HRD := Lib.hid (HX.out.setSec (a := a) (s := s) HS.out)
          have HR2 : Hid (RefAt ((wr.alloc (.cells #[.int .i64 a, .string (S s)] 135)).setCell ⟨sb, a, none⟩ (.string (S (s)))).drew r g sb (.slice (some ⟨p, 0, none⟩) D.P.length cap) ⟨tearFrom keep torn n 0 (D.P.take (k + 1)) D.S, D.P, D.full⟩) := by
            unfold Hid
            rw [HPT.out, HTA.out]
            exact HRD.out.1.below (Below.refl _ _).drew
          have HK2 := Lib.hid ((HKX.out.trans HRD.out.2).drew)
          go_wp2_with (fail)
          go_region
          go_wp2_with (fail)
          go_roundw
          case rel => exact ⟨k + 1, by omega, by go_num, HR2, HK2⟩
          case measure => simp [intOf]; omega
    · obtain rfl : k = D.P.length := by omega
      have f1 := free_of hR.out.blk 1
      have HC := Lib.hid hR.out.clear
      go_wp2_with (fail)
      go_end0
      have hc := HC.out.1
      rw [List.take_of_length_le (Nat.le_refl _)] at hc
      refine ⟨rfl, ?_, ?_⟩
      · unfold Dk.crash
        rw [HN.out]
        exact hc
      · exact ((Keeps.of_below (S := fun k => k = r ∨ k = sb) B1.out).trans (hK.out.mono (fun _ _ e => .inr e))).trans (HC.out.2.mono (fun _ _ e => .inl e))
end Go.Proofs.Ytjpelmjocdodcaa
