/- sacristanlaw25.RingWhole returns true, whatever its numbers are and in every world. No conditions. -/
import Derived.Test.YtndfeihlmhhgpaaRingThere
import Derived.Test.YtndfeihlmhhgpaaKnown
import Derived.Test.YtndfeihlmhhgpaaWf
namespace Go.Proofs.Ytndfeihlmhhgpaa
open Go.RowKit Go.Proofs.YtndfeihlmhhgpaaW.PrintWords Go.Proofs.YtndfeihlmhhgpaaW.PrintLast Go.Proofs.YtndfeihlmhhgpaaW.PrintMore

theorem woff_mono {a b : Nat} (h : a ≤ b) : woff a ≤ woff b := by
  induction b with
  | zero => obtain rfl : a = 0 := by omega
            exact Int.le_refl _
  | succ b ih =>
    have := wlen_le (b : Int)
    have e : woff (b + 1) = woff b + wlen b := rfl
    by_cases hb : a ≤ b
    · have := ih hb
      omega
    · obtain rfl : a = b + 1 := by omega
      exact Int.le_refl _
theorem wrow_get (steps : Int) (n i : Nat) (h : i < (wrow steps 0 n).length) : (wrow steps 0 n)[i] = wblock steps i := by
  have e : (wrow steps 0 n)[i]? = some (wblock steps i) := by
    unfold wrow at h ⊢
    rw [List.length_map, List.length_range'] at h
    rw [List.getElem?_map, List.getElem?_range' h]
    simp
  rw [List.getElem?_eq_getElem h] at e
  exact Option.some.inj e
set_option maxHeartbeats 2000000 in
theorem ringWhole_any (a0 a1 a2 : Int) (a3 : Bool) (a4 a5 : Int) (w : World) (w0 : (Lit.int .u8 a0).wf = true) (w1 : (Lit.int .u8 a1).wf = true) (w2 : (Lit.int .u8 a2).wf = true) (w4 : (Lit.int .u64 a4).wf = true) (w5 : (Lit.int .u8 a5).wf = true) :
    Calls Try.prog 3 #[.int .u8 a0, .int .u8 a1, .int .u8 a2, .bool a3, .int .u64 a4, .int .u8 a5] w fun e w' => e = .returned (.bool true) ∧ Below w.heap.size w w' := by
  obtain ⟨u0, u1⟩ := of_u8 w0
  obtain ⟨u2, u3⟩ := of_u8 w1
  obtain ⟨u4, u5⟩ := of_u8 w2
  obtain ⟨u6, u7⟩ := of_u64 w4
  obtain ⟨u8_, u9⟩ := of_u8 w5
  obtain ⟨f0, hf0⟩ : ∃ x, a0.tmod 5 = x := ⟨_, rfl⟩
  obtain ⟨b0, hb0⟩ : ∃ x, a1.tmod 6 = x := ⟨_, rfl⟩
  have f1 : 0 ≤ f0 ∧ f0 ≤ 4 := by rw [Int.tmod_eq_emod_of_nonneg u0] at hf0; omega
  have b1 : 0 ≤ b0 ∧ b0 ≤ 5 := by rw [Int.tmod_eq_emod_of_nonneg u2] at hb0; omega
  obtain ⟨n, hn⟩ : ∃ x : Nat, a2.tmod 61 = x := ⟨(a2.tmod 61).toNat, by rw [Int.tmod_eq_emod_of_nonneg u4]; omega⟩
  have n1 : n ≤ 60 := by rw [Int.tmod_eq_emod_of_nonneg u4] at hn; omega
  obtain ⟨f, hf⟩ : ∃ x, 2 + f0 = x := ⟨_, rfl⟩
  obtain ⟨b, hb⟩ : ∃ x, 1 + b0 = x := ⟨_, rfl⟩
  obtain ⟨q1, q2⟩ : 2 ≤ f ∧ f ≤ 64 := by omega
  obtain ⟨q3, q4⟩ : 1 ≤ b ∧ b ≤ 64 := by omega
  obtain ⟨t, rfl⟩ : ∃ t : Nat, a5 = t := ⟨a5.toNat, by omega⟩
  clear f1 b1 w0 w1 w2 w4 w5
  have C0 := Lib.hid (rcheck_in q1 q2 q3 q4 (by omega : (0 : Int) ≤ n) (by omega : (n : Int) ≤ 4294967295))
  obtain ⟨c, hc⟩ : ∃ c : Nat, rFirst f b n = c := ⟨(rFirst f b n).toNat, by unfold rFirst; split <;> omega⟩
  have n100 : n ≤ 100 := Nat.le_trans n1 (by decide)
  have hcn : c ≤ n := first_le q1 q2 q3 q4 n100 hc
  have HC := Lib.hid hc
  obtain ⟨a, hx⟩ : ∃ a : Nat, a ≤ c ∧ ((a3 = true ∧ (0 : Int) = a) ∨ (a3 = false ∧ (c : Int) = a)) := by
    cases a3
    · exact ⟨c, Nat.le_refl _, .inr ⟨rfl, rfl⟩⟩
    · exact ⟨0, Nat.zero_le _, .inl ⟨rfl, rfl⟩⟩
  obtain ⟨hac, hx⟩ := hx
  rcases hx with ⟨rfl, hz0⟩ | ⟨rfl, hz0⟩
  all_goals
    have hz := Lib.hid hz0
    clear hz0
    go_enter Try.func3, Try.ntmps3
    go_wp2_with (go_at_call 16; refine (rFirst_any _ _ _ _).mono ?_; rw [HC.out, C0.out]; rintro e w' ⟨rfl, rfl⟩)
    refine (written_any _ _ a _ hz.out u6 u7 n100 _).mono ?_
    rintro e1 wa ⟨v1, rfl, R1, B1⟩
    go_wp2_with (fail)
    refine (written_any 0 _ 0 _ rfl u6 u7 n100 _).mono ?_
    rintro e2 wb ⟨v2, rfl, R2, B2⟩
    have R1b := Kd.R_below R1 B2
    go_wp2_with (fail)
    obtain ⟨A2, c2, rfl⟩ := Kd.R_slice R2
    have K2 := (Kd.R_reads' R2).2.2
    have hl2 : (wrow a4 0 n).length = n := by unfold wrow; rw [List.length_map, List.length_range']; rfl
    rw [hl2] at K2 ⊢
    go_loopw [20, 21, 23] (fun v20 v21 v23 wr => ∃ i : Nat, i ≤ n ∧ v23 = .int .i64 i ∧ v21 = .int .i64 (woff (min i c)) ∧ v20 = .int .i64 (woff i - woff (min i c)) ∧ wr = wb) (fun _ _ v23 _ => n - (intOf v23).toNat)
    case atStart => exact ⟨0, by omega, rfl, by rw [Nat.zero_min]; rfl, by rw [Nat.zero_min]; rfl, rfl⟩
    case round =>
      obtain ⟨i, hi, rfl, rfl, rfl, rfl⟩ := hrel
      by_cases hlt : i < n
      · have hlt' : (i : Int) < (n : Int) := by omega
        obtain ⟨ad, rfl, r0, r1, r2, r3, r4⟩ := PW.at_T29 K2 (i : Int) (by omega) hlt'
        rw [rd_get _ i (by rw [hl2]; exact hlt), Int.toNat_natCast] at r0 r1 r2 r3 r4
        rw [wrow_get] at r0 r1 r2 r3 r4
        obtain ⟨D, hD⟩ : ∃ D, (wblock a4 i).f4 = D := ⟨_, rfl⟩
        have hsz : (D.size : Int) = wlen i := by rw [← hD]; exact wlen_size i
        rw [hD] at r4
        have hwl := wlen_le i
        have ho1 := woff_le i
        have ho2 := woff_le (min i c)
        by_cases hic : i < c
        · have e1 : min i c = i := Nat.min_eq_left (by omega)
          have e2 : min (i + 1) c = i + 1 := Nat.min_eq_left (by omega)
          have hic' : (i : Int) < (c : Int) := by omega
          rw [e1] at *
          have hnext := Lib.hid (show woff (i + 1) = woff i + wlen i from rfl)
          clear r0 r1 r2 r3 hD
          generalize hwo : woff i = o at *
          have HWO := Lib.hid hwo
          clear hwo
          go_wp2
          go_roundw
          case rel => exact ⟨i + 1, by omega, by rw [Int.natCast_add]; rfl, by rw [e2, hnext.out], by rw [e2]; congr 1; omega, trivial⟩
          case measure => simp [intOf]; omega
        · have e1 : min i c = c := Nat.min_eq_right (by omega)
          have e2 : min (i + 1) c = c := Nat.min_eq_right (by omega)
          have hic' : ¬ (i : Int) < (c : Int) := by omega
          have hmono := woff_mono (by omega : c ≤ i)
          have hp0 := (woff_le c).1
          have ho3 := woff_le i
          rw [e1] at *
          have hnext := Lib.hid (show woff (i + 1) = woff i + wlen i from rfl)
          clear r0 r1 r2 r3 hD
          generalize hwo : woff i = o at *
          generalize hwc : woff c = p at *
          have HWO := Lib.hid hwo
          have HWC := Lib.hid hwc
          clear hwo hwc
          go_wp2
          go_roundw
          case rel => exact ⟨i + 1, by omega, by rw [Int.natCast_add]; rfl, by rw [e2, HWC.out], by rw [e2, HWC.out, hnext.out]; congr 1; first | omega | (rw [w64 (by omega) (by omega)]; omega), trivial⟩
          case measure => simp [intOf]; omega
      · obtain rfl : i = n := by omega
        rw [Nat.min_eq_right hcn]
        obtain ⟨A1, c1, rfl⟩ := Kd.R_slice R1b
        have K1 := (Kd.R_reads' R1b).2.2
        obtain ⟨r, ht, h3, h4, h5⟩ := turned_is (wrow a4 a i) t (by omega) (by unfold wrow; rw [List.length_map, List.length_range']; omega)
        have hrl : r.length ≤ 200 := by rw [h5]; unfold wrow; rw [List.length_map, List.length_range']; omega
        have hp := recover_all q1 q2 q3 q4 n100 HC.out hac h3 h4
        have hsm := turned_small h3
        clear h3 h4 h5
        go_wp2_with (fail)
        refine (PW.sacristanlaw25_turned.calls ((wrow a4 a i).length + 1) A1 c1 _ _ r _ K1 (Kd.R_reads' R1b).2.1 ht).mono ?_
        rintro e3 wc ⟨v3, rfl, R3, B3⟩
        obtain ⟨A3, c3, rfl⟩ := Kd.R_slice R3
        have K3 := (Kd.R_reads' R3).2.2
        clear K1 K2 R1 R2 R1b R3
        go_wp2_with (fail)
        refine (recover_W f b q1 q2 q3 q4 r hrl hsm hp A3 c3 _ K3).mono ?_
        rintro e4 wd ⟨rfl, B4⟩
        unfold Plc.val
        have hbel := below_step B4 (below_step B3 (below_step B2 B1 (Nat.le_refl _)) (Nat.le_refl _)) (Nat.le_refl _)
        have q := alloc_new wd (.cells #[.int .i64 c, .int .i64 i, .int .i64 (woff c), .int .i64 (woff i - woff c)] 31)
        have HB4 := below_step (alloc_below wd (.cells #[.int .i64 c, .int .i64 i, .int .i64 (woff c), .int .i64 (woff i - woff c)] 31)) hbel (Nat.le_refl _)
        clear B1 B2 B3 B4 hbel K3
        go_wp2_with (fail)
        refine (known25_any _).mono ?_
        rintro e5 we ⟨rfl, B5⟩
        have HB5 := below_step B5 HB4 (Nat.le_refl _)
        clear B5 HB4 q
        go_wp2_with (fail)
        go_ret
        exact ⟨rfl, HB5⟩
end Go.Proofs.Ytndfeihlmhhgpaa
