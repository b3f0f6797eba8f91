/- DiskFails. -/
import Derived.Test.YtjpelmjocdodcaaHall
import Derived.Test.YtjpelmjocdodcaaRowP
namespace Go.Proofs.Ytjpelmjocdodcaa
open Go.RowKit Go.ChangeMaps

set_option maxRecDepth 100000 in
set_option maxHeartbeats 4000000 in
theorem diskFails_any (n : Nat) (hn : n < 256) (A : Option Addr) (cap : Nat) (l : List (Nat × Nat)) (i : Int) (s : List UInt8) (w : World) (hp : PutsAt w A l) :
    Calls Try.prog 3 #[.int .u8 n, .slice A l.length cap, .int .i64 i, .string (S s)] w fun e w' => e = .returned (.bool true) ∧ Below w.heap.size w w' := by
  have HP := Lib.hid hp
  obtain ⟨r, hr⟩ : ∃ r, n % 12 + 1 = r := ⟨_, rfl⟩
  have hr1 : 1 ≤ r ∧ r ≤ 12 := by omega
  have hsz : (n : Int) % 12 + 1 = (r : Int) := by omega
  clear hp hr
  go_enter Try.func3, Try.ntmps3
  go_upto_region 2 with (fail)
  clear hsz
  have out : ∀ W : World, Calls Try.prog 16 #[] W fun e w' => e = .returned (.bool true) ∧ Below W.heap.size W w' := fun W => known04_any W
  have HO := Lib.hid out
  clear out
  by_cases h40 : 40 < l.length
  · have h40' : (40 : Int) < (l.length : Int) := by omega
    go_wp2_with (go_at_call 16; refine (HO.out _).mono ?_; rintro e w1 ⟨rfl, bk⟩)
    go_ret
    exact ⟨rfl, bk⟩
  have hl40 : l.length ≤ 40 := by omega
  have h40' : ¬ (40 : Int) < (l.length : Int) := by omega
  by_cases hin : 0 ≤ i ∧ i < r
  · obtain ⟨hi0, hi1⟩ := hin
    go_wp2_with (go_at_call 16; refine (HO.out _).mono ?_; rintro e w1 ⟨rfl, bk⟩)
    go_ret
    exact ⟨rfl, bk⟩
  have hin' : i < 0 ∨ 0 ≤ i ∧ ¬ i < r := by omega
  obtain ⟨q, hq⟩ : ∃ q, l.length / 2 = q := ⟨_, rfl⟩
  have hh : (l.length : Int) / 2 = (q : Int) := by omega
  have hq20 : q ≤ 20 := by omega
  have HE := Lib.hid hin
  have HR := Lib.hid hr1
  clear hin h40 hq hr1
  obtain ⟨b80, hb80⟩ : ∃ b, ((s.length : Int) == 80) = b := ⟨_, rfl⟩
  obtain ⟨b1, hb1⟩ : ∃ b, decide ((1000 : Int) < (s.length : Int)) = b := ⟨_, rfl⟩
  rcases hin' with hi0 | ⟨hi0, hi1⟩
  all_goals
    cases b80
    case true =>
      go_wp2_with (go_at_call 16; refine (HO.out _).mono ?_; rintro e w1 ⟨rfl, bk⟩)
      go_ret
      exact ⟨rfl, bk⟩
    cases b1
    case true =>
      go_wp2_with (go_at_call 16; refine (HO.out _).mono ?_; rintro e w1 ⟨rfl, bk⟩)
      go_ret
      exact ⟨rfl, bk⟩
    go_upto_region 4 with (fail)
    have H80 : Hid (¬ s.length = 80) := fun e => by rw [e] at hb80; exact absurd hb80 (by decide)
    clear hb80 hb1
    go_wp2_with (fail)
    refine (filled_any r HR.out.1 HR.out.2 A cap l (by omega) q w HP.out).mono ?_
    rintro e w1 hF
    obtain ⟨d, f, m, v, u, rfl, hFu⟩ := (Hall.start w).filled hF
    have hDl := fillD_length r q l
    have hDp : (fillD r q l).P.length ≤ 1000000 := Nat.le_trans (fillD_pend r q l) (by omega)
    obtain ⟨D, hD⟩ : ∃ D, fillD r q l = D := ⟨_, rfl⟩
    rw [hD] at hFu hDl hDp
    have HW1 := Lib.hid hFu
    have HDL := Lib.hid hDl
    have HDP := Lib.hid hDp
    have hDP63 : (D.P.length : Int) ≤ 1000000 := by omega
    clear hF hFu hDl hDp hD hl40 h40' hh hq20
    go_wp2_with (fail)
    refine (dpending_any d f m v D w1 (HW1.out.lab 0 _ rfl).disk HDP.out).mono ?_
    rintro e w2 ⟨u2, rfl, ho2, -, hb2⟩
    obtain ⟨A2, cap2, rfl⟩ := ownsRow_is ho2
    have HW2 := Lib.hid (HW1.out.below hb2)
    have hpl : (pendNs D.P).length = D.P.length := by simp [pendNs]
    rw [hpl]
    clear ho2 hb2 hpl
    go_wp2_with (fail)
    refine (sector_any 1 (by decide) w2).mono ?_
    rintro e w3 ⟨rfl, b3⟩
    have HW3 := Lib.hid (HW2.out.below b3)
    clear b3
    go_wp2_with (fail)
    refine (dwrite_any d f m v D .idle i (sectorOf 1) w3 (HW3.out.lab 0 _ rfl).disk (HW3.out.lab 0 _ rfl).fuse HDP.out).mono ?_
    rw [doWrite_range (by rw [HDL.out]; exact HE.out)]
    rintro e w4 ⟨rfl, ha⟩
    obtain ⟨v4, h4⟩ := HW3.out.after 0 rfl ha
    have HW4 : Hid (Hall w w4 [⟨d, f, m, v4, D, .idle⟩] [(u, (List.range r).map fun j => D.read j)]) := h4
    clear h4 ha
    go_wp2_with (fail)
    refine (dwrite_any d f m v4 D .idle 0 s w4 (HW4.out.lab 0 _ rfl).disk (HW4.out.lab 0 _ rfl).fuse HDP.out).mono ?_
    rw [doWrite_arg (by have := HDL.out; have := HR.out; omega) H80.out]
    rintro e w5 ⟨rfl, ha⟩
    obtain ⟨v5, h5⟩ := HW4.out.after 0 rfl ha
    have HW5 : Hid (Hall w w5 [⟨d, f, m, v5, D, .idle⟩] [(u, (List.range r).map fun j => D.read j)]) := h5
    clear h5 ha
    go_wp2_with (fail)
    refine (ddurable_any d f m v5 D i w5 (HW5.out.lab 0 _ rfl).disk).mono ?_
    rw [doDurable_range (by rw [HDL.out]; exact HE.out), show S [] = ⟨#[]⟩ from rfl]
    rintro e w6 ⟨rfl, b6⟩
    have HW6 := Lib.hid (HW5.out.below b6)
    clear b6
    go_wp2_with (fail)
    refine (dread_any d f m v5 D .idle i w6 (HW6.out.lab 0 _ rfl).disk (HW6.out.lab 0 _ rfl).fuse).mono ?_
    rw [doRead_range (by rw [HDL.out]; exact HE.out)]
    rintro e w7 ⟨rfl, b7⟩
    have HW7 := Lib.hid (HW6.out.below b7)
    clear b7
    dsimp only
    go_wp2_with (fail)
    go_loopw [15] (fun v15 wr => ∃ k : Nat, k ≤ r ∧ v15 = .int .i64 k ∧ Hid (Hall w wr [⟨d, f, m, v5, D, .idle⟩] [(u, (List.range r).map fun j => D.read j)])) (fun v15 _ => r - (intOf v15).toNat)
    case atStart => exact ⟨0, Nat.zero_le _, rfl, HW7⟩
    case round =>
      obtain ⟨k, hk, rfl, hW⟩ := hrel
      by_cases hlt : k < r
      · go_wp2_with (fail)
        refine (dread_any d f m v5 D .idle k _ (hW.out.lab 0 _ rfl).disk (hW.out.lab 0 _ rfl).fuse).mono ?_
        rw [doRead_ok (by have := HDL.out; omega) rfl]
        rintro e w9 ⟨rfl, b9⟩
        have HW9 := Lib.hid (hW.out.below b9)
        obtain ⟨g, cap3, rfl, c9, c9'⟩ := str_at' (HW9.out.row 0 _ rfl) (reads_len D r) hlt
        rw [secAt_reads D r hlt] at c9 c9'
        clear b9
        have hrr : (r : Int) ≤ 12 := by have := HR.out; omega
        go_wp2_with (fail)
        go_roundw
        case rel => exact ⟨k + 1, by omega, by go_num, HW9⟩
        case measure => simp [intOf]; omega
      · obtain rfl : k = r := by omega
        go_wp2_with (fail)
        refine (dpending_any d f m v5 D _ (hW.out.lab 0 _ rfl).disk HDP.out).mono ?_
        rintro e w2 ⟨u2, rfl, ho2, -, hb2⟩
        obtain ⟨A2, cap2, rfl⟩ := ownsRow_is ho2
        have hpl : (pendNs D.P).length = D.P.length := by simp [pendNs]
        rw [hpl]
        clear ho2 hpl
        go_wp2_with (go_at_call 16; refine (HO.out _).mono ?_; rintro e w1 ⟨rfl, bk⟩)
        go_ret
        exact ⟨rfl, (hW.out.below hb2).below bk |>.bel⟩
theorem diskFails_row (a0 : Int) (a1 : Option Addr) (c1 : Nat) (z1 : List (Nat × Nat)) (a2 : Int) (a3 : ByteArray) (W : World) (w0 : (Lit.int .u8 a0).wf = true) (w1 : PutsAt W a1 z1) (_w2 : (Lit.int .i64 a2).wf = true) (_w3 : a3.size ≤ 140737488351232) :
    Calls Try.prog 3 #[.int .u8 a0, .slice a1 z1.length c1, .int .i64 a2, .string a3] W fun e w' => e = .returned (.bool true) ∧ Below W.heap.size W w' := by
  obtain ⟨n, rfl, hn⟩ := u8_nat w0
  rw [← S_of a3]
  exact diskFails_any n hn a1 c1 z1 a2 _ W w1
end Go.Proofs.Ytjpelmjocdodcaa
