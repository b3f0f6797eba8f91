/- DiskSynced. -/
import Derived.Test.YtjpelmjocdodcaaCrashPure
import Derived.Test.YtjpelmjocdodcaaRowP
namespace Go.Proofs.Ytjpelmjocdodcaa
open Go.RowKit Go.ChangeMaps

set_option maxRecDepth 100000 in
set_option maxHeartbeats 4000000 in
theorem diskSynced_any (n : Nat) (hn : n < 256) (A : Option Addr) (cap : Nat) (l : List (Nat × Nat)) (keep torn bytes : Int) (w : World) (hp : PutsAt w A l) :
    Calls Try.prog 6 #[.int .u8 n, .slice A l.length cap, .agg #[.int .u64 keep, .int .i64 torn, .int .i64 bytes]] w fun e w' => e = .returned (.bool true) ∧ Below w.heap.size w w' := by
  have HP := Lib.hid hp
  obtain ⟨r, hr⟩ : ∃ r, n % 12 + 1 = r := ⟨_, rfl⟩
  have hr1 : 1 ≤ r ∧ r ≤ 12 := by omega
  have hsz : (n : Int) % 12 + 1 = (r : Int) := by omega
  have HO := Lib.hid (fun W : World => known04_any W)
  have n1 := alloc_new w (.cells #[.int .u64 keep, .int .i64 torn, .int .i64 bytes] 39)
  have b1 := alloc_below w (.cells #[.int .u64 keep, .int .i64 torn, .int .i64 bytes] 39)
  have s1 := alloc_size w (.cells #[.int .u64 keep, .int .i64 torn, .int .i64 bytes] 39)
  obtain ⟨w1, hw⟩ : ∃ w1, w.alloc (.cells #[.int .u64 keep, .int .i64 torn, .int .i64 bytes] 39) = w1 := ⟨_, rfl⟩
  rw [hw] at n1 b1 s1
  have HN1 := Lib.hid n1
  have HB1 := Lib.hid b1
  have HS1 := Lib.hid s1
  clear hp hr n1 b1 s1
  go_enter Try.func6, Try.ntmps6
  go_upto_region 1 with (fail)
  have HHW := Lib.hid hw
  clear hw
  by_cases h60 : 60 < l.length
  · have h60' : (60 : Int) < (l.length : Int) := by omega
    go_wp2_with (go_at_call 16; refine (HO.out _).mono ?_; rintro e w2 ⟨rfl, bk⟩)
    go_ret
    exact ⟨rfl, below_step bk HB1.out (Nat.le_refl _)⟩
  have hl60 : l.length ≤ 60 := by omega
  have h60' : ¬ (60 : Int) < (l.length : Int) := by omega
  have HR := Lib.hid hr1
  have HL60 := Lib.hid hl60
  clear h60 hr1 hl60
  go_wp2_with (fail)
  refine (filled_any r HR.out.1 HR.out.2 A cap l HL60.out 0 w1 (HP.out.below rfl HB1.out)).mono ?_
  rintro e w2 hF
  obtain ⟨d, f, m, v, u, rfl, hH⟩ := (Hall.start w1).filled hF
  have hDl := fillD_length r 0 l
  have hDp : (fillD r 0 l).P.length ≤ 1000000 := Nat.le_trans (fillD_pend r 0 l) (by have := HL60.out; omega)
  have HH2 := Lib.hid hH
  clear hF hH h60' hsz
  go_wp2_with (fail)
  refine (filled_any r HR.out.1 HR.out.2 A cap l HL60.out 0 w2 (HP.out.below rfl (below_step HH2.out.bel HB1.out (Nat.le_refl _)))).mono ?_
  rintro e w3 hF
  obtain ⟨d2, f2, m2, v2, u2, rfl, hH⟩ := HH2.out.filled hF
  obtain ⟨D, hD⟩ : ∃ D, fillD r 0 l = D := ⟨_, rfl⟩
  rw [hD] at hDl hDp hH
  have HH3 := Lib.hid hH
  have HDL := Lib.hid hDl
  have HDP := Lib.hid hDp
  clear hF hH HH2 hDl hDp hD HL60
  obtain ⟨L, hL⟩ : ∃ L, ((List.range r).map fun j => D.read j) = L := ⟨_, rfl⟩
  have hLl : L.length = r := by rw [← hL]; exact reads_len D r
  have hLs : ∀ i, i < r → secAt L i = D.read i := fun i hi => by rw [← hL]; exact secAt_reads D r hi
  rw [hL] at HH3
  have HLl := Lib.hid hLl
  have HLs := Lib.hid hLs
  clear hLl hLs hL
  go_wp2_with (fail)
  refine (dsync_any d f m v D .idle w3 (HH3.out.lab 1 _ rfl).disk (HH3.out.lab 1 _ rfl).fuse).mono ?_
  rw [doSync_ok]
  rintro e w4 ⟨rfl, ha⟩
  obtain ⟨v4, h4⟩ := HH3.out.after 1 rfl ha
  have HH4 : Hid (Hall w1 w4 [⟨d2, f2, m2, v2, D, .idle⟩, ⟨d, f, m, v4, D.sync, .idle⟩] [(u2, L), (u, L)]) := h4
  clear h4 ha HH3
  have hblk : w4.heap[w.heap.size]? = some (.cells #[.int .u64 keep, .int .i64 torn, .int .i64 bytes] 39) := (HH4.out.bel.block _ (by rw [HS1.out]; exact Nat.lt_succ_self _)).trans HN1.out
  have c0 : w4.cell? ⟨w.heap.size, 0, none⟩ = some (.int .u64 keep) := (cell_of hblk 0).trans rfl
  have c1 : w4.cell? ⟨w.heap.size, 1, none⟩ = some (.int .i64 torn) := (cell_of hblk 1).trans rfl
  have c2 : w4.cell? ⟨w.heap.size, 2, none⟩ = some (.int .i64 bytes) := (cell_of hblk 2).trans rfl
  clear hblk
  go_wp2_with (fail)
  refine (dcrash_any d f m v4 D.sync keep torn bytes w4 (HH4.out.lab 1 _ rfl).disk).mono ?_
  rw [crash_none rfl]
  rintro e w5 ⟨rfl, hd5, k5⟩
  have HH5 : Hid (Hall w1 w5 [⟨d2, f2, m2, v2, D, .idle⟩, ⟨d, f, m, .slice none 0 0, D.sync, .idle⟩] [(u2, L), (u, L)]) := HH4.out.crash 1 rfl hd5 k5
  clear hd5 k5 c0 c1 c2 HH4
  go_wp2_with (fail)
  refine (dcrash_any d2 f2 m2 v2 D 18446744073709551615 (-1) 0 w5 (HH5.out.lab 0 _ rfl).disk).mono ?_
  rw [crash_all]
  rintro e w6 ⟨rfl, hd6, k6⟩
  have HH6 : Hid (Hall w1 w6 [⟨d2, f2, m2, .slice none 0 0, D.sync, .idle⟩, ⟨d, f, m, .slice none 0 0, D.sync, .idle⟩] [(u2, L), (u, L)]) := HH5.out.crash 0 rfl hd6 k6
  clear hd6 k6 HH5
  go_wp2_with (fail)
  go_loopw [12] (fun v12 wr => ∃ k : Nat, k ≤ r ∧ v12 = .int .i64 k ∧ Hid (Hall w1 wr [⟨d2, f2, m2, .slice none 0 0, D.sync, .idle⟩, ⟨d, f, m, .slice none 0 0, D.sync, .idle⟩] [(u2, L), (u, L)])) (fun v12 _ => r - (intOf v12).toNat)
  case atStart => exact ⟨0, Nat.zero_le _, rfl, HH6⟩
  case round =>
    obtain ⟨k, hk, rfl, hW⟩ := hrel
    by_cases hlt : k < r
    · have HKD : Hid (k < D.S.length) := by have := HDL.out; unfold Hid; omega
      have hSl : D.sync.S.length = D.S.length := putAll_length ..
      have HKS : Hid (k < D.sync.S.length) := by unfold Hid; rw [hSl]; exact HKD.out
      clear hSl
      go_wp2_with (fail)
      refine (dread_any d f m _ D.sync .idle k _ (hW.out.lab 1 _ rfl).disk (hW.out.lab 1 _ rfl).fuse).mono ?_
      rw [doRead_ok HKS.out rfl, sync_read HKD.out]
      rintro e w7 ⟨rfl, b7⟩
      have HW7 := Lib.hid (hW.out.below b7)
      clear b7 hW
      go_wp2_with (fail)
      refine (dread_any d2 f2 m2 _ D.sync .idle k _ (HW7.out.lab 0 _ rfl).disk (HW7.out.lab 0 _ rfl).fuse).mono ?_
      rw [doRead_ok HKS.out rfl, sync_read HKD.out]
      rintro e w8 ⟨rfl, b8⟩
      have HW8 := Lib.hid (HW7.out.below b8)
      have HW8d := Lib.hid (HW8.out.below (Below.refl _ w8).drew)
      clear b8 HW7
      obtain ⟨g, cap3, rfl, c9, c9'⟩ := str_at' (HW8d.out.row 1 _ rfl) HLl.out hlt
      rw [HLs.out k hlt] at c9 c9'
      have C9 := Lib.hid (And.intro c9 c9')
      have hrr : (r : Int) ≤ 12 := by have := HR.out; omega
      clear c9 c9'
      go_upto_region 15 with (fail)
      go_region_held3 (fun w' => w'.cell? (Addr.add ⟨g, 0, none⟩ k) = some (.string (S (D.read k))) ∧ w'.cell? ⟨g, k, none⟩ = some (.string (S (D.read k)))) (first | exact C9.out | exact keep2 (by assumption) b9)
        (first | (go_at_call 21; refine (ddurable_any d f m _ D.sync k _ (HW8d.out.lab 1 _ rfl).disk).mono ?_; rw [doDurable_in HKS.out, sync_sec HKD.out]; rintro e w9 ⟨rfl, b9⟩))
      have HW9 := Lib.hid (HW8d.out.below b9)
      clear b9 C9 HW8 HW8d
      go_wp2_with (fail)
      go_roundw
      case rel => exact ⟨k + 1, by omega, by go_num, HW9⟩
      case measure => simp [intOf]; omega
    · obtain rfl : k = r := by omega
      go_wp2_with (fail)
      refine (dpending_any d f m _ D.sync _ (hW.out.lab 1 _ rfl).disk (by show (0 : Nat) ≤ 1000000; omega)).mono ?_
      rintro e w7 ⟨u3, rfl, ho3, -, b7⟩
      obtain ⟨A3, cap3, rfl⟩ := ownsRow_is ho3
      have HW7 := Lib.hid (hW.out.below b7)
      rw [show (pendNs D.sync.P).length = 0 from rfl]
      clear b7 hW ho3
      go_wp2_with (fail)
      refine (dpending_any d2 f2 m2 _ D.sync _ (HW7.out.lab 0 _ rfl).disk (by show (0 : Nat) ≤ 1000000; omega)).mono ?_
      rintro e w8 ⟨u4, rfl, ho4, -, b8⟩
      obtain ⟨A4, cap4, rfl⟩ := ownsRow_is ho4
      have HW8 := Lib.hid (HW7.out.below b8)
      rw [show (pendNs D.sync.P).length = 0 from rfl]
      clear b8 HW7 ho4
      go_wp2_with (go_at_call 16; refine (HO.out _).mono ?_; rintro e w9 ⟨rfl, bk⟩)
      go_ret
      exact ⟨rfl, below_step (HW8.out.below bk).bel HB1.out (Nat.le_of_eq rfl)⟩
theorem diskSynced_row (a0 : Int) (a1 : Option Addr) (c1 : Nat) (z1 : List (Nat × Nat)) (keep torn bytes : Int) (W : World) (w0 : (Lit.int .u8 a0).wf = true) (w1 : PutsAt W a1 z1) (_x : (Lit.int .u64 keep).wf = true) (_y : (Lit.int .i64 torn).wf = true) (_z : (Lit.int .i64 bytes).wf = true) :
    Calls Try.prog 6 #[.int .u8 a0, .slice a1 z1.length c1, .agg #[.int .u64 keep, .int .i64 torn, .int .i64 bytes]] W fun e w' => e = .returned (.bool true) ∧ Below W.heap.size W w' := by
  obtain ⟨n, rfl, hn⟩ := u8_nat w0
  exact diskSynced_any n hn a1 c1 z1 keep torn bytes W w1
end Go.Proofs.Ytjpelmjocdodcaa
