/- DiskBytes. -/
import Derived.Test.YtjpelmjocdodcaaBytesPure
import Derived.Test.YtjpelmjocdodcaaRowP
import Derived.Test.YtjpelmjocdodcaaTake
namespace Go.Proofs.Ytjpelmjocdodcaa
open Go.RowKit Go.ChangeMaps

set_option maxRecDepth 100000 in
set_option maxHeartbeats 4000000 in
theorem diskBytes_any (n : Nat) (hn : n < 256) (A : Option Addr) (cap : Nat) (l : List (Nat × Nat)) (sm : Nat) (hsm : sm < 256) (keep torn bytes : Int) (w : World) (hp : PutsAt w A l) :
    Calls Try.prog 4 #[.int .u8 n, .slice A l.length cap, .int .u8 sm, .agg #[.int .u64 keep, .int .i64 torn, .int .i64 bytes]] w fun e w' => e = .returned (.bool true) ∧ Below w.heap.size w w' := by
  have HP := Lib.hid hp
  obtain ⟨r, hr⟩ : ∃ r, n % 12 + 1 = r := ⟨_, rfl⟩
  have hr1 : 1 ≤ r ∧ r ≤ 12 := by omega
  have hsz : (n : Int) % 12 + 1 = (r : Int) := by omega
  obtain ⟨q, hq⟩ : ∃ q, sm % (l.length + 1) = q := ⟨_, rfl⟩
  have hq1 : q ≤ l.length := by have := Nat.mod_lt sm (show 0 < l.length + 1 by omega); omega
  have hqz : (sm : Int) % ((l.length : Int) + 1) = (q : Int) := by rw [← hq]; rfl
  have hqt : (sm : Int).tmod ((l.length : Int) + 1) = (q : Int) := by rw [Int.tmod_eq_emod_of_nonneg (by omega)]; exact hqz
  have HO := Lib.hid (fun W : World => known04_any W)
  have n1 := alloc_new w (.cells #[.int .u64 keep, .int .i64 torn, .int .i64 bytes] 39)
  have b1 := alloc_below w (.cells #[.int .u64 keep, .int .i64 torn, .int .i64 bytes] 39)
  have s1 := alloc_size w (.cells #[.int .u64 keep, .int .i64 torn, .int .i64 bytes] 39)
  obtain ⟨w1, hw⟩ : ∃ w1, w.alloc (.cells #[.int .u64 keep, .int .i64 torn, .int .i64 bytes] 39) = w1 := ⟨_, rfl⟩
  rw [hw] at n1 b1 s1
  have HN1 := Lib.hid n1
  have HB1 := Lib.hid b1
  have HS1 := Lib.hid s1
  clear hp hr n1 b1 s1 hq
  go_enter Try.func4, Try.ntmps4
  go_upto_region 1 with (fail)
  have HHW := Lib.hid hw
  clear hw
  by_cases h60 : 60 < l.length
  · have h60' : (60 : Int) < (l.length : Int) := by omega
    go_wp2_with (go_at_call 16; refine (HO.out _).mono ?_; rintro e w2 ⟨rfl, bk⟩)
    go_ret
    exact ⟨rfl, below_step bk HB1.out (Nat.le_refl _)⟩
  have hl60 : l.length ≤ 60 := by omega
  have h60' : ¬ (60 : Int) < (l.length : Int) := by omega
  have HR := Lib.hid hr1
  have HL60 := Lib.hid hl60
  clear h60 hr1
  go_wp2_with (fail)
  refine (filled_any r HR.out.1 HR.out.2 A cap l HL60.out q w1 (HP.out.below rfl HB1.out)).mono ?_
  rintro e w2 hF
  obtain ⟨d, f, m, v, u, rfl, hH⟩ := (Hall.start w1).filled hF
  have hDl := fillD_length r q l
  have hBy := fun (i b : Nat) (hi : i < r) => crash_byte (n := r) (b := b) hq1 (hH.lab 0 _ rfl).disk.ok keep torn bytes hi
  have hSl := fun (i : Nat) (hi : i < r) => sec_len (hH.lab 0 _ rfl).disk.ok (i := i) (by rw [hDl]; exact hi)
  obtain ⟨D, hD⟩ : ∃ D, fillD r q l = D := ⟨_, rfl⟩
  rw [hD] at hDl hH
  simp only [hD] at hBy hSl
  have HDL := Lib.hid hDl
  have HBY := Lib.hid hBy
  have HSL := Lib.hid hSl
  have HH2 := Lib.hid hH.drop.nilRow
  clear hF hH h60' hsz hqz hqt hDl hBy hSl
  go_wp2_with (fail)
  go_loopw [13, 14] (fun v13 v14 wr => ∃ i : Nat, i ≤ r ∧ v14 = .int .i64 i ∧ Hid (Hall w1 wr [⟨d, f, m, v, D, .idle⟩] [(v13, secs D i)])) (fun _ v14 _ => r - (intOf v14).toNat)
  case atStart => exact ⟨0, Nat.zero_le _, rfl, HH2⟩
  case round =>
    obtain ⟨i, hi, rfl, hW⟩ := hrel
    by_cases hlt : i < r
    · have HiD : Hid (i < D.S.length) := by have := HDL.out; unfold Hid; omega
      have hi12 : i ≤ 12 := by have := HR.out; omega
      go_wp2_with (first
        | (go_at_call 21; refine (ddurable_any d f m v D i _ (hW.out.lab 0 _ rfl).disk).mono ?_; rw [doDurable_in HiD.out]; rintro e w6 ⟨rfl, b6⟩)
        | (
          at_builtin
          obtain ⟨A', cap', w8, hrun, h8⟩ := (hW.out.below b6).push' (secs_len D i) (secAt D.S i) (by omega)
          rw [← secs_succ] at h8
          have HW8 := Lib.hid h8
          refine wpList_append_eq rfl (.tmp 48) (.tmp 52) 25 rfl _ _ rfl rfl _ _ hrun ?_
          clear hrun h8 b6))
      go_roundw
      case rel => exact ⟨i + 1, by omega, by go_num, HW8⟩
      case measure => simp [intOf]; omega
    · obtain rfl : r = i := by omega
      have hblk : wr.heap[w.heap.size]? = some (.cells #[.int .u64 keep, .int .i64 torn, .int .i64 bytes] 39) := (hW.out.bel.block _ (by rw [HS1.out]; exact Nat.lt_succ_self _)).trans HN1.out
      have c0 : wr.cell? ⟨w.heap.size, 0, none⟩ = some (.int .u64 keep) := (cell_of hblk 0).trans rfl
      have c1 : wr.cell? ⟨w.heap.size, 1, none⟩ = some (.int .i64 torn) := (cell_of hblk 1).trans rfl
      have c2 : wr.cell? ⟨w.heap.size, 2, none⟩ = some (.int .i64 bytes) := (cell_of hblk 2).trans rfl
      clear hblk
      go_wp2_with (fail)
      refine (dcrash_any d f m v D keep torn bytes wr (hW.out.lab 0 _ rfl).disk).mono ?_
      rintro e w5 ⟨rfl, hd5, k5⟩
      have HCL : Hid ((D.crash keep torn bytes).S.length = r) := by unfold Hid; exact (tearFrom_length ..).trans HDL.out
      obtain ⟨C, hC⟩ : ∃ C, D.crash keep torn bytes = C := ⟨_, rfl⟩
      rw [hC] at hd5 HCL
      have HBC := Lib.hid (fun i b hi => hC ▸ HBY.out i b hi)
      have HH5 : Hid (Hall w1 w5 [⟨d, f, m, .slice none 0 0, C, .idle⟩] [(u13, secs D r)]) := hW.out.crash 0 rfl hd5 k5
      clear hd5 k5 c0 c1 c2 hW HBY hC
      go_wp2_with (fail)
      go_loopw [15] (fun v15 wr => ∃ i : Nat, i ≤ r ∧ v15 = .int .i64 i ∧ Hid (Hall w1 wr [⟨d, f, m, .slice none 0 0, C, .idle⟩] [(u13, secs D r)])) (fun v15 _ => r - (intOf v15).toNat)
      case atStart => exact ⟨0, Nat.zero_le _, rfl, HH5⟩
      case round =>
        clear HH5
        obtain ⟨i, hi, rfl, hW⟩ := hrel
        by_cases hlt : i < r
        · go_wp2_with (fail)
          refine (ddurable_any d f m _ C i _ (hW.out.lab 0 _ rfl).disk).mono ?_
          rw [doDurable_in (by rw [HCL.out]; exact hlt)]
          rintro e w6 ⟨rfl, b6⟩
          have HW6 := Lib.hid (hW.out.below b6)
          obtain ⟨g, cap3, rfl, c9, c9'⟩ := str_at' (HW6.out.row 0 _ rfl) (secs_len D r) hlt
          rw [secs_at D r hlt] at c9 c9'
          have hX80 := (HBC.out i 0 hlt).1
          have hY80 := HSL.out i hlt
          obtain ⟨X, hX⟩ : ∃ X, S (secAt C.S i) = X := ⟨_, rfl⟩
          obtain ⟨Y, hY⟩ : ∃ Y, S (secAt D.S i) = Y := ⟨_, rfl⟩
          have hXs : X.size = 80 := by rw [← hX, S_size]; exact hX80
          have hYs : Y.size = 80 := by rw [← hY, S_size]; exact hY80
          rw [hX]
          rw [hY] at c9 c9'
          have HX := Lib.hid hX
          have HY := Lib.hid hY
          have hrr : (r : Int) ≤ 12 := by have := HR.out; omega
          clear hX80 hY80 hX hY b6 hW
          go_upto_region 20 with (fail)
          go_wp2_with (fail)
          go_loopw [17] (fun v17 wr => ∃ b : Nat, b ≤ 80 ∧ v17 = .int .i64 b ∧ Hid (Below w6.heap.size w6 wr)) (fun v17 _ => 80 - (intOf v17).toNat)
          case atStart => exact ⟨0, Nat.zero_le _, rfl, .refl _ _⟩
          case round =>
            obtain ⟨b, hb, rfl, hB⟩ := hrel
            by_cases hlb : b < 80
            · have hbX : b < X.size := by omega
              have hbY : b < Y.size := by omega
              have C9 := Lib.hid (And.intro (below_cell (hB.out.trans (Below.refl _ _).drew) c9) (below_cell (hB.out.trans (Below.refl _ _).drew) c9'))
              go_upto_region 23 with (fail)
              go_region_held3 (fun w' => w'.cell? (Addr.add ⟨g, 0, none⟩ i) = some (.string Y) ∧ w'.cell? ⟨g, i, none⟩ = some (.string Y)) (exact C9.out) (fail)
              all_goals
                go_wp2_with (fail)
                have hbx : Hid (X[b] = (secAt C.S i).getD b 0) := S_byte HX.out hbX
                obtain ⟨m0, hm0⟩ : ∃ m0 : Bool, ((X[b].toNat : Int) == (Y[b].toNat : Int)) = m0 := ⟨_, rfl⟩
                have HM0 : Hid ((secAt C.S i).getD b 0 = (secAt D.S i).getD b 0 → m0 = true) := fun e => by
                  rw [← hm0, hbx.out, S_byte HY.out hbY, e]
                  exact beq_self_eq_true _
                rw [hm0]
                clear hm0
                go_loopw [18, 19] (fun v18 v19 wr => ∃ (j : Nat) (mm : Bool), q ≤ j ∧ j ≤ l.length ∧ v18 = .bool mm ∧ v19 = .int .i64 j ∧ Hid (MayB l r q i b X[b] m0 j mm) ∧ Hid (Below w6.heap.size w6 wr)) (fun _ v19 _ => l.length - (intOf v19).toNat)
                case atStart => exact ⟨q, m0, Nat.le_refl _, hq1, rfl, rfl, MayB.start .., hB.out.drew⟩
                case round =>
                  obtain ⟨j, mm, hqj, hjl, rfl, rfl, hM, hB6⟩ := hrel
                  by_cases hlj : j < l.length
                  · cases mm
                    · obtain ⟨q1, q2, ad, rfl, p1, p2⟩ := PutsAt.below (w0 := w) HP.out rfl (below_step hB6.out (below_step HW6.out.bel HB1.out (Nat.le_of_eq rfl)) (Nat.le_of_eq rfl)) j hlj
                      obtain ⟨⟨a, c⟩, hac⟩ : ∃ p, l[j] = p := ⟨_, rfl⟩
                      have HMo := fun hn => Lib.hid (hM.out.other hlj hn)
                      have HMs := fun m' hm => Lib.hid (hM.out.same hlj (m' := m') hm)
                      rw [hac] at q1 q2 p1 p2 HMo HMs
                      dsimp only at q1 q2 p1 p2 HMo HMs
                      have P9 := Lib.hid (show wr.drew.cell? _ = _ ∧ wr.drew.cell? _ = _ from And.intro p1 p2)
                      clear p1 p2 hM hac
                      have hr0 : ¬ r = 0 := by have := HR.out; omega
                      obtain ⟨ar, har⟩ : ∃ ar, a % r = ar := ⟨_, rfl⟩
                      have hz0 : (a : Int) % (r : Int) = (ar : Int) := by rw [← har]; rfl
                      have HM : Hid ((IntKind.i64.wrap (a : Int)).tmod (r : Int) = (ar : Int)) := by
                        show (IntKind.i64.wrap (a : Int)).tmod (r : Int) = (ar : Int)
                        rw [show IntKind.i64.wrap (a : Int) = (a : Int) by rw [IntKind.wrap_i64]; omega, Int.tmod_eq_emod_of_nonneg (by omega)]
                        exact hz0
                      rw [har] at HMo
                      clear har hz0
                      by_cases hai : ar = i
                      · subst hai
                        obtain ⟨Z, hZ⟩ : ∃ Z, S (sectorOf c) = Z := ⟨_, rfl⟩
                        have hZs : Z.size = 80 := by rw [← hZ, S_size]; exact sectorOf_length c
                        have hbZ : b < Z.size := by omega
                        have HZ := Lib.hid hZ
                        have HMn := HMs ((X[b].toNat : Int) == (Z[b].toNat : Int)) (fun e => by rw [e, S_byte HZ.out hbZ]; exact beq_self_eq_true _)
                        have hz2 : ((IntKind.i64.wrap (a : Int)).tmod (r : Int) == (ar : Int)) = true := by
                          rw [HM.out]
                          exact beq_self_eq_true _
                        clear HM hZ HMs HMo
                        go_upto_region 27 with (fail)
                        go_region_held3 (fun w' => w'.cell? (ad.add (j * 2)) = some (.int .u8 (a : Int)) ∧ w'.cell? ⟨(ad.add (j * 2)).block, (ad.add (j * 2)).off + 1, none⟩ = some (.int .u8 (c : Int))) (first | exact P9.out | exact hHeld | exact keep2 P9.out b9)
                          (first | (go_at_call 20; refine (sector_any c q2 _).mono ?_; rw [HZ.out]; rintro e w9 ⟨rfl, b9⟩))
                        all_goals
                          have HB' := Lib.hid (below_step b9 hB6.out.drew (Nat.le_refl _))
                          clear b9 hB6 hz2
                          go_wp2_with (fail)
                          go_roundw
                          case rel => exact ⟨j + 1, _, by omega, by omega, rfl, by go_num, HMn, HB'⟩
                          case measure => simp [intOf]; omega
                      · have hz2 : ((IntKind.i64.wrap (a : Int)).tmod (r : Int) == (i : Int)) = false := by
                          rw [HM.out, beq_eq_false_iff_ne]
                          omega
                        clear HM HMs
                        go_upto_region 27 with (fail)
                        refine wp_region_noPanic ?_
                        refine wp_region_held_drew (S := (fun w' => w'.cell? (ad.add (j * 2)) = some (.int .u8 (a : Int)) ∧ w'.cell? ⟨(ad.add (j * 2)).block, (ad.add (j * 2)).off + 1, none⟩ = some (.int .u8 (c : Int)))) (by kernel_rfl) (P9.out) (fun hHeld => ?_)
                        refine take_w 0 (some 99) ?_ rfl rfl (by kernel_rfl) (by kernel_rfl) (by kernel_rfl) (fun _ _ _ h => h) (by rfl) ?_ (by assumption) ?_
                        rotate_left
                        · intro w hSw
                          (try dsimp only at hSw)
                          go_simp <;> with_reducible rfl
                        (try simp only [Act.put, List.setIfInBounds_toArray, List.set_cons_zero, List.set_cons_succ])
                        refine take_w 1 (some 100) ?_ rfl rfl (by kernel_rfl) (by kernel_rfl) (by kernel_rfl) (fun _ _ _ h => h) (by rfl) ?_ (by assumption) ?_
                        rotate_left
                        · intro w hSw
                          (try dsimp only at hSw)
                          go_simp <;> with_reducible rfl
                        (try simp only [Act.put, List.setIfInBounds_toArray, List.set_cons_zero, List.set_cons_succ])
                        refine take_w 2 (some 101) ?_ rfl rfl (by kernel_rfl) (by kernel_rfl) (by kernel_rfl) (fun _ _ _ h => h) (by rfl) ?_ (by assumption) ?_
                        rotate_left
                        · intro w hSw
                          (try dsimp only at hSw)
                          go_simp <;> with_reducible rfl
                        (try simp only [Act.put, List.setIfInBounds_toArray, List.set_cons_zero, List.set_cons_succ])
                        refine take_w 3 (some 102) ?_ rfl rfl (by kernel_rfl) (by kernel_rfl) (by kernel_rfl) (fun _ _ _ h => h) (by rfl) ?_ (by assumption) ?_
                        rotate_left
                        · intro w hSw
                          (try dsimp only at hSw)
                          go_simp <;> with_reducible rfl
                        (try simp only [Act.put, List.setIfInBounds_toArray, List.set_cons_zero, List.set_cons_succ])
                        refine take_w 4 (some 103) ?_ rfl rfl (by kernel_rfl) (by kernel_rfl) (by kernel_rfl) (fun _ _ _ h => h) (by rfl) ?_ (by assumption) ?_
                        rotate_left
                        · intro w hSw
                          (try dsimp only at hSw)
                          go_simp <;> with_reducible rfl
                        (try simp only [Act.put, List.setIfInBounds_toArray, List.set_cons_zero, List.set_cons_succ])
                        refine take_w 5 (some 104) ?_ rfl rfl (by kernel_rfl) (by kernel_rfl) (by kernel_rfl) (fun _ _ _ h => h) (by rfl) ?_ (by assumption) ?_
                        rotate_left
                        · intro w hSw
                          (try dsimp only at hSw)
                          go_simp <;> with_reducible rfl
                        (try simp only [Act.put, List.setIfInBounds_toArray, List.set_cons_zero, List.set_cons_succ])
                        refine take_w 6 (some 105) ?_ rfl rfl (by kernel_rfl) (by kernel_rfl) (by kernel_rfl) (fun _ _ _ h => h) (by rfl) ?_ (by assumption) ?_
                        rotate_left
                        · intro w hSw
                          (try dsimp only at hSw)
                          go_simp <;> with_reducible rfl
                        (try simp only [Act.put, List.setIfInBounds_toArray, List.set_cons_zero, List.set_cons_succ])
                        refine take_w 7 (some 106) ?_ rfl rfl (by kernel_rfl) (by kernel_rfl) (by kernel_rfl) (fun _ _ _ h => h) (by rfl) ?_ (by assumption) ?_
                        rotate_left
                        · intro w hSw
                          (try dsimp only at hSw)
                          go_simp <;> with_reducible rfl
                        (try simp only [Act.put, List.setIfInBounds_toArray, List.set_cons_zero, List.set_cons_succ])
                        refine take_w 8 (some 107) ?_ rfl rfl (by kernel_rfl) (by kernel_rfl) (by kernel_rfl) (fun _ _ _ h => h) (by rfl) ?_ (by assumption) ?_
                        rotate_left
                        · intro w hSw
                          (try dsimp only at hSw)
                          go_simp <;> with_reducible rfl
                        (try simp only [Act.put, List.setIfInBounds_toArray, List.set_cons_zero, List.set_cons_succ])
                        refine take_w 9 (some 108) ?_ rfl rfl (by kernel_rfl) (by kernel_rfl) (by kernel_rfl) (fun _ _ _ h => h) (by rfl) ?_ (by assumption) ?_
                        rotate_left
                        · intro w hSw
                          (try dsimp only at hSw)
                          go_simp <;> with_reducible rfl
                        (try simp only [Act.put, List.setIfInBounds_toArray, List.set_cons_zero, List.set_cons_succ])
                        refine take_w 10 (some 109) ?_ rfl rfl (by kernel_rfl) (by kernel_rfl) (by kernel_rfl) (fun _ _ _ h => h) (by rfl) ?_ (by assumption) ?_
                        rotate_left
                        · intro w hSw
                          (try dsimp only at hSw)
                          go_simp <;> with_reducible rfl
                        (try simp only [Act.put, List.setIfInBounds_toArray, List.set_cons_zero, List.set_cons_succ])
                        refine take_w 11 (some 110) ?_ rfl rfl (by kernel_rfl) (by kernel_rfl) (by kernel_rfl) (fun _ _ _ h => h) (by rfl) ?_ (by assumption) ?_
                        rotate_left
                        · intro w hSw
                          (try dsimp only at hSw)
                          go_simp <;> with_reducible rfl
                        (try simp only [Act.put, List.setIfInBounds_toArray, List.set_cons_zero, List.set_cons_succ])
                        refine take_w 12 (some 111) ?_ rfl rfl (by kernel_rfl) (by kernel_rfl) (by kernel_rfl) (fun _ _ _ h => h) (by rfl) ?_ (by assumption) ?_
                        rotate_left
                        · intro w hSw
                          (try dsimp only at hSw)
                          go_simp <;> with_reducible rfl
                        (try simp only [Act.put, List.setIfInBounds_toArray, List.set_cons_zero, List.set_cons_succ])
                        refine take_u 13 (some 112) rfl rfl (by kernel_rfl) (by kernel_rfl) (by kernel_rfl) (fun _ _ _ h => h) (by rfl) (by assumption) ?_
                        (try simp only [Act.put, List.setIfInBounds_toArray, List.set_cons_zero, List.set_cons_succ])
                        refine take_u 14 (some 113) rfl rfl (by kernel_rfl) (by kernel_rfl) (by kernel_rfl) (fun _ _ _ h => h) (by rfl) (by assumption) ?_
                        (try simp only [Act.put, List.setIfInBounds_toArray, List.set_cons_zero, List.set_cons_succ])
                        refine take_u 15 (some 114) rfl rfl (by kernel_rfl) (by kernel_rfl) (by kernel_rfl) (fun _ _ _ h => h) (by rfl) (by assumption) ?_
                        (try simp only [Act.put, List.setIfInBounds_toArray, List.set_cons_zero, List.set_cons_succ])
                        refine take_u 16 (some 115) rfl rfl (by kernel_rfl) (by kernel_rfl) (by kernel_rfl) (fun _ _ _ h => h) (by rfl) (by assumption) ?_
                        (try simp only [Act.put, List.setIfInBounds_toArray, List.set_cons_zero, List.set_cons_succ])
                        refine take_u 17 (some 116) rfl rfl (by kernel_rfl) (by kernel_rfl) (by kernel_rfl) (fun _ _ _ h => h) (by rfl) (by assumption) ?_
                        (try simp only [Act.put, List.setIfInBounds_toArray, List.set_cons_zero, List.set_cons_succ])
                        refine take_u 18 (some 117) rfl rfl (by kernel_rfl) (by kernel_rfl) (by kernel_rfl) (fun _ _ _ h => h) (by rfl) (by assumption) ?_
                        (try simp only [Act.put, List.setIfInBounds_toArray, List.set_cons_zero, List.set_cons_succ])
                        refine take_u 19 (some 118) rfl rfl (by kernel_rfl) (by kernel_rfl) (by kernel_rfl) (fun _ _ _ h => h) (by rfl) (by assumption) ?_
                        (try simp only [Act.put, List.setIfInBounds_toArray, List.set_cons_zero, List.set_cons_succ])
                        refine take_u 20 (some 119) rfl rfl (by kernel_rfl) (by kernel_rfl) (by kernel_rfl) (fun _ _ _ h => h) (by rfl) (by assumption) ?_
                        (try simp only [Act.put, List.setIfInBounds_toArray, List.set_cons_zero, List.set_cons_succ])
                        refine take_u 21 (some 120) rfl rfl (by kernel_rfl) (by kernel_rfl) (by kernel_rfl) (fun _ _ _ h => h) (by rfl) (by assumption) ?_
                        (try simp only [Act.put, List.setIfInBounds_toArray, List.set_cons_zero, List.set_cons_succ])
                        refine take_u 22 (some 121) rfl rfl (by kernel_rfl) (by kernel_rfl) (by kernel_rfl) (fun _ _ _ h => h) (by rfl) (by assumption) ?_
                        (try simp only [Act.put, List.setIfInBounds_toArray, List.set_cons_zero, List.set_cons_succ])
                        refine take_u 23 (some 122) rfl rfl (by kernel_rfl) (by kernel_rfl) (by kernel_rfl) (fun _ _ _ h => h) (by rfl) (by assumption) ?_
                        (try simp only [Act.put, List.setIfInBounds_toArray, List.set_cons_zero, List.set_cons_succ])
                        refine take_u 24 (some 123) rfl rfl (by kernel_rfl) (by kernel_rfl) (by kernel_rfl) (fun _ _ _ h => h) (by rfl) (by assumption) ?_
                        (try simp only [Act.put, List.setIfInBounds_toArray, List.set_cons_zero, List.set_cons_succ])
                        refine take_w 25 (some 124) ?_ rfl rfl (by kernel_rfl) (by kernel_rfl) (by kernel_rfl) (fun _ _ _ h => h) (by rfl) ?_ (by assumption) ?_
                        rotate_left
                        · intro w hSw
                          (try dsimp only at hSw)
                          go_simp <;> with_reducible rfl
                        (try simp only [Act.put, List.setIfInBounds_toArray, List.set_cons_zero, List.set_cons_succ])
                        refine take_w 26 (some 125) ?_ rfl rfl (by kernel_rfl) (by kernel_rfl) (by kernel_rfl) (fun _ _ _ h => h) (by rfl) ?_ (by assumption) ?_
                        rotate_left
                        · intro w hSw
                          (try dsimp only at hSw)
                          go_simp <;> with_reducible rfl
                        (try simp only [Act.put, List.setIfInBounds_toArray, List.set_cons_zero, List.set_cons_succ])
                        refine take_w 27 (some 18) ?_ rfl rfl (by kernel_rfl) (by kernel_rfl) (by kernel_rfl) (fun _ _ _ h => h) (by rfl) ?_ (by assumption) ?_
                        rotate_left
                        · intro w hSw
                          (try dsimp only at hSw)
                          go_simp <;> with_reducible rfl
                        (try simp only [Act.put, List.setIfInBounds_toArray, List.set_cons_zero, List.set_cons_succ])
                        refine wpAnyH_done (by kernel_rfl) ?_ _
                        refine NoPanic.normal ?_
                        have hb' : Below w6.heap.size w6 wr.drew := hB6.out.drew
                        have HB' := Lib.hid hb'
                        have HMn := HMo hai
                        clear hb' HMo hz2 P9 hB6
                        go_wp2_with (fail)
                        go_roundw
                        case rel => exact ⟨j + 1, false, by omega, by omega, rfl, by go_num, HMn, HB'⟩
                        case measure => simp [intOf]; omega
                    · go_upto_region 27 with (fail)
                      refine wp_region_noPanic ?_
                      refine wp_region_held_drew (S := (fun _ => True)) (by kernel_rfl) (trivial) (fun hHeld => ?_)
                      refine take_w 0 (some 99) ?_ rfl rfl (by kernel_rfl) (by kernel_rfl) (by kernel_rfl) (fun _ _ _ h => h) (by rfl) ?_ (by assumption) ?_
                      rotate_left
                      · intro w hSw
                        (try dsimp only at hSw)
                        go_simp <;> with_reducible rfl
                      (try simp only [Act.put, List.setIfInBounds_toArray, List.set_cons_zero, List.set_cons_succ])
                      refine take_w 1 (some 100) ?_ rfl rfl (by kernel_rfl) (by kernel_rfl) (by kernel_rfl) (fun _ _ _ h => h) (by rfl) ?_ (by assumption) ?_
                      rotate_left
                      · intro w hSw
                        (try dsimp only at hSw)
                        go_simp <;> with_reducible rfl
                      (try simp only [Act.put, List.setIfInBounds_toArray, List.set_cons_zero, List.set_cons_succ])
                      refine take_u 2 (some 101) rfl rfl (by kernel_rfl) (by kernel_rfl) (by kernel_rfl) (fun _ _ _ h => h) (by rfl) (by assumption) ?_
                      (try simp only [Act.put, List.setIfInBounds_toArray, List.set_cons_zero, List.set_cons_succ])
                      refine take_u 3 (some 102) rfl rfl (by kernel_rfl) (by kernel_rfl) (by kernel_rfl) (fun _ _ _ h => h) (by rfl) (by assumption) ?_
                      (try simp only [Act.put, List.setIfInBounds_toArray, List.set_cons_zero, List.set_cons_succ])
                      refine take_u 4 (some 103) rfl rfl (by kernel_rfl) (by kernel_rfl) (by kernel_rfl) (fun _ _ _ h => h) (by rfl) (by assumption) ?_
                      (try simp only [Act.put, List.setIfInBounds_toArray, List.set_cons_zero, List.set_cons_succ])
                      refine take_u 5 (some 104) rfl rfl (by kernel_rfl) (by kernel_rfl) (by kernel_rfl) (fun _ _ _ h => h) (by rfl) (by assumption) ?_
                      (try simp only [Act.put, List.setIfInBounds_toArray, List.set_cons_zero, List.set_cons_succ])
                      refine take_u 6 (some 105) rfl rfl (by kernel_rfl) (by kernel_rfl) (by kernel_rfl) (fun _ _ _ h => h) (by rfl) (by assumption) ?_
                      (try simp only [Act.put, List.setIfInBounds_toArray, List.set_cons_zero, List.set_cons_succ])
                      refine take_u 7 (some 106) rfl rfl (by kernel_rfl) (by kernel_rfl) (by kernel_rfl) (fun _ _ _ h => h) (by rfl) (by assumption) ?_
                      (try simp only [Act.put, List.setIfInBounds_toArray, List.set_cons_zero, List.set_cons_succ])
                      refine take_u 8 (some 107) rfl rfl (by kernel_rfl) (by kernel_rfl) (by kernel_rfl) (fun _ _ _ h => h) (by rfl) (by assumption) ?_
                      (try simp only [Act.put, List.setIfInBounds_toArray, List.set_cons_zero, List.set_cons_succ])
                      refine take_u 9 (some 108) rfl rfl (by kernel_rfl) (by kernel_rfl) (by kernel_rfl) (fun _ _ _ h => h) (by rfl) (by assumption) ?_
                      (try simp only [Act.put, List.setIfInBounds_toArray, List.set_cons_zero, List.set_cons_succ])
                      refine take_u 10 (some 109) rfl rfl (by kernel_rfl) (by kernel_rfl) (by kernel_rfl) (fun _ _ _ h => h) (by rfl) (by assumption) ?_
                      (try simp only [Act.put, List.setIfInBounds_toArray, List.set_cons_zero, List.set_cons_succ])
                      refine take_u 11 (some 110) rfl rfl (by kernel_rfl) (by kernel_rfl) (by kernel_rfl) (fun _ _ _ h => h) (by rfl) (by assumption) ?_
                      (try simp only [Act.put, List.setIfInBounds_toArray, List.set_cons_zero, List.set_cons_succ])
                      refine take_u 12 (some 111) rfl rfl (by kernel_rfl) (by kernel_rfl) (by kernel_rfl) (fun _ _ _ h => h) (by rfl) (by assumption) ?_
                      (try simp only [Act.put, List.setIfInBounds_toArray, List.set_cons_zero, List.set_cons_succ])
                      refine take_u 13 (some 112) rfl rfl (by kernel_rfl) (by kernel_rfl) (by kernel_rfl) (fun _ _ _ h => h) (by rfl) (by assumption) ?_
                      (try simp only [Act.put, List.setIfInBounds_toArray, List.set_cons_zero, List.set_cons_succ])
                      refine take_u 14 (some 113) rfl rfl (by kernel_rfl) (by kernel_rfl) (by kernel_rfl) (fun _ _ _ h => h) (by rfl) (by assumption) ?_
                      (try simp only [Act.put, List.setIfInBounds_toArray, List.set_cons_zero, List.set_cons_succ])
                      refine take_u 15 (some 114) rfl rfl (by kernel_rfl) (by kernel_rfl) (by kernel_rfl) (fun _ _ _ h => h) (by rfl) (by assumption) ?_
                      (try simp only [Act.put, List.setIfInBounds_toArray, List.set_cons_zero, List.set_cons_succ])
                      refine take_u 16 (some 115) rfl rfl (by kernel_rfl) (by kernel_rfl) (by kernel_rfl) (fun _ _ _ h => h) (by rfl) (by assumption) ?_
                      (try simp only [Act.put, List.setIfInBounds_toArray, List.set_cons_zero, List.set_cons_succ])
                      refine take_u 17 (some 116) rfl rfl (by kernel_rfl) (by kernel_rfl) (by kernel_rfl) (fun _ _ _ h => h) (by rfl) (by assumption) ?_
                      (try simp only [Act.put, List.setIfInBounds_toArray, List.set_cons_zero, List.set_cons_succ])
                      refine take_u 18 (some 117) rfl rfl (by kernel_rfl) (by kernel_rfl) (by kernel_rfl) (fun _ _ _ h => h) (by rfl) (by assumption) ?_
                      (try simp only [Act.put, List.setIfInBounds_toArray, List.set_cons_zero, List.set_cons_succ])
                      refine take_u 19 (some 118) rfl rfl (by kernel_rfl) (by kernel_rfl) (by kernel_rfl) (fun _ _ _ h => h) (by rfl) (by assumption) ?_
                      (try simp only [Act.put, List.setIfInBounds_toArray, List.set_cons_zero, List.set_cons_succ])
                      refine take_u 20 (some 119) rfl rfl (by kernel_rfl) (by kernel_rfl) (by kernel_rfl) (fun _ _ _ h => h) (by rfl) (by assumption) ?_
                      (try simp only [Act.put, List.setIfInBounds_toArray, List.set_cons_zero, List.set_cons_succ])
                      refine take_u 21 (some 120) rfl rfl (by kernel_rfl) (by kernel_rfl) (by kernel_rfl) (fun _ _ _ h => h) (by rfl) (by assumption) ?_
                      (try simp only [Act.put, List.setIfInBounds_toArray, List.set_cons_zero, List.set_cons_succ])
                      refine take_u 22 (some 121) rfl rfl (by kernel_rfl) (by kernel_rfl) (by kernel_rfl) (fun _ _ _ h => h) (by rfl) (by assumption) ?_
                      (try simp only [Act.put, List.setIfInBounds_toArray, List.set_cons_zero, List.set_cons_succ])
                      refine take_u 23 (some 122) rfl rfl (by kernel_rfl) (by kernel_rfl) (by kernel_rfl) (fun _ _ _ h => h) (by rfl) (by assumption) ?_
                      (try simp only [Act.put, List.setIfInBounds_toArray, List.set_cons_zero, List.set_cons_succ])
                      refine take_u 24 (some 123) rfl rfl (by kernel_rfl) (by kernel_rfl) (by kernel_rfl) (fun _ _ _ h => h) (by rfl) (by assumption) ?_
                      (try simp only [Act.put, List.setIfInBounds_toArray, List.set_cons_zero, List.set_cons_succ])
                      refine take_u 25 (some 124) rfl rfl (by kernel_rfl) (by kernel_rfl) (by kernel_rfl) (fun _ _ _ h => h) (by rfl) (by assumption) ?_
                      (try simp only [Act.put, List.setIfInBounds_toArray, List.set_cons_zero, List.set_cons_succ])
                      refine take_w 26 (some 125) ?_ rfl rfl (by kernel_rfl) (by kernel_rfl) (by kernel_rfl) (fun _ _ _ h => h) (by rfl) ?_ (by assumption) ?_
                      rotate_left
                      · intro w hSw
                        (try dsimp only at hSw)
                        go_simp <;> with_reducible rfl
                      (try simp only [Act.put, List.setIfInBounds_toArray, List.set_cons_zero, List.set_cons_succ])
                      refine take_w 27 (some 18) ?_ rfl rfl (by kernel_rfl) (by kernel_rfl) (by kernel_rfl) (fun _ _ _ h => h) (by rfl) ?_ (by assumption) ?_
                      rotate_left
                      · intro w hSw
                        (try dsimp only at hSw)
                        go_simp <;> with_reducible rfl
                      (try simp only [Act.put, List.setIfInBounds_toArray, List.set_cons_zero, List.set_cons_succ])
                      refine wpAnyH_done (by kernel_rfl) ?_ _
                      refine NoPanic.normal ?_
                      have HB' := Lib.hid hB6.out.drew
                      clear hB6 hM
                      go_wp2_with (fail)
                      go_roundw
                      case rel => exact ⟨j + 1, true, by omega, by omega, rfl, by go_num, MayB.yes, HB'⟩
                      case measure => simp [intOf]; omega
                  · obtain rfl : l.length = j := by omega
                    have hmt : mm = true := by
                      rcases (HBC.out i b hlt).2 with e | ⟨t, ht, h1, h2, h3⟩
                      · exact hM.out.1 (HM0.out e)
                      · exact hM.out.2 t ht h1 ht h2 (hbx.out.trans h3)
                    subst hmt
                    have HB' := Lib.hid hB6.out
                    clear hM hB6
                    go_wp2_with (fail)
                    go_roundw
                    case rel => exact ⟨b + 1, by omega, by go_num, HB'⟩
                    case measure => simp [intOf]; omega
            · obtain rfl : b = 80 := by omega
              have HB' := Lib.hid (HW6.out.below hB.out)
              clear hB c9 c9'
              go_wp2_with (fail)
              go_roundw
              case rel => exact ⟨i + 1, by omega, by go_num, HB'⟩
              case measure => simp [intOf]; omega
        · obtain rfl : i = r := by omega
          go_wp2_with (go_at_call 16; refine (HO.out _).mono ?_; rintro e w9 ⟨rfl, bk⟩)
          go_ret
          exact ⟨rfl, below_step (hW.out.below bk).bel HB1.out (Nat.le_of_eq rfl)⟩
theorem diskBytes_row (a0 : Int) (a1 : Option Addr) (c1 : Nat) (z1 : List (Nat × Nat)) (a2 : Int) (keep torn bytes : Int) (W : World) (w0 : (Lit.int .u8 a0).wf = true) (w1 : PutsAt W a1 z1) (w2 : (Lit.int .u8 a2).wf = true) (_x : (Lit.int .u64 keep).wf = true) (_y : (Lit.int .i64 torn).wf = true) (_z : (Lit.int .i64 bytes).wf = true) :
    Calls Try.prog 4 #[.int .u8 a0, .slice a1 z1.length c1, .int .u8 a2, .agg #[.int .u64 keep, .int .i64 torn, .int .i64 bytes]] W fun e w' => e = .returned (.bool true) ∧ Below W.heap.size W w' := by
  obtain ⟨n, rfl, hn⟩ := u8_nat w0
  obtain ⟨k, rfl, hk⟩ := u8_nat w2
  exact diskBytes_any n hn a1 c1 z1 k hk keep torn bytes W w1
end Go.Proofs.Ytjpelmjocdodcaa
