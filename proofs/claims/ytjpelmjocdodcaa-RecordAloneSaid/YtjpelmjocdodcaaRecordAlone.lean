/- RecordAlone. -/
import Derived.Test.YtjpelmjocdodcaaRecAlone
namespace Go.Proofs.Ytjpelmjocdodcaa
open Go.RowKit Go.ChangeMaps

set_option maxRecDepth 100000 in
set_option maxHeartbeats 4000000 in
theorem recordAlone_any (t : List UInt8) (i sd : Nat) (hi : i < 256) (hsd : sd < 256) (w : World) :
    Calls Try.prog 11 #[.string (S t), .int .u8 i, .int .u8 sd] w fun e w' => e = .returned (.bool true) ∧ Below w.heap.size w w' := by
  have HO := Lib.hid (fun W : World => known06_any W)
  by_cases h : 400 < t.length
  · have h' : (400 : Int) < (t.length : Int) := by omega
    go_enter Try.func11, Try.ntmps11
    go_wp2_with (fail)
    refine (secs_any 5 6 1 (by decide) t w).mono ?_
    rintro e w1 ⟨A, cap, rfl, -, b1, -⟩
    have HB1 := Lib.hid b1
    clear b1
    go_wp2_with (go_at_call 38; refine (HO.out _).mono ?_; rintro e w2 ⟨rfl, bk⟩)
    go_ret
    exact ⟨rfl, below_step bk HB1.out (Nat.le_refl _)⟩
  · have h' : ¬ (400 : Int) < (t.length : Int) := by omega
    have hb : ROk 5 6 := by unfold ROk; decide
    have hs := secs_any 5 6 1 (by decide) t w
    have h2 : (recSecs 5 6 1 t).2 = 0 := by rw [recSecs_ok (by omega) hb]
    have hlen : (recSecs 5 6 1 t).1.length = npart t.length := recSecs_len (by omega) hb
    have h80 : ∀ s ∈ (recSecs 5 6 1 t).1, s.length = 80 := fun s hs => recSecs_80 hs
    have hread := fun k L hL => alone_read (t := t) (by omega) k sd L hL
    have hp : 1 ≤ npart t.length ∧ npart t.length ≤ 10 := ⟨npart_pos _, by unfold npart; omega⟩
    rw [h2] at hs
    obtain ⟨L, hL⟩ : ∃ L, (recSecs 5 6 1 t).1 = L := ⟨_, rfl⟩
    have HREAD := Lib.hid (fun k => hread k L hL)
    rw [hL] at hs h80 hlen
    rw [← hlen] at hp
    obtain ⟨hp1, hp2⟩ := hp
    have H80 := Lib.hid h80
    have hpi : ¬ (L.length : Int) < 1 := by omega
    clear h2 hlen h80 hread hL hb h
    go_enter Try.func11, Try.ntmps11
    go_wp2_with (fail)
    refine hs.mono ?_
    rintro e w1 ⟨A, cap, rfl, hr, b1, hf⟩
    have HH1 : Hid (Hall w w1 [] [(.slice A L.length cap, L)]) := ((Hall.start w).below b1).addRow hr (fun k hk => ⟨hf k hk, nofun, nofun⟩)
    clear hr b1 hf hs
    go_wp2_with (fail)
    refine (fnew_any w1).mono ?_
    rintro e w2 ⟨rfl, hw2⟩
    have HS2 := Lib.hid (show w2.heap.size = w1.heap.size + 1 by rw [hw2]; exact alloc_size _ _)
    have HW2 := Lib.hid hw2
    clear hw2
    go_wp2_with (fail)
    refine (dnew_ok 30 w1.heap.size w2 (by omega) (by omega) (by have := HS2.out; omega)).mono ?_
    rintro e w3 ⟨rfl, hd, hbl⟩
    obtain ⟨h3, F3, B3⟩ := Lab.new HW2.out hd hbl
    obtain ⟨d, hdd⟩ : ∃ d, w2.heap.size + 1 = d := ⟨_, rfl⟩
    obtain ⟨m, hmm⟩ : ∃ m, w2.heap.size = m := ⟨_, rfl⟩
    obtain ⟨f, hff⟩ : ∃ f, w1.heap.size = f := ⟨_, rfl⟩
    have HH3 : Hid (Hall w w3 [⟨d, f, m, .slice none 0 0, Dk.new 30, .idle⟩] [(.slice A L.length cap, L)]) := by
      have := HH1.out.addDisk (s := ⟨w2.heap.size + 1, w1.heap.size, w2.heap.size, .slice none 0 0, Dk.new 30, .idle⟩) h3 F3 B3
      rw [hdd, hff, hmm] at this
      exact this
    rw [hdd]
    clear hd hbl h3 F3 B3 hdd hmm hff HH1 HW2 HS2
    have hw := rwrite_any w w3 d f m _ _ _ 0 _ L HH3.out rfl 10 (by show 10 + L.length ≤ (List.replicate 30 Z80).length; rw [List.length_replicate]; omega) H80.out (by show 0 + L.length ≤ 1000000; omega)
    rw [show ((10:Nat):Int) = 10 from rfl] at hw
    go_wp2_with (fail)
    refine hw.mono ?_
    rintro e w4 ⟨rfl, v4, hH4⟩
    have HH4 := Lib.hid hH4
    clear hH4 hw HH3
    obtain ⟨k, hk⟩ : ∃ k, i % 30 = k := ⟨_, rfl⟩
    have hk' : (i : Int) % 30 = (k : Int) := by omega
    have hk30 : k < 30 := by omega
    have hmk0 := run_make_row' (P := Try.prog) 83 5 (.int .u8 0) Try.underlying83 (bytes := 1) (by kernel_rfl) rfl .i64 .i64 80 (by omega) (by omega) w4
    obtain ⟨C, hC⟩ : ∃ C, madeCells #[.int .u8 0] 80 = C := ⟨_, rfl⟩
    have hCs : C.size = 80 := by rw [← hC]; simp [madeCells]
    rw [hC] at hmk0
    have hmk : (Instr.makeSlice 83 (.int .i64 80) (.int .i64 80)).run Try.prog w4 = .ok (.slice (some ⟨w4.heap.size, 0, none⟩) 80 80) (w4.alloc (.cells C 5)) := hmk0
    have HCS := Lib.hid hCs
    clear hmk0 hC hCs
    go_wp2_with (fail)
    go_loopw [13] (fun v13 wr => ∃ j : Nat, j ≤ 80 ∧ v13 = .int .i64 j ∧ ∃ B : Array Value, Hid (B.size = 80) ∧ Hid (∀ q, q < j → B[q]? = some (.int .u8 (UInt8.ofNat (sd + q)).toNat)) ∧ wr = w4.alloc (.cells B 5)) (fun v13 _ => 80 - (intOf v13).toNat)
    case atStart => exact ⟨0, Nat.zero_le _, rfl, C, HCS.out, fun j hj => absurd hj (by omega), rfl⟩
    case round =>
      obtain ⟨j, hj, rfl, B, hs, ha, rfl⟩ := hrel
      by_cases hlt : j < 80
      · obtain ⟨v0, hv⟩ : ∃ v, B[j]? = some v := ⟨B[j]'(by rw [hs.out]; exact hlt), Array.getElem?_eq_getElem (by rw [hs.out]; exact hlt)⟩
        have hv' : Hid (((UInt8.ofNat (sd + j)).toNat : Int) = ((sd : Int) + j) % 256) := by unfold Hid; rw [UInt8.toNat_ofNat']; omega
        go_wp2
        go_roundw
        case rel => exact ⟨j + 1, by omega, by go_num, _, by unfold Hid; rw [Array.size_setIfInBounds]; exact hs.out, fun q hq => by
          by_cases h : q = j
          · subst h; rw [Array.getElem?_setIfInBounds_self_of_lt (by rw [hs.out]; exact hlt), hv'.out]
          · rw [Array.getElem?_setIfInBounds_ne (by omega)]; exact ha.out q (by omega), rfl⟩
        case measure => simp [intOf]; omega
      · obtain rfl : j = 80 := by omega
        have hcv0 := run_convert_bytes_arg (P := Try.prog) (w4.alloc (.cells B 5)) 83 5 Try.underlying83 Try.underlying5 w4.heap.size 0 80 80 (numsOf (seedSec sd)) (by rw [numsOf_length, seedSec_length])
          (fun q hq => by
            rw [Nat.zero_add, World.cell?_alloc_new, ha.out q hq, ← seedSec_get sd q hq]
            simp [numsOf, List.getD_eq_getElem?_getD, List.getElem?_map]
            cases (seedSec sd)[q]? <;> simp) 9 Try.underlying9
        rw [strOfNums_numsOf, S_mk] at hcv0
        have H5 := HH4.out.below (alloc_below w4 (.cells B 5))
        obtain ⟨w5, hw5⟩ : ∃ w5, w4.alloc (.cells B 5) = w5 := ⟨_, rfl⟩
        rw [hw5] at H5 hcv0 ⊢
        have HH5 := Lib.hid H5
        have hwr := dwrite_any d f m v4 ((Dk.new 30).puts 10 L) .idle k (seedSec sd) w5 (H5.lab 0 _ rfl).disk (H5.lab 0 _ rfl).fuse (by show ([] ++ wputs 10 L).length ≤ 1000000; rw [List.nil_append, wputs_len]; omega)
        rw [doWrite_ok (D := (Dk.new 30).puts 10 L) (show k < (List.replicate 30 Z80).length by rw [List.length_replicate]; exact hk30) (seedSec_length sd)] at hwr
        dsimp only at hwr
        clear H5 hw5 hs ha hmk HH4
        go_wp2_with (fail)
        refine hwr.mono ?_
        rintro e w6 ⟨rfl, ha6⟩
        obtain ⟨v6, h6⟩ := HH5.out.after 0 rfl ha6
        have HH6 : Hid (Hall w w6 [⟨d, f, m, v6, ((Dk.new 30).puts 10 L).write k (seedSec sd), .idle⟩] [(.slice A L.length cap, L)]) := h6
        have hrd := read_any d f m v6 _ .idle 10 (10 + (L.length : Int)) 6 5 w6 (HH6.out.lab 0 _ rfl)
        rw [HREAD.out k] at hrd
        clear h6 ha6 hwr hcv0 HH5
        by_cases hin : 10 ≤ k ∧ k < 10 + L.length
        · rw [if_pos hin] at hrd
          have g1 : (10 : Int) ≤ (k : Int) := by omega
          have g2 : (k : Int) < 10 + (L.length : Int) := by omega
          go_wp2_with (fail)
          refine hrd.mono ?_
          unfold zfrm
          rintro e w7 ⟨rfl, b7⟩
          have HB7 := Lib.hid (below_step (alloc_below w7 (.cells zcells 77)) (HH6.out.below b7).bel (Nat.le_refl _))
          clear b7 hrd
          go_wp2_with (go_at_call 38; refine (HO.out _).mono ?_; rintro e w8 ⟨rfl, bk⟩)
          go_ret
          exact ⟨rfl, below_step bk HB7.out (Nat.le_refl _)⟩
        · rw [if_neg hin] at hrd
          have g2 : 10 ≤ k → ¬ (k : Int) < 10 + (L.length : Int) := by omega
          by_cases g1 : 10 ≤ k
          · have g1' : (10 : Int) ≤ (k : Int) := by omega
            have g2' := g2 g1
            clear g2 hin
            go_wp2_with (fail)
            refine hrd.mono ?_
            rintro e w7 ⟨rfl, b7⟩
            have q7 := alloc_new w7 (.cells #[.int .i64 5, .int .i64 6, .int .i64 0, .int .i64 (L.length : Int), .int .u8 1, .string (S t)] 77)
            have B7 := alloc_below w7 (.cells #[.int .i64 5, .int .i64 6, .int .i64 0, .int .i64 (L.length : Int), .int .u8 1, .string (S t)] 77)
            have i0 := (cell_of q7 0).trans rfl
            have i1 := (cell_of q7 1).trans rfl
            have i2 := (cell_of q7 2).trans rfl
            have i3 := (cell_of q7 3).trans rfl
            have i4 := (cell_of q7 4).trans rfl
            have i5 := (cell_of q7 5).trans rfl
            have HB7 := Lib.hid (below_step B7 (HH6.out.below b7).bel (Nat.le_refl _))
            clear b7 B7 q7 hrd
            go_wp2_with (go_at_call 38; refine (HO.out _).mono ?_; rintro e w8 ⟨rfl, bk⟩)
            go_ret
            exact ⟨rfl, below_step bk HB7.out (Nat.le_refl _)⟩
          · have g1' : ¬ (10 : Int) ≤ (k : Int) := by omega
            clear g2 hin
            go_wp2_with (fail)
            refine hrd.mono ?_
            rintro e w7 ⟨rfl, b7⟩
            have q7 := alloc_new w7 (.cells #[.int .i64 5, .int .i64 6, .int .i64 0, .int .i64 (L.length : Int), .int .u8 1, .string (S t)] 77)
            have B7 := alloc_below w7 (.cells #[.int .i64 5, .int .i64 6, .int .i64 0, .int .i64 (L.length : Int), .int .u8 1, .string (S t)] 77)
            have i0 := (cell_of q7 0).trans rfl
            have i1 := (cell_of q7 1).trans rfl
            have i2 := (cell_of q7 2).trans rfl
            have i3 := (cell_of q7 3).trans rfl
            have i4 := (cell_of q7 4).trans rfl
            have i5 := (cell_of q7 5).trans rfl
            have HB7 := Lib.hid (below_step B7 (HH6.out.below b7).bel (Nat.le_refl _))
            clear b7 B7 q7 hrd
            go_wp2_with (go_at_call 38; refine (HO.out _).mono ?_; rintro e w8 ⟨rfl, bk⟩)
            go_ret
            exact ⟨rfl, below_step bk HB7.out (Nat.le_refl _)⟩
theorem recordAlone_row (a0 : ByteArray) (a1 a2 : Int) (W : World) (_w0 : a0.size ≤ 140737488351232) (w1 : (Lit.int .u8 a1).wf = true) (w2 : (Lit.int .u8 a2).wf = true) :
    Calls Try.prog 11 #[.string a0, .int .u8 a1, .int .u8 a2] W fun e w' => e = .returned (.bool true) ∧ Below W.heap.size W w' := by
  obtain ⟨t, rfl⟩ := str_list a0
  simp [Lit.wf, IntKind.min, IntKind.max, IntKind.signed, IntKind.bits] at w1 w2
  obtain ⟨n, rfl⟩ := Int.eq_ofNat_of_zero_le w1.1
  obtain ⟨m, rfl⟩ := Int.eq_ofNat_of_zero_le w2.1
  exact recordAlone_any t n m (by omega) (by omega) W
end Go.Proofs.Ytjpelmjocdodcaa
