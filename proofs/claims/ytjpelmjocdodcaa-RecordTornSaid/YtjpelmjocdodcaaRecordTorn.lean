/- RecordTorn. -/
import Derived.Test.YtjpelmjocdodcaaRecTorn
import Derived.Test.YtjpelmjocdodcaaRowP
namespace Go.Proofs.Ytjpelmjocdodcaa
open Go.RowKit Go.ChangeMaps

set_option maxRecDepth 100000 in
set_option maxHeartbeats 8000000 in
theorem recordTorn_main (bt ls ol fr : Nat) (hbt : bt < 256) (hls : ls < 256) (hol : ol < 256) (hfr : fr < 256) (t o : List UInt8) (ht : t.length ≤ 600) (ho : o.length ≤ 600) (N : Nat) (hN : N < 18446744073709551616) (torn bytes : Int) (w : World) :
    Calls Try.prog 15 #[.int .u8 bt, .int .u8 ls, .string (S t), .string (S o), .int .u8 ol, .int .u8 fr, .agg #[.int .u64 N, .int .i64 torn, .int .i64 bytes]] w fun e w' => e = .returned (.bool true) ∧ Below w.heap.size w w' := by
  have HO := Lib.hid (fun W : World => known06_any W)
  have n1 := alloc_new w (.cells #[.int .u64 N, .int .i64 torn, .int .i64 bytes] 39)
  have b1 := alloc_below w (.cells #[.int .u64 N, .int .i64 torn, .int .i64 bytes] 39)
  have s1 := alloc_size w (.cells #[.int .u64 N, .int .i64 torn, .int .i64 bytes] 39)
  obtain ⟨w1, hw⟩ : ∃ w1, w.alloc (.cells #[.int .u64 N, .int .i64 torn, .int .i64 bytes] 39) = w1 := ⟨_, rfl⟩
  rw [hw] at n1 b1 s1
  have HN1 := Lib.hid n1
  have HB1 := Lib.hid b1
  have HS1 := Lib.hid s1
  clear n1 b1 s1
  have h1' : ¬ (600 : Int) < (t.length : Int) := by omega
  have h2' : ¬ (600 : Int) < (o.length : Int) := by omega
  have hok : ROk (bt + 2 : Nat) (ls + 2 : Nat) := by unfold ROk; omega
  have hs := secs_any ((bt : Int) + 2) ((ls : Int) + 2) 2 (by decide) t w1
  have hsec : (recSecs (bt + 2 : Nat) (ls + 2 : Nat) 2 t).2 = 0 := by rw [recSecs_ok (by omega) hok]
  have hlen : (recSecs (bt + 2 : Nat) (ls + 2 : Nat) 2 t).1.length = npart t.length := recSecs_len (by omega) hok
  have h80 : ∀ s ∈ (recSecs (bt + 2 : Nat) (ls + 2 : Nat) 2 t).1, s.length = 80 := fun s hs => recSecs_80 hs
  have hp : 1 ≤ npart t.length ∧ npart t.length ≤ 14 := ⟨npart_pos _, by unfold npart; omega⟩
  have hread := fun D hD L hL => torn_read (b := bt + 2) (l := ls + 2) (t := t) ht (by omega) (by omega) (D := D) hD (N : Int) torn bytes L hL ((bt : Int) + 2) ((ls : Int) + 2) (by omega) (by omega)
  obtain ⟨L, hL⟩ : ∃ L, (recSecs (bt + 2 : Nat) (ls + 2 : Nat) 2 t).1 = L := ⟨_, rfl⟩
  have HREAD := Lib.hid (fun D hD => hread D hD L hL)
  have hpair : recSecs ((bt : Int) + 2) ((ls : Int) + 2) 2 t = (L, 0) := by
    rw [show ((bt : Int) + 2) = ((bt + 2 : Nat) : Int) by omega, show ((ls : Int) + 2) = ((ls + 2 : Nat) : Int) by omega, ← hL, ← hsec]
  rw [hL] at hlen h80
  rw [hpair] at hs
  dsimp only at hs
  rw [← hlen] at hp
  obtain ⟨hp1, hp2⟩ := hp
  have H80 := Lib.hid h80
  clear hsec hlen h80 hread hL hpair hok
  obtain ⟨x, y, hxy, hT⟩ : ∃ x y : Nat, (((ol : Int) % 2 = 1 ∧ x = bt + 2 ∧ y = ls + 1) ∨ (((ol : Int) % 2 = 0) ∧ x = bt + 1 ∧ y = ls + 2)) ∧ ((recSecs x y 2 o).2 = 0 ∧ 1 ≤ (recSecs x y 2 o).1.length ∧ (recSecs x y 2 o).1.length ≤ 14 ∧ ∀ s ∈ (recSecs x y 2 o).1, s.length = 80 ∧ OldSec (bt + 2) (ls + 2) s) := by
    rcases Nat.mod_two_eq_zero_or_one ol with h | h
    · exact ⟨bt + 1, ls + 2, .inr ⟨by omega, rfl, rfl⟩, old_secs ho (by omega) (by omega) (by omega)⟩
    · exact ⟨bt + 2, ls + 1, .inl ⟨by omega, rfl, rfl⟩, old_secs ho (by omega) (by omega) (by omega)⟩
  obtain ⟨T, hTT⟩ : ∃ T, (recSecs x y 2 o).1 = T := ⟨_, rfl⟩
  obtain ⟨hT1, hT2, hT3, hT4⟩ := hT
  have HT : Hid (∀ a b : Int, a = x → b = y → recSecs a b 2 o = (T, 0)) := fun a b ha hb => by subst ha hb; rw [← hTT, ← hT1]
  rw [hTT] at hT2 hT3 hT4
  have HT4 := Lib.hid hT4
  clear hTT hT1 hT4
  obtain ⟨a, haa⟩ : ∃ a, fr % 16 = a := ⟨_, rfl⟩
  have haf : (fr : Int) % 16 = (a : Int) := by omega
  have ha16 : a < 16 := by omega
  clear haa
  go_enter Try.func15, Try.ntmps15
  go_upto_region 1 with (fail)
  have HHW := Lib.hid hw
  clear hw
  go_wp2_with (fail)
  refine hs.mono ?_
  rintro e w2 ⟨A, cap, rfl, hr, b2, hf⟩
  have HH2 : Hid (Hall w1 w2 [] [(.slice A L.length cap, L)]) := ((Hall.start w1).below b2).addRow hr (fun k hk => ⟨hf k hk, nofun, nofun⟩)
  clear hr b2 hf hs
  rcases hxy with ⟨hm, rfl, rfl⟩ | ⟨hm, rfl, rfl⟩
  · have hs2 := secs_any ((bt : Int) + 2) ((ls : Int) + 2 - 1) 2 (by decide) o w2
    rw [HT.out _ _ (by omega) (by omega)] at hs2
    dsimp only at hs2
    go_wp2_with (fail)
    refine hs2.mono ?_
    clear hs2 hm HT
    rintro e w3 ⟨A2, cap2, rfl, hr2, b3, hf2⟩
    have HH3 : Hid (Hall w1 w3 [] [(.slice A2 T.length cap2, T), (.slice A L.length cap, L)]) := (HH2.out.below b3).addRow hr2 (fun k hk => ⟨Nat.le_trans HH2.out.size (hf2 k hk), nofun, fun j r hr' hk' => by
      have h1 := own_lt (HH2.out.row j r hr') hk'
      have h2 := hf2 k hk
      omega⟩)
    clear hr2 b3 hf2 HH2
    go_wp2_with (fail)
    refine (fnew_any w3).mono ?_
    rintro e w4 ⟨rfl, hw4⟩
    have HS4 := Lib.hid (show w4.heap.size = w3.heap.size + 1 by rw [hw4]; exact alloc_size _ _)
    have HW4 := Lib.hid hw4
    clear hw4
    go_wp2_with (fail)
    refine (dnew_ok 40 w3.heap.size w4 (by omega) (by omega) (by have := HS4.out; omega)).mono ?_
    rintro e w5 ⟨rfl, hd, hbl⟩
    obtain ⟨h5, F5, B5⟩ := Lab.new HW4.out hd hbl
    obtain ⟨d, hdd⟩ : ∃ d, w4.heap.size + 1 = d := ⟨_, rfl⟩
    obtain ⟨m, hmm⟩ : ∃ m, w4.heap.size = m := ⟨_, rfl⟩
    obtain ⟨f, hff⟩ : ∃ f, w3.heap.size = f := ⟨_, rfl⟩
    have HH5 : Hid (Hall w1 w5 [⟨d, f, m, .slice none 0 0, Dk.new 40, .idle⟩] [(.slice A2 T.length cap2, T), (.slice A L.length cap, L)]) := by
      have := HH3.out.addDisk (s := ⟨w4.heap.size + 1, w3.heap.size, w4.heap.size, .slice none 0 0, Dk.new 40, .idle⟩) h5 F5 B5
      rw [hdd, hff, hmm] at this
      exact this
    rw [hdd]
    clear hd hbl h5 F5 B5 hdd hmm hff HH3 HW4 HS4
    by_cases h3 : ol % 3 = 0
    · have h3' : ¬ (0 : Int) < (ol : Int) % 3 := by omega
      have h3'' : (ol : Int) % 3 = 0 := by omega
      have HX : Hid (∃ v' D, Hall w1 w5 [⟨d, f, m, v', D, .idle⟩] [(.slice A2 T.length cap2, T), (.slice A L.length cap, L)] ∧ OldD (bt + 2) (ls + 2) D) := ⟨_, _, HH5.out, oldD_new _ _⟩
      clear HH5
      go_upto_region 14 with (fail)
      clear h3 h3' h3''
      obtain ⟨v7, D, hH7, hOD⟩ := HX.out
      have HRD := Lib.hid (HREAD.out D hOD)
      have hw2 := rwrite_any w1 w5 d f m v7 D _ 1 _ L hH7 rfl 4 (by rw [hOD.1]; omega) H80.out (by rw [hOD.2.1]; show 0 + L.length ≤ 1000000; omega)
      rw [show ((4:Nat):Int) = 4 from rfl] at hw2
      clear hH7 hOD HX HREAD HT4
      go_wp2_with (fail)
      refine hw2.mono ?_
      rintro e w8 ⟨rfl, v8, hH8⟩
      have HH8 := Lib.hid hH8
      have hblk : w8.heap[w.heap.size]? = some (.cells #[.int .u64 N, .int .i64 torn, .int .i64 bytes] 39) := (HH8.out.bel.block _ (by rw [HS1.out]; exact Nat.lt_succ_self _)).trans HN1.out
      have c0 : w8.cell? ⟨w.heap.size, 0, none⟩ = some (.int .u64 N) := (cell_of hblk 0).trans rfl
      have c1 : w8.cell? ⟨w.heap.size, 1, none⟩ = some (.int .i64 torn) := (cell_of hblk 1).trans rfl
      have c2 : w8.cell? ⟨w.heap.size, 2, none⟩ = some (.int .i64 bytes) := (cell_of hblk 2).trans rfl
      clear hH8 hw2 hblk
      rcases (show torn < 0 ∨ (0 ≤ torn ∧ (L.length : Int) ≤ torn) ∨ (0 ≤ torn ∧ torn < L.length) by omega) with ht1 | ⟨ht0, ht1⟩ | ⟨ht0, ht1⟩
      · have HA : Hid (allB N torn L.length 0 = true) := by
          unfold Hid allB; rw [decide_eq_true (by omega)]; rfl
        go_upto_region 17 with (fail)
        clear ht1
        go_wp2_with (fail)
        go_loopw [25, 26] (fun v25 v26 wr => ∃ i : Nat, i ≤ L.length ∧ v25 = .bool (allB N torn L.length i) ∧ v26 = .int .i64 i ∧ wr = w8) (fun _ v26 _ => L.length - (intOf v26).toNat)
        case atStart => exact ⟨0, Nat.zero_le _, by rw [HA.out]; first | done | rfl | simp [ht0', ht1'], rfl, rfl⟩
        case round =>
          obtain ⟨i, hi, rfl, rfl, rfl⟩ := hrel
          by_cases hlt : i < L.length
          · have HAS := Lib.hid (allB_succ N torn L.length i)
            cases hall : allB N torn L.length i with
            | false =>
              rw [hall] at HAS
              clear hall
              go_wp2_with (fail)
              go_roundw
              case rel => exact ⟨i + 1, by omega, by rw [HAS.out]; first | done | rfl, by go_num, by trivial⟩
              case measure => simp [intOf]; omega
            | true =>
              rw [hall] at HAS
              have hbit := and_one N hN i
              clear hall
              cases hkb : keepB N i with
              | false =>
                rw [hkb] at hbit HAS
                clear hkb
                go_wp2_with (fail)
                go_roundw
                case rel => exact ⟨i + 1, by omega, by rw [HAS.out]; first | done | rfl, by go_num, by trivial⟩
                case measure => simp [intOf]; omega
              | true =>
                rw [hkb] at hbit HAS
                clear hkb
                go_wp2_with (fail)
                go_roundw
                case rel => exact ⟨i + 1, by omega, by rw [HAS.out]; first | done | rfl, by go_num, by trivial⟩
                case measure => simp [intOf]; omega
          · obtain rfl : i = L.length := by omega
            obtain ⟨bb, hbb⟩ : ∃ bb, allB N torn L.length L.length = bb := ⟨_, rfl⟩
            rw [hbb]
            have HBB := Lib.hid hbb
            clear hbb
            go_wp2_with (fail)
            refine (dcrash_any d f m v8 (D.puts 4 L) N torn bytes _ (HH8.out.lab 0 _ rfl).disk).mono ?_
            rintro e w9 ⟨rfl, hd9, k9⟩
            have HH9 : Hid (Hall w1 w9 [⟨d, f, m, .slice none 0 0, (D.puts 4 L).crash N torn bytes, .idle⟩] [(.slice A2 T.length cap2, T), (.slice A L.length cap, L)]) := HH8.out.crash 0 rfl hd9 k9
            have hrd := read_any d f m _ _ .idle 4 40 ((ls : Int) + 2) ((bt : Int) + 2) w9 (HH9.out.lab 0 _ rfl)
            clear hd9 k9 c0 c1 c2 HH8
            rcases HRD.out with hv | ⟨hv, hall⟩
            · rw [hv] at hrd
              clear hv
              go_wp2_with (fail)
              refine hrd.mono ?_
              rintro e w10 ⟨rfl, b10⟩
              have q7 := alloc_new w10 (.cells #[.int .i64 ((bt : Int) + 2), .int .i64 ((ls : Int) + 2), .int .i64 0, .int .i64 (L.length : Int), .int .u8 2, .string (S t)] 77)
              have B7 := alloc_below w10 (.cells #[.int .i64 ((bt : Int) + 2), .int .i64 ((ls : Int) + 2), .int .i64 0, .int .i64 (L.length : Int), .int .u8 2, .string (S t)] 77)
              have i0 := (cell_of q7 0).trans rfl
              have i1 := (cell_of q7 1).trans rfl
              have i2 := (cell_of q7 2).trans rfl
              have i3 := (cell_of q7 3).trans rfl
              have i4 := (cell_of q7 4).trans rfl
              have i5 := (cell_of q7 5).trans rfl
              have HB7 := Lib.hid (below_step B7 (below_step (HH9.out.below b10).bel HB1.out (Nat.le_of_eq rfl)) (Nat.le_refl _))
              clear b10 B7 q7 hrd
              go_wp2_with (go_at_call 38; refine (HO.out _).mono ?_; rintro e w11 ⟨rfl, bk⟩)
              go_ret
              exact ⟨rfl, below_step bk HB7.out (Nat.le_refl _)⟩
            · rw [hv] at hrd
              obtain rfl : bb = false := HBB.out.symm.trans hall
              clear hv hall
              go_wp2_with (fail)
              refine hrd.mono ?_
              unfold zfrm
              rintro e w10 ⟨rfl, b10⟩
              have HB7 := Lib.hid (below_step (alloc_below w10 (.cells zcells 77)) (below_step (HH9.out.below b10).bel HB1.out (Nat.le_of_eq rfl)) (Nat.le_refl _))
              clear b10 hrd
              go_wp2_with (go_at_call 38; refine (HO.out _).mono ?_; rintro e w11 ⟨rfl, bk⟩)
              go_ret
              exact ⟨rfl, below_step bk HB7.out (Nat.le_refl _)⟩
      · have ht0' : ¬ torn < 0 := by omega
        have HA : Hid (allB N torn L.length 0 = true) := by
          unfold Hid allB; rw [decide_eq_true (by omega)]; rfl
        go_upto_region 17 with (fail)
        clear ht1 ht0 ht0'
        go_wp2_with (fail)
        go_loopw [25, 26] (fun v25 v26 wr => ∃ i : Nat, i ≤ L.length ∧ v25 = .bool (allB N torn L.length i) ∧ v26 = .int .i64 i ∧ wr = w8) (fun _ v26 _ => L.length - (intOf v26).toNat)
        case atStart => exact ⟨0, Nat.zero_le _, by rw [HA.out]; first | done | rfl | simp [ht0', ht1'], rfl, rfl⟩
        case round =>
          obtain ⟨i, hi, rfl, rfl, rfl⟩ := hrel
          by_cases hlt : i < L.length
          · have HAS := Lib.hid (allB_succ N torn L.length i)
            cases hall : allB N torn L.length i with
            | false =>
              rw [hall] at HAS
              clear hall
              go_wp2_with (fail)
              go_roundw
              case rel => exact ⟨i + 1, by omega, by rw [HAS.out]; first | done | rfl, by go_num, by trivial⟩
              case measure => simp [intOf]; omega
            | true =>
              rw [hall] at HAS
              have hbit := and_one N hN i
              clear hall
              cases hkb : keepB N i with
              | false =>
                rw [hkb] at hbit HAS
                clear hkb
                go_wp2_with (fail)
                go_roundw
                case rel => exact ⟨i + 1, by omega, by rw [HAS.out]; first | done | rfl, by go_num, by trivial⟩
                case measure => simp [intOf]; omega
              | true =>
                rw [hkb] at hbit HAS
                clear hkb
                go_wp2_with (fail)
                go_roundw
                case rel => exact ⟨i + 1, by omega, by rw [HAS.out]; first | done | rfl, by go_num, by trivial⟩
                case measure => simp [intOf]; omega
          · obtain rfl : i = L.length := by omega
            obtain ⟨bb, hbb⟩ : ∃ bb, allB N torn L.length L.length = bb := ⟨_, rfl⟩
            rw [hbb]
            have HBB := Lib.hid hbb
            clear hbb
            go_wp2_with (fail)
            refine (dcrash_any d f m v8 (D.puts 4 L) N torn bytes _ (HH8.out.lab 0 _ rfl).disk).mono ?_
            rintro e w9 ⟨rfl, hd9, k9⟩
            have HH9 : Hid (Hall w1 w9 [⟨d, f, m, .slice none 0 0, (D.puts 4 L).crash N torn bytes, .idle⟩] [(.slice A2 T.length cap2, T), (.slice A L.length cap, L)]) := HH8.out.crash 0 rfl hd9 k9
            have hrd := read_any d f m _ _ .idle 4 40 ((ls : Int) + 2) ((bt : Int) + 2) w9 (HH9.out.lab 0 _ rfl)
            clear hd9 k9 c0 c1 c2 HH8
            rcases HRD.out with hv | ⟨hv, hall⟩
            · rw [hv] at hrd
              clear hv
              go_wp2_with (fail)
              refine hrd.mono ?_
              rintro e w10 ⟨rfl, b10⟩
              have q7 := alloc_new w10 (.cells #[.int .i64 ((bt : Int) + 2), .int .i64 ((ls : Int) + 2), .int .i64 0, .int .i64 (L.length : Int), .int .u8 2, .string (S t)] 77)
              have B7 := alloc_below w10 (.cells #[.int .i64 ((bt : Int) + 2), .int .i64 ((ls : Int) + 2), .int .i64 0, .int .i64 (L.length : Int), .int .u8 2, .string (S t)] 77)
              have i0 := (cell_of q7 0).trans rfl
              have i1 := (cell_of q7 1).trans rfl
              have i2 := (cell_of q7 2).trans rfl
              have i3 := (cell_of q7 3).trans rfl
              have i4 := (cell_of q7 4).trans rfl
              have i5 := (cell_of q7 5).trans rfl
              have HB7 := Lib.hid (below_step B7 (below_step (HH9.out.below b10).bel HB1.out (Nat.le_of_eq rfl)) (Nat.le_refl _))
              clear b10 B7 q7 hrd
              go_wp2_with (go_at_call 38; refine (HO.out _).mono ?_; rintro e w11 ⟨rfl, bk⟩)
              go_ret
              exact ⟨rfl, below_step bk HB7.out (Nat.le_refl _)⟩
            · rw [hv] at hrd
              obtain rfl : bb = false := HBB.out.symm.trans hall
              clear hv hall
              go_wp2_with (fail)
              refine hrd.mono ?_
              unfold zfrm
              rintro e w10 ⟨rfl, b10⟩
              have HB7 := Lib.hid (below_step (alloc_below w10 (.cells zcells 77)) (below_step (HH9.out.below b10).bel HB1.out (Nat.le_of_eq rfl)) (Nat.le_refl _))
              clear b10 hrd
              go_wp2_with (go_at_call 38; refine (HO.out _).mono ?_; rintro e w11 ⟨rfl, bk⟩)
              go_ret
              exact ⟨rfl, below_step bk HB7.out (Nat.le_refl _)⟩
      · have ht0' : ¬ torn < 0 := by omega
        have ht1' : ¬ (L.length : Int) ≤ torn := by omega
        have HA : Hid (allB N torn L.length 0 = false) := by
          unfold Hid allB; rw [decide_eq_false (by omega)]; rfl
        go_upto_region 17 with (fail)
        clear ht1 ht0
        go_wp2_with (fail)
        go_loopw [25, 26] (fun v25 v26 wr => ∃ i : Nat, i ≤ L.length ∧ v25 = .bool (allB N torn L.length i) ∧ v26 = .int .i64 i ∧ wr = w8) (fun _ v26 _ => L.length - (intOf v26).toNat)
        case atStart => exact ⟨0, Nat.zero_le _, by rw [HA.out]; first | done | rfl | simp [ht0', ht1'], rfl, rfl⟩
        case round =>
          obtain ⟨i, hi, rfl, rfl, rfl⟩ := hrel
          by_cases hlt : i < L.length
          · have HAS := Lib.hid (allB_succ N torn L.length i)
            cases hall : allB N torn L.length i with
            | false =>
              rw [hall] at HAS
              clear hall
              go_wp2_with (fail)
              go_roundw
              case rel => exact ⟨i + 1, by omega, by rw [HAS.out]; first | done | rfl, by go_num, by trivial⟩
              case measure => simp [intOf]; omega
            | true =>
              rw [hall] at HAS
              have hbit := and_one N hN i
              clear hall
              cases hkb : keepB N i with
              | false =>
                rw [hkb] at hbit HAS
                clear hkb
                go_wp2_with (fail)
                go_roundw
                case rel => exact ⟨i + 1, by omega, by rw [HAS.out]; first | done | rfl, by go_num, by trivial⟩
                case measure => simp [intOf]; omega
              | true =>
                rw [hkb] at hbit HAS
                clear hkb
                go_wp2_with (fail)
                go_roundw
                case rel => exact ⟨i + 1, by omega, by rw [HAS.out]; first | done | rfl, by go_num, by trivial⟩
                case measure => simp [intOf]; omega
          · obtain rfl : i = L.length := by omega
            obtain ⟨bb, hbb⟩ : ∃ bb, allB N torn L.length L.length = bb := ⟨_, rfl⟩
            rw [hbb]
            have HBB := Lib.hid hbb
            clear hbb
            go_wp2_with (fail)
            refine (dcrash_any d f m v8 (D.puts 4 L) N torn bytes _ (HH8.out.lab 0 _ rfl).disk).mono ?_
            rintro e w9 ⟨rfl, hd9, k9⟩
            have HH9 : Hid (Hall w1 w9 [⟨d, f, m, .slice none 0 0, (D.puts 4 L).crash N torn bytes, .idle⟩] [(.slice A2 T.length cap2, T), (.slice A L.length cap, L)]) := HH8.out.crash 0 rfl hd9 k9
            have hrd := read_any d f m _ _ .idle 4 40 ((ls : Int) + 2) ((bt : Int) + 2) w9 (HH9.out.lab 0 _ rfl)
            clear hd9 k9 c0 c1 c2 HH8
            rcases HRD.out with hv | ⟨hv, hall⟩
            · rw [hv] at hrd
              clear hv
              go_wp2_with (fail)
              refine hrd.mono ?_
              rintro e w10 ⟨rfl, b10⟩
              have q7 := alloc_new w10 (.cells #[.int .i64 ((bt : Int) + 2), .int .i64 ((ls : Int) + 2), .int .i64 0, .int .i64 (L.length : Int), .int .u8 2, .string (S t)] 77)
              have B7 := alloc_below w10 (.cells #[.int .i64 ((bt : Int) + 2), .int .i64 ((ls : Int) + 2), .int .i64 0, .int .i64 (L.length : Int), .int .u8 2, .string (S t)] 77)
              have i0 := (cell_of q7 0).trans rfl
              have i1 := (cell_of q7 1).trans rfl
              have i2 := (cell_of q7 2).trans rfl
              have i3 := (cell_of q7 3).trans rfl
              have i4 := (cell_of q7 4).trans rfl
              have i5 := (cell_of q7 5).trans rfl
              have HB7 := Lib.hid (below_step B7 (below_step (HH9.out.below b10).bel HB1.out (Nat.le_of_eq rfl)) (Nat.le_refl _))
              clear b10 B7 q7 hrd
              go_wp2_with (go_at_call 38; refine (HO.out _).mono ?_; rintro e w11 ⟨rfl, bk⟩)
              go_ret
              exact ⟨rfl, below_step bk HB7.out (Nat.le_refl _)⟩
            · rw [hv] at hrd
              obtain rfl : bb = false := HBB.out.symm.trans hall
              clear hv hall
              go_wp2_with (fail)
              refine hrd.mono ?_
              unfold zfrm
              rintro e w10 ⟨rfl, b10⟩
              have HB7 := Lib.hid (below_step (alloc_below w10 (.cells zcells 77)) (below_step (HH9.out.below b10).bel HB1.out (Nat.le_of_eq rfl)) (Nat.le_refl _))
              clear b10 hrd
              go_wp2_with (go_at_call 38; refine (HO.out _).mono ?_; rintro e w11 ⟨rfl, bk⟩)
              go_ret
              exact ⟨rfl, below_step bk HB7.out (Nat.le_refl _)⟩
    · have h3' : (0 : Int) < (ol : Int) % 3 := by omega
      have hw := rwrite_any w1 w5 d f m _ _ _ 0 _ T HH5.out rfl a (by show a + T.length ≤ (List.replicate 40 Z80).length; rw [List.length_replicate]; omega) (fun s hs => (HT4.out s hs).1) (by show 0 + T.length ≤ 1000000; omega)
      go_wp2_with (fail)
      refine hw.mono ?_
      rintro e w6 ⟨rfl, v6, hH6⟩
      have HH6 := Lib.hid hH6
      clear hH6 hw HH5
      go_wp2_with (fail)
      refine (dsync_any d f m v6 _ .idle w6 (HH6.out.lab 0 _ rfl).disk (HH6.out.lab 0 _ rfl).fuse).mono ?_
      rw [doSync_ok]
      rintro e w5 ⟨rfl, ha7⟩
      obtain ⟨v7, h7⟩ := HH6.out.after 0 rfl ha7
      have HX : Hid (∃ v' D, Hall w1 w5 [⟨d, f, m, v', D, .idle⟩] [(.slice A2 T.length cap2, T), (.slice A L.length cap, L)] ∧ OldD (bt + 2) (ls + 2) D) := ⟨_, _, h7, oldD_puts (fun s hs => (HT4.out s hs).2)⟩
      clear h7 ha7 HH6
      go_upto_region 14 with (fail)
      clear h3 h3'
      obtain ⟨v7, D, hH7, hOD⟩ := HX.out
      have HRD := Lib.hid (HREAD.out D hOD)
      have hw2 := rwrite_any w1 w5 d f m v7 D _ 1 _ L hH7 rfl 4 (by rw [hOD.1]; omega) H80.out (by rw [hOD.2.1]; show 0 + L.length ≤ 1000000; omega)
      rw [show ((4:Nat):Int) = 4 from rfl] at hw2
      clear hH7 hOD HX HREAD HT4
      go_wp2_with (fail)
      refine hw2.mono ?_
      rintro e w8 ⟨rfl, v8, hH8⟩
      have HH8 := Lib.hid hH8
      have hblk : w8.heap[w.heap.size]? = some (.cells #[.int .u64 N, .int .i64 torn, .int .i64 bytes] 39) := (HH8.out.bel.block _ (by rw [HS1.out]; exact Nat.lt_succ_self _)).trans HN1.out
      have c0 : w8.cell? ⟨w.heap.size, 0, none⟩ = some (.int .u64 N) := (cell_of hblk 0).trans rfl
      have c1 : w8.cell? ⟨w.heap.size, 1, none⟩ = some (.int .i64 torn) := (cell_of hblk 1).trans rfl
      have c2 : w8.cell? ⟨w.heap.size, 2, none⟩ = some (.int .i64 bytes) := (cell_of hblk 2).trans rfl
      clear hH8 hw2 hblk
      rcases (show torn < 0 ∨ (0 ≤ torn ∧ (L.length : Int) ≤ torn) ∨ (0 ≤ torn ∧ torn < L.length) by omega) with ht1 | ⟨ht0, ht1⟩ | ⟨ht0, ht1⟩
      · have HA : Hid (allB N torn L.length 0 = true) := by
          unfold Hid allB; rw [decide_eq_true (by omega)]; rfl
        go_upto_region 17 with (fail)
        clear ht1
        go_wp2_with (fail)
        go_loopw [25, 26] (fun v25 v26 wr => ∃ i : Nat, i ≤ L.length ∧ v25 = .bool (allB N torn L.length i) ∧ v26 = .int .i64 i ∧ wr = w8) (fun _ v26 _ => L.length - (intOf v26).toNat)
        case atStart => exact ⟨0, Nat.zero_le _, by rw [HA.out]; first | done | rfl | simp [ht0', ht1'], rfl, rfl⟩
        case round =>
          obtain ⟨i, hi, rfl, rfl, rfl⟩ := hrel
          by_cases hlt : i < L.length
          · have HAS := Lib.hid (allB_succ N torn L.length i)
            cases hall : allB N torn L.length i with
            | false =>
              rw [hall] at HAS
              clear hall
              go_wp2_with (fail)
              go_roundw
              case rel => exact ⟨i + 1, by omega, by rw [HAS.out]; first | done | rfl, by go_num, by trivial⟩
              case measure => simp [intOf]; omega
            | true =>
              rw [hall] at HAS
              have hbit := and_one N hN i
              clear hall
              cases hkb : keepB N i with
              | false =>
                rw [hkb] at hbit HAS
                clear hkb
                go_wp2_with (fail)
                go_roundw
                case rel => exact ⟨i + 1, by omega, by rw [HAS.out]; first | done | rfl, by go_num, by trivial⟩
                case measure => simp [intOf]; omega
              | true =>
                rw [hkb] at hbit HAS
                clear hkb
                go_wp2_with (fail)
                go_roundw
                case rel => exact ⟨i + 1, by omega, by rw [HAS.out]; first | done | rfl, by go_num, by trivial⟩
                case measure => simp [intOf]; omega
          · obtain rfl : i = L.length := by omega
            obtain ⟨bb, hbb⟩ : ∃ bb, allB N torn L.length L.length = bb := ⟨_, rfl⟩
            rw [hbb]
            have HBB := Lib.hid hbb
            clear hbb
            go_wp2_with (fail)
            refine (dcrash_any d f m v8 (D.puts 4 L) N torn bytes _ (HH8.out.lab 0 _ rfl).disk).mono ?_
            rintro e w9 ⟨rfl, hd9, k9⟩
            have HH9 : Hid (Hall w1 w9 [⟨d, f, m, .slice none 0 0, (D.puts 4 L).crash N torn bytes, .idle⟩] [(.slice A2 T.length cap2, T), (.slice A L.length cap, L)]) := HH8.out.crash 0 rfl hd9 k9
            have hrd := read_any d f m _ _ .idle 4 40 ((ls : Int) + 2) ((bt : Int) + 2) w9 (HH9.out.lab 0 _ rfl)
            clear hd9 k9 c0 c1 c2 HH8
            rcases HRD.out with hv | ⟨hv, hall⟩
            · rw [hv] at hrd
              clear hv
              go_wp2_with (fail)
              refine hrd.mono ?_
              rintro e w10 ⟨rfl, b10⟩
              have q7 := alloc_new w10 (.cells #[.int .i64 ((bt : Int) + 2), .int .i64 ((ls : Int) + 2), .int .i64 0, .int .i64 (L.length : Int), .int .u8 2, .string (S t)] 77)
              have B7 := alloc_below w10 (.cells #[.int .i64 ((bt : Int) + 2), .int .i64 ((ls : Int) + 2), .int .i64 0, .int .i64 (L.length : Int), .int .u8 2, .string (S t)] 77)
              have i0 := (cell_of q7 0).trans rfl
              have i1 := (cell_of q7 1).trans rfl
              have i2 := (cell_of q7 2).trans rfl
              have i3 := (cell_of q7 3).trans rfl
              have i4 := (cell_of q7 4).trans rfl
              have i5 := (cell_of q7 5).trans rfl
              have HB7 := Lib.hid (below_step B7 (below_step (HH9.out.below b10).bel HB1.out (Nat.le_of_eq rfl)) (Nat.le_refl _))
              clear b10 B7 q7 hrd
              go_wp2_with (go_at_call 38; refine (HO.out _).mono ?_; rintro e w11 ⟨rfl, bk⟩)
              go_ret
              exact ⟨rfl, below_step bk HB7.out (Nat.le_refl _)⟩
            · rw [hv] at hrd
              obtain rfl : bb = false := HBB.out.symm.trans hall
              clear hv hall
              go_wp2_with (fail)
              refine hrd.mono ?_
              unfold zfrm
              rintro e w10 ⟨rfl, b10⟩
              have HB7 := Lib.hid (below_step (alloc_below w10 (.cells zcells 77)) (below_step (HH9.out.below b10).bel HB1.out (Nat.le_of_eq rfl)) (Nat.le_refl _))
              clear b10 hrd
              go_wp2_with (go_at_call 38; refine (HO.out _).mono ?_; rintro e w11 ⟨rfl, bk⟩)
              go_ret
              exact ⟨rfl, below_step bk HB7.out (Nat.le_refl _)⟩
      · have ht0' : ¬ torn < 0 := by omega
        have HA : Hid (allB N torn L.length 0 = true) := by
          unfold Hid allB; rw [decide_eq_true (by omega)]; rfl
        go_upto_region 17 with (fail)
        clear ht1 ht0 ht0'
        go_wp2_with (fail)
        go_loopw [25, 26] (fun v25 v26 wr => ∃ i : Nat, i ≤ L.length ∧ v25 = .bool (allB N torn L.length i) ∧ v26 = .int .i64 i ∧ wr = w8) (fun _ v26 _ => L.length - (intOf v26).toNat)
        case atStart => exact ⟨0, Nat.zero_le _, by rw [HA.out]; first | done | rfl | simp [ht0', ht1'], rfl, rfl⟩
        case round =>
          obtain ⟨i, hi, rfl, rfl, rfl⟩ := hrel
          by_cases hlt : i < L.length
          · have HAS := Lib.hid (allB_succ N torn L.length i)
            cases hall : allB N torn L.length i with
            | false =>
              rw [hall] at HAS
              clear hall
              go_wp2_with (fail)
              go_roundw
              case rel => exact ⟨i + 1, by omega, by rw [HAS.out]; first | done | rfl, by go_num, by trivial⟩
              case measure => simp [intOf]; omega
            | true =>
              rw [hall] at HAS
              have hbit := and_one N hN i
              clear hall
              cases hkb : keepB N i with
              | false =>
                rw [hkb] at hbit HAS
                clear hkb
                go_wp2_with (fail)
                go_roundw
                case rel => exact ⟨i + 1, by omega, by rw [HAS.out]; first | done | rfl, by go_num, by trivial⟩
                case measure => simp [intOf]; omega
              | true =>
                rw [hkb] at hbit HAS
                clear hkb
                go_wp2_with (fail)
                go_roundw
                case rel => exact ⟨i + 1, by omega, by rw [HAS.out]; first | done | rfl, by go_num, by trivial⟩
                case measure => simp [intOf]; omega
          · obtain rfl : i = L.length := by omega
            obtain ⟨bb, hbb⟩ : ∃ bb, allB N torn L.length L.length = bb := ⟨_, rfl⟩
            rw [hbb]
            have HBB := Lib.hid hbb
            clear hbb
            go_wp2_with (fail)
            refine (dcrash_any d f m v8 (D.puts 4 L) N torn bytes _ (HH8.out.lab 0 _ rfl).disk).mono ?_
            rintro e w9 ⟨rfl, hd9, k9⟩
            have HH9 : Hid (Hall w1 w9 [⟨d, f, m, .slice none 0 0, (D.puts 4 L).crash N torn bytes, .idle⟩] [(.slice A2 T.length cap2, T), (.slice A L.length cap, L)]) := HH8.out.crash 0 rfl hd9 k9
            have hrd := read_any d f m _ _ .idle 4 40 ((ls : Int) + 2) ((bt : Int) + 2) w9 (HH9.out.lab 0 _ rfl)
            clear hd9 k9 c0 c1 c2 HH8
            rcases HRD.out with hv | ⟨hv, hall⟩
            · rw [hv] at hrd
              clear hv
              go_wp2_with (fail)
              refine hrd.mono ?_
              rintro e w10 ⟨rfl, b10⟩
              have q7 := alloc_new w10 (.cells #[.int .i64 ((bt : Int) + 2), .int .i64 ((ls : Int) + 2), .int .i64 0, .int .i64 (L.length : Int), .int .u8 2, .string (S t)] 77)
              have B7 := alloc_below w10 (.cells #[.int .i64 ((bt : Int) + 2), .int .i64 ((ls : Int) + 2), .int .i64 0, .int .i64 (L.length : Int), .int .u8 2, .string (S t)] 77)
              have i0 := (cell_of q7 0).trans rfl
              have i1 := (cell_of q7 1).trans rfl
              have i2 := (cell_of q7 2).trans rfl
              have i3 := (cell_of q7 3).trans rfl
              have i4 := (cell_of q7 4).trans rfl
              have i5 := (cell_of q7 5).trans rfl
              have HB7 := Lib.hid (below_step B7 (below_step (HH9.out.below b10).bel HB1.out (Nat.le_of_eq rfl)) (Nat.le_refl _))
              clear b10 B7 q7 hrd
              go_wp2_with (go_at_call 38; refine (HO.out _).mono ?_; rintro e w11 ⟨rfl, bk⟩)
              go_ret
              exact ⟨rfl, below_step bk HB7.out (Nat.le_refl _)⟩
            · rw [hv] at hrd
              obtain rfl : bb = false := HBB.out.symm.trans hall
              clear hv hall
              go_wp2_with (fail)
              refine hrd.mono ?_
              unfold zfrm
              rintro e w10 ⟨rfl, b10⟩
              have HB7 := Lib.hid (below_step (alloc_below w10 (.cells zcells 77)) (below_step (HH9.out.below b10).bel HB1.out (Nat.le_of_eq rfl)) (Nat.le_refl _))
              clear b10 hrd
              go_wp2_with (go_at_call 38; refine (HO.out _).mono ?_; rintro e w11 ⟨rfl, bk⟩)
              go_ret
              exact ⟨rfl, below_step bk HB7.out (Nat.le_refl _)⟩
      · have ht0' : ¬ torn < 0 := by omega
        have ht1' : ¬ (L.length : Int) ≤ torn := by omega
        have HA : Hid (allB N torn L.length 0 = false) := by
          unfold Hid allB; rw [decide_eq_false (by omega)]; rfl
        go_upto_region 17 with (fail)
        clear ht1 ht0
        go_wp2_with (fail)
        go_loopw [25, 26] (fun v25 v26 wr => ∃ i : Nat, i ≤ L.length ∧ v25 = .bool (allB N torn L.length i) ∧ v26 = .int .i64 i ∧ wr = w8) (fun _ v26 _ => L.length - (intOf v26).toNat)
        case atStart => exact ⟨0, Nat.zero_le _, by rw [HA.out]; first | done | rfl | simp [ht0', ht1'], rfl, rfl⟩
        case round =>
          obtain ⟨i, hi, rfl, rfl, rfl⟩ := hrel
          by_cases hlt : i < L.length
          · have HAS := Lib.hid (allB_succ N torn L.length i)
            cases hall : allB N torn L.length i with
            | false =>
              rw [hall] at HAS
              clear hall
              go_wp2_with (fail)
              go_roundw
              case rel => exact ⟨i + 1, by omega, by rw [HAS.out]; first | done | rfl, by go_num, by trivial⟩
              case measure => simp [intOf]; omega
            | true =>
              rw [hall] at HAS
              have hbit := and_one N hN i
              clear hall
              cases hkb : keepB N i with
              | false =>
                rw [hkb] at hbit HAS
                clear hkb
                go_wp2_with (fail)
                go_roundw
                case rel => exact ⟨i + 1, by omega, by rw [HAS.out]; first | done | rfl, by go_num, by trivial⟩
                case measure => simp [intOf]; omega
              | true =>
                rw [hkb] at hbit HAS
                clear hkb
                go_wp2_with (fail)
                go_roundw
                case rel => exact ⟨i + 1, by omega, by rw [HAS.out]; first | done | rfl, by go_num, by trivial⟩
                case measure => simp [intOf]; omega
          · obtain rfl : i = L.length := by omega
            obtain ⟨bb, hbb⟩ : ∃ bb, allB N torn L.length L.length = bb := ⟨_, rfl⟩
            rw [hbb]
            have HBB := Lib.hid hbb
            clear hbb
            go_wp2_with (fail)
            refine (dcrash_any d f m v8 (D.puts 4 L) N torn bytes _ (HH8.out.lab 0 _ rfl).disk).mono ?_
            rintro e w9 ⟨rfl, hd9, k9⟩
            have HH9 : Hid (Hall w1 w9 [⟨d, f, m, .slice none 0 0, (D.puts 4 L).crash N torn bytes, .idle⟩] [(.slice A2 T.length cap2, T), (.slice A L.length cap, L)]) := HH8.out.crash 0 rfl hd9 k9
            have hrd := read_any d f m _ _ .idle 4 40 ((ls : Int) + 2) ((bt : Int) + 2) w9 (HH9.out.lab 0 _ rfl)
            clear hd9 k9 c0 c1 c2 HH8
            rcases HRD.out with hv | ⟨hv, hall⟩
            · rw [hv] at hrd
              clear hv
              go_wp2_with (fail)
              refine hrd.mono ?_
              rintro e w10 ⟨rfl, b10⟩
              have q7 := alloc_new w10 (.cells #[.int .i64 ((bt : Int) + 2), .int .i64 ((ls : Int) + 2), .int .i64 0, .int .i64 (L.length : Int), .int .u8 2, .string (S t)] 77)
              have B7 := alloc_below w10 (.cells #[.int .i64 ((bt : Int) + 2), .int .i64 ((ls : Int) + 2), .int .i64 0, .int .i64 (L.length : Int), .int .u8 2, .string (S t)] 77)
              have i0 := (cell_of q7 0).trans rfl
              have i1 := (cell_of q7 1).trans rfl
              have i2 := (cell_of q7 2).trans rfl
              have i3 := (cell_of q7 3).trans rfl
              have i4 := (cell_of q7 4).trans rfl
              have i5 := (cell_of q7 5).trans rfl
              have HB7 := Lib.hid (below_step B7 (below_step (HH9.out.below b10).bel HB1.out (Nat.le_of_eq rfl)) (Nat.le_refl _))
              clear b10 B7 q7 hrd
              go_wp2_with (go_at_call 38; refine (HO.out _).mono ?_; rintro e w11 ⟨rfl, bk⟩)
              go_ret
              exact ⟨rfl, below_step bk HB7.out (Nat.le_refl _)⟩
            · rw [hv] at hrd
              obtain rfl : bb = false := HBB.out.symm.trans hall
              clear hv hall
              go_wp2_with (fail)
              refine hrd.mono ?_
              unfold zfrm
              rintro e w10 ⟨rfl, b10⟩
              have HB7 := Lib.hid (below_step (alloc_below w10 (.cells zcells 77)) (below_step (HH9.out.below b10).bel HB1.out (Nat.le_of_eq rfl)) (Nat.le_refl _))
              clear b10 hrd
              go_wp2_with (go_at_call 38; refine (HO.out _).mono ?_; rintro e w11 ⟨rfl, bk⟩)
              go_ret
              exact ⟨rfl, below_step bk HB7.out (Nat.le_refl _)⟩
  · have hs2 := secs_any ((bt : Int) + 2 - 1) ((ls : Int) + 2) 2 (by decide) o w2
    rw [HT.out _ _ (by omega) (by omega)] at hs2
    dsimp only at hs2
    go_wp2_with (fail)
    refine hs2.mono ?_
    clear hs2 hm HT
    rintro e w3 ⟨A2, cap2, rfl, hr2, b3, hf2⟩
    have HH3 : Hid (Hall w1 w3 [] [(.slice A2 T.length cap2, T), (.slice A L.length cap, L)]) := (HH2.out.below b3).addRow hr2 (fun k hk => ⟨Nat.le_trans HH2.out.size (hf2 k hk), nofun, fun j r hr' hk' => by
      have h1 := own_lt (HH2.out.row j r hr') hk'
      have h2 := hf2 k hk
      omega⟩)
    clear hr2 b3 hf2 HH2
    go_wp2_with (fail)
    refine (fnew_any w3).mono ?_
    rintro e w4 ⟨rfl, hw4⟩
    have HS4 := Lib.hid (show w4.heap.size = w3.heap.size + 1 by rw [hw4]; exact alloc_size _ _)
    have HW4 := Lib.hid hw4
    clear hw4
    go_wp2_with (fail)
    refine (dnew_ok 40 w3.heap.size w4 (by omega) (by omega) (by have := HS4.out; omega)).mono ?_
    rintro e w5 ⟨rfl, hd, hbl⟩
    obtain ⟨h5, F5, B5⟩ := Lab.new HW4.out hd hbl
    obtain ⟨d, hdd⟩ : ∃ d, w4.heap.size + 1 = d := ⟨_, rfl⟩
    obtain ⟨m, hmm⟩ : ∃ m, w4.heap.size = m := ⟨_, rfl⟩
    obtain ⟨f, hff⟩ : ∃ f, w3.heap.size = f := ⟨_, rfl⟩
    have HH5 : Hid (Hall w1 w5 [⟨d, f, m, .slice none 0 0, Dk.new 40, .idle⟩] [(.slice A2 T.length cap2, T), (.slice A L.length cap, L)]) := by
      have := HH3.out.addDisk (s := ⟨w4.heap.size + 1, w3.heap.size, w4.heap.size, .slice none 0 0, Dk.new 40, .idle⟩) h5 F5 B5
      rw [hdd, hff, hmm] at this
      exact this
    rw [hdd]
    clear hd hbl h5 F5 B5 hdd hmm hff HH3 HW4 HS4
    by_cases h3 : ol % 3 = 0
    · have h3' : ¬ (0 : Int) < (ol : Int) % 3 := by omega
      have h3'' : (ol : Int) % 3 = 0 := by omega
      have HX : Hid (∃ v' D, Hall w1 w5 [⟨d, f, m, v', D, .idle⟩] [(.slice A2 T.length cap2, T), (.slice A L.length cap, L)] ∧ OldD (bt + 2) (ls + 2) D) := ⟨_, _, HH5.out, oldD_new _ _⟩
      clear HH5
      go_upto_region 14 with (fail)
      clear h3 h3' h3''
      obtain ⟨v7, D, hH7, hOD⟩ := HX.out
      have HRD := Lib.hid (HREAD.out D hOD)
      have hw2 := rwrite_any w1 w5 d f m v7 D _ 1 _ L hH7 rfl 4 (by rw [hOD.1]; omega) H80.out (by rw [hOD.2.1]; show 0 + L.length ≤ 1000000; omega)
      rw [show ((4:Nat):Int) = 4 from rfl] at hw2
      clear hH7 hOD HX HREAD HT4
      go_wp2_with (fail)
      refine hw2.mono ?_
      rintro e w8 ⟨rfl, v8, hH8⟩
      have HH8 := Lib.hid hH8
      have hblk : w8.heap[w.heap.size]? = some (.cells #[.int .u64 N, .int .i64 torn, .int .i64 bytes] 39) := (HH8.out.bel.block _ (by rw [HS1.out]; exact Nat.lt_succ_self _)).trans HN1.out
      have c0 : w8.cell? ⟨w.heap.size, 0, none⟩ = some (.int .u64 N) := (cell_of hblk 0).trans rfl
      have c1 : w8.cell? ⟨w.heap.size, 1, none⟩ = some (.int .i64 torn) := (cell_of hblk 1).trans rfl
      have c2 : w8.cell? ⟨w.heap.size, 2, none⟩ = some (.int .i64 bytes) := (cell_of hblk 2).trans rfl
      clear hH8 hw2 hblk
      rcases (show torn < 0 ∨ (0 ≤ torn ∧ (L.length : Int) ≤ torn) ∨ (0 ≤ torn ∧ torn < L.length) by omega) with ht1 | ⟨ht0, ht1⟩ | ⟨ht0, ht1⟩
      · have HA : Hid (allB N torn L.length 0 = true) := by
          unfold Hid allB; rw [decide_eq_true (by omega)]; rfl
        go_upto_region 17 with (fail)
        clear ht1
        go_wp2_with (fail)
        go_loopw [25, 26] (fun v25 v26 wr => ∃ i : Nat, i ≤ L.length ∧ v25 = .bool (allB N torn L.length i) ∧ v26 = .int .i64 i ∧ wr = w8) (fun _ v26 _ => L.length - (intOf v26).toNat)
        case atStart => exact ⟨0, Nat.zero_le _, by rw [HA.out]; first | done | rfl | simp [ht0', ht1'], rfl, rfl⟩
        case round =>
          obtain ⟨i, hi, rfl, rfl, rfl⟩ := hrel
          by_cases hlt : i < L.length
          · have HAS := Lib.hid (allB_succ N torn L.length i)
            cases hall : allB N torn L.length i with
            | false =>
              rw [hall] at HAS
              clear hall
              go_wp2_with (fail)
              go_roundw
              case rel => exact ⟨i + 1, by omega, by rw [HAS.out]; first | done | rfl, by go_num, by trivial⟩
              case measure => simp [intOf]; omega
            | true =>
              rw [hall] at HAS
              have hbit := and_one N hN i
              clear hall
              cases hkb : keepB N i with
              | false =>
                rw [hkb] at hbit HAS
                clear hkb
                go_wp2_with (fail)
                go_roundw
                case rel => exact ⟨i + 1, by omega, by rw [HAS.out]; first | done | rfl, by go_num, by trivial⟩
                case measure => simp [intOf]; omega
              | true =>
                rw [hkb] at hbit HAS
                clear hkb
                go_wp2_with (fail)
                go_roundw
                case rel => exact ⟨i + 1, by omega, by rw [HAS.out]; first | done | rfl, by go_num, by trivial⟩
                case measure => simp [intOf]; omega
          · obtain rfl : i = L.length := by omega
            obtain ⟨bb, hbb⟩ : ∃ bb, allB N torn L.length L.length = bb := ⟨_, rfl⟩
            rw [hbb]
            have HBB := Lib.hid hbb
            clear hbb
            go_wp2_with (fail)
            refine (dcrash_any d f m v8 (D.puts 4 L) N torn bytes _ (HH8.out.lab 0 _ rfl).disk).mono ?_
            rintro e w9 ⟨rfl, hd9, k9⟩
            have HH9 : Hid (Hall w1 w9 [⟨d, f, m, .slice none 0 0, (D.puts 4 L).crash N torn bytes, .idle⟩] [(.slice A2 T.length cap2, T), (.slice A L.length cap, L)]) := HH8.out.crash 0 rfl hd9 k9
            have hrd := read_any d f m _ _ .idle 4 40 ((ls : Int) + 2) ((bt : Int) + 2) w9 (HH9.out.lab 0 _ rfl)
            clear hd9 k9 c0 c1 c2 HH8
            rcases HRD.out with hv | ⟨hv, hall⟩
            · rw [hv] at hrd
              clear hv
              go_wp2_with (fail)
              refine hrd.mono ?_
              rintro e w10 ⟨rfl, b10⟩
              have q7 := alloc_new w10 (.cells #[.int .i64 ((bt : Int) + 2), .int .i64 ((ls : Int) + 2), .int .i64 0, .int .i64 (L.length : Int), .int .u8 2, .string (S t)] 77)
              have B7 := alloc_below w10 (.cells #[.int .i64 ((bt : Int) + 2), .int .i64 ((ls : Int) + 2), .int .i64 0, .int .i64 (L.length : Int), .int .u8 2, .string (S t)] 77)
              have i0 := (cell_of q7 0).trans rfl
              have i1 := (cell_of q7 1).trans rfl
              have i2 := (cell_of q7 2).trans rfl
              have i3 := (cell_of q7 3).trans rfl
              have i4 := (cell_of q7 4).trans rfl
              have i5 := (cell_of q7 5).trans rfl
              have HB7 := Lib.hid (below_step B7 (below_step (HH9.out.below b10).bel HB1.out (Nat.le_of_eq rfl)) (Nat.le_refl _))
              clear b10 B7 q7 hrd
              go_wp2_with (go_at_call 38; refine (HO.out _).mono ?_; rintro e w11 ⟨rfl, bk⟩)
              go_ret
              exact ⟨rfl, below_step bk HB7.out (Nat.le_refl _)⟩
            · rw [hv] at hrd
              obtain rfl : bb = false := HBB.out.symm.trans hall
              clear hv hall
              go_wp2_with (fail)
              refine hrd.mono ?_
              unfold zfrm
              rintro e w10 ⟨rfl, b10⟩
              have HB7 := Lib.hid (below_step (alloc_below w10 (.cells zcells 77)) (below_step (HH9.out.below b10).bel HB1.out (Nat.le_of_eq rfl)) (Nat.le_refl _))
              clear b10 hrd
              go_wp2_with (go_at_call 38; refine (HO.out _).mono ?_; rintro e w11 ⟨rfl, bk⟩)
              go_ret
              exact ⟨rfl, below_step bk HB7.out (Nat.le_refl _)⟩
      · have ht0' : ¬ torn < 0 := by omega
        have HA : Hid (allB N torn L.length 0 = true) := by
          unfold Hid allB; rw [decide_eq_true (by omega)]; rfl
        go_upto_region 17 with (fail)
        clear ht1 ht0 ht0'
        go_wp2_with (fail)
        go_loopw [25, 26] (fun v25 v26 wr => ∃ i : Nat, i ≤ L.length ∧ v25 = .bool (allB N torn L.length i) ∧ v26 = .int .i64 i ∧ wr = w8) (fun _ v26 _ => L.length - (intOf v26).toNat)
        case atStart => exact ⟨0, Nat.zero_le _, by rw [HA.out]; first | done | rfl | simp [ht0', ht1'], rfl, rfl⟩
        case round =>
          obtain ⟨i, hi, rfl, rfl, rfl⟩ := hrel
          by_cases hlt : i < L.length
          · have HAS := Lib.hid (allB_succ N torn L.length i)
            cases hall : allB N torn L.length i with
            | false =>
              rw [hall] at HAS
              clear hall
              go_wp2_with (fail)
              go_roundw
              case rel => exact ⟨i + 1, by omega, by rw [HAS.out]; first | done | rfl, by go_num, by trivial⟩
              case measure => simp [intOf]; omega
            | true =>
              rw [hall] at HAS
              have hbit := and_one N hN i
              clear hall
              cases hkb : keepB N i with
              | false =>
                rw [hkb] at hbit HAS
                clear hkb
                go_wp2_with (fail)
                go_roundw
                case rel => exact ⟨i + 1, by omega, by rw [HAS.out]; first | done | rfl, by go_num, by trivial⟩
                case measure => simp [intOf]; omega
              | true =>
                rw [hkb] at hbit HAS
                clear hkb
                go_wp2_with (fail)
                go_roundw
                case rel => exact ⟨i + 1, by omega, by rw [HAS.out]; first | done | rfl, by go_num, by trivial⟩
                case measure => simp [intOf]; omega
          · obtain rfl : i = L.length := by omega
            obtain ⟨bb, hbb⟩ : ∃ bb, allB N torn L.length L.length = bb := ⟨_, rfl⟩
            rw [hbb]
            have HBB := Lib.hid hbb
            clear hbb
            go_wp2_with (fail)
            refine (dcrash_any d f m v8 (D.puts 4 L) N torn bytes _ (HH8.out.lab 0 _ rfl).disk).mono ?_
            rintro e w9 ⟨rfl, hd9, k9⟩
            have HH9 : Hid (Hall w1 w9 [⟨d, f, m, .slice none 0 0, (D.puts 4 L).crash N torn bytes, .idle⟩] [(.slice A2 T.length cap2, T), (.slice A L.length cap, L)]) := HH8.out.crash 0 rfl hd9 k9
            have hrd := read_any d f m _ _ .idle 4 40 ((ls : Int) + 2) ((bt : Int) + 2) w9 (HH9.out.lab 0 _ rfl)
            clear hd9 k9 c0 c1 c2 HH8
            rcases HRD.out with hv | ⟨hv, hall⟩
            · rw [hv] at hrd
              clear hv
              go_wp2_with (fail)
              refine hrd.mono ?_
              rintro e w10 ⟨rfl, b10⟩
              have q7 := alloc_new w10 (.cells #[.int .i64 ((bt : Int) + 2), .int .i64 ((ls : Int) + 2), .int .i64 0, .int .i64 (L.length : Int), .int .u8 2, .string (S t)] 77)
              have B7 := alloc_below w10 (.cells #[.int .i64 ((bt : Int) + 2), .int .i64 ((ls : Int) + 2), .int .i64 0, .int .i64 (L.length : Int), .int .u8 2, .string (S t)] 77)
              have i0 := (cell_of q7 0).trans rfl
              have i1 := (cell_of q7 1).trans rfl
              have i2 := (cell_of q7 2).trans rfl
              have i3 := (cell_of q7 3).trans rfl
              have i4 := (cell_of q7 4).trans rfl
              have i5 := (cell_of q7 5).trans rfl
              have HB7 := Lib.hid (below_step B7 (below_step (HH9.out.below b10).bel HB1.out (Nat.le_of_eq rfl)) (Nat.le_refl _))
              clear b10 B7 q7 hrd
              go_wp2_with (go_at_call 38; refine (HO.out _).mono ?_; rintro e w11 ⟨rfl, bk⟩)
              go_ret
              exact ⟨rfl, below_step bk HB7.out (Nat.le_refl _)⟩
            · rw [hv] at hrd
              obtain rfl : bb = false := HBB.out.symm.trans hall
              clear hv hall
              go_wp2_with (fail)
              refine hrd.mono ?_
              unfold zfrm
              rintro e w10 ⟨rfl, b10⟩
              have HB7 := Lib.hid (below_step (alloc_below w10 (.cells zcells 77)) (below_step (HH9.out.below b10).bel HB1.out (Nat.le_of_eq rfl)) (Nat.le_refl _))
              clear b10 hrd
              go_wp2_with (go_at_call 38; refine (HO.out _).mono ?_; rintro e w11 ⟨rfl, bk⟩)
              go_ret
              exact ⟨rfl, below_step bk HB7.out (Nat.le_refl _)⟩
      · have ht0' : ¬ torn < 0 := by omega
        have ht1' : ¬ (L.length : Int) ≤ torn := by omega
        have HA : Hid (allB N torn L.length 0 = false) := by
          unfold Hid allB; rw [decide_eq_false (by omega)]; rfl
        go_upto_region 17 with (fail)
        clear ht1 ht0
        go_wp2_with (fail)
        go_loopw [25, 26] (fun v25 v26 wr => ∃ i : Nat, i ≤ L.length ∧ v25 = .bool (allB N torn L.length i) ∧ v26 = .int .i64 i ∧ wr = w8) (fun _ v26 _ => L.length - (intOf v26).toNat)
        case atStart => exact ⟨0, Nat.zero_le _, by rw [HA.out]; first | done | rfl | simp [ht0', ht1'], rfl, rfl⟩
        case round =>
          obtain ⟨i, hi, rfl, rfl, rfl⟩ := hrel
          by_cases hlt : i < L.length
          · have HAS := Lib.hid (allB_succ N torn L.length i)
            cases hall : allB N torn L.length i with
            | false =>
              rw [hall] at HAS
              clear hall
              go_wp2_with (fail)
              go_roundw
              case rel => exact ⟨i + 1, by omega, by rw [HAS.out]; first | done | rfl, by go_num, by trivial⟩
              case measure => simp [intOf]; omega
            | true =>
              rw [hall] at HAS
              have hbit := and_one N hN i
              clear hall
              cases hkb : keepB N i with
              | false =>
                rw [hkb] at hbit HAS
                clear hkb
                go_wp2_with (fail)
                go_roundw
                case rel => exact ⟨i + 1, by omega, by rw [HAS.out]; first | done | rfl, by go_num, by trivial⟩
                case measure => simp [intOf]; omega
              | true =>
                rw [hkb] at hbit HAS
                clear hkb
                go_wp2_with (fail)
                go_roundw
                case rel => exact ⟨i + 1, by omega, by rw [HAS.out]; first | done | rfl, by go_num, by trivial⟩
                case measure => simp [intOf]; omega
          · obtain rfl : i = L.length := by omega
            obtain ⟨bb, hbb⟩ : ∃ bb, allB N torn L.length L.length = bb := ⟨_, rfl⟩
            rw [hbb]
            have HBB := Lib.hid hbb
            clear hbb
            go_wp2_with (fail)
            refine (dcrash_any d f m v8 (D.puts 4 L) N torn bytes _ (HH8.out.lab 0 _ rfl).disk).mono ?_
            rintro e w9 ⟨rfl, hd9, k9⟩
            have HH9 : Hid (Hall w1 w9 [⟨d, f, m, .slice none 0 0, (D.puts 4 L).crash N torn bytes, .idle⟩] [(.slice A2 T.length cap2, T), (.slice A L.length cap, L)]) := HH8.out.crash 0 rfl hd9 k9
            have hrd := read_any d f m _ _ .idle 4 40 ((ls : Int) + 2) ((bt : Int) + 2) w9 (HH9.out.lab 0 _ rfl)
            clear hd9 k9 c0 c1 c2 HH8
            rcases HRD.out with hv | ⟨hv, hall⟩
            · rw [hv] at hrd
              clear hv
              go_wp2_with (fail)
              refine hrd.mono ?_
              rintro e w10 ⟨rfl, b10⟩
              have q7 := alloc_new w10 (.cells #[.int .i64 ((bt : Int) + 2), .int .i64 ((ls : Int) + 2), .int .i64 0, .int .i64 (L.length : Int), .int .u8 2, .string (S t)] 77)
              have B7 := alloc_below w10 (.cells #[.int .i64 ((bt : Int) + 2), .int .i64 ((ls : Int) + 2), .int .i64 0, .int .i64 (L.length : Int), .int .u8 2, .string (S t)] 77)
              have i0 := (cell_of q7 0).trans rfl
              have i1 := (cell_of q7 1).trans rfl
              have i2 := (cell_of q7 2).trans rfl
              have i3 := (cell_of q7 3).trans rfl
              have i4 := (cell_of q7 4).trans rfl
              have i5 := (cell_of q7 5).trans rfl
              have HB7 := Lib.hid (below_step B7 (below_step (HH9.out.below b10).bel HB1.out (Nat.le_of_eq rfl)) (Nat.le_refl _))
              clear b10 B7 q7 hrd
              go_wp2_with (go_at_call 38; refine (HO.out _).mono ?_; rintro e w11 ⟨rfl, bk⟩)
              go_ret
              exact ⟨rfl, below_step bk HB7.out (Nat.le_refl _)⟩
            · rw [hv] at hrd
              obtain rfl : bb = false := HBB.out.symm.trans hall
              clear hv hall
              go_wp2_with (fail)
              refine hrd.mono ?_
              unfold zfrm
              rintro e w10 ⟨rfl, b10⟩
              have HB7 := Lib.hid (below_step (alloc_below w10 (.cells zcells 77)) (below_step (HH9.out.below b10).bel HB1.out (Nat.le_of_eq rfl)) (Nat.le_refl _))
              clear b10 hrd
              go_wp2_with (go_at_call 38; refine (HO.out _).mono ?_; rintro e w11 ⟨rfl, bk⟩)
              go_ret
              exact ⟨rfl, below_step bk HB7.out (Nat.le_refl _)⟩
    · have h3' : (0 : Int) < (ol : Int) % 3 := by omega
      have hw := rwrite_any w1 w5 d f m _ _ _ 0 _ T HH5.out rfl a (by show a + T.length ≤ (List.replicate 40 Z80).length; rw [List.length_replicate]; omega) (fun s hs => (HT4.out s hs).1) (by show 0 + T.length ≤ 1000000; omega)
      go_wp2_with (fail)
      refine hw.mono ?_
      rintro e w6 ⟨rfl, v6, hH6⟩
      have HH6 := Lib.hid hH6
      clear hH6 hw HH5
      go_wp2_with (fail)
      refine (dsync_any d f m v6 _ .idle w6 (HH6.out.lab 0 _ rfl).disk (HH6.out.lab 0 _ rfl).fuse).mono ?_
      rw [doSync_ok]
      rintro e w5 ⟨rfl, ha7⟩
      obtain ⟨v7, h7⟩ := HH6.out.after 0 rfl ha7
      have HX : Hid (∃ v' D, Hall w1 w5 [⟨d, f, m, v', D, .idle⟩] [(.slice A2 T.length cap2, T), (.slice A L.length cap, L)] ∧ OldD (bt + 2) (ls + 2) D) := ⟨_, _, h7, oldD_puts (fun s hs => (HT4.out s hs).2)⟩
      clear h7 ha7 HH6
      go_upto_region 14 with (fail)
      clear h3 h3'
      obtain ⟨v7, D, hH7, hOD⟩ := HX.out
      have HRD := Lib.hid (HREAD.out D hOD)
      have hw2 := rwrite_any w1 w5 d f m v7 D _ 1 _ L hH7 rfl 4 (by rw [hOD.1]; omega) H80.out (by rw [hOD.2.1]; show 0 + L.length ≤ 1000000; omega)
      rw [show ((4:Nat):Int) = 4 from rfl] at hw2
      clear hH7 hOD HX HREAD HT4
      go_wp2_with (fail)
      refine hw2.mono ?_
      rintro e w8 ⟨rfl, v8, hH8⟩
      have HH8 := Lib.hid hH8
      have hblk : w8.heap[w.heap.size]? = some (.cells #[.int .u64 N, .int .i64 torn, .int .i64 bytes] 39) := (HH8.out.bel.block _ (by rw [HS1.out]; exact Nat.lt_succ_self _)).trans HN1.out
      have c0 : w8.cell? ⟨w.heap.size, 0, none⟩ = some (.int .u64 N) := (cell_of hblk 0).trans rfl
      have c1 : w8.cell? ⟨w.heap.size, 1, none⟩ = some (.int .i64 torn) := (cell_of hblk 1).trans rfl
      have c2 : w8.cell? ⟨w.heap.size, 2, none⟩ = some (.int .i64 bytes) := (cell_of hblk 2).trans rfl
      clear hH8 hw2 hblk
      rcases (show torn < 0 ∨ (0 ≤ torn ∧ (L.length : Int) ≤ torn) ∨ (0 ≤ torn ∧ torn < L.length) by omega) with ht1 | ⟨ht0, ht1⟩ | ⟨ht0, ht1⟩
      · have HA : Hid (allB N torn L.length 0 = true) := by
          unfold Hid allB; rw [decide_eq_true (by omega)]; rfl
        go_upto_region 17 with (fail)
        clear ht1
        go_wp2_with (fail)
        go_loopw [25, 26] (fun v25 v26 wr => ∃ i : Nat, i ≤ L.length ∧ v25 = .bool (allB N torn L.length i) ∧ v26 = .int .i64 i ∧ wr = w8) (fun _ v26 _ => L.length - (intOf v26).toNat)
        case atStart => exact ⟨0, Nat.zero_le _, by rw [HA.out]; first | done | rfl | simp [ht0', ht1'], rfl, rfl⟩
        case round =>
          obtain ⟨i, hi, rfl, rfl, rfl⟩ := hrel
          by_cases hlt : i < L.length
          · have HAS := Lib.hid (allB_succ N torn L.length i)
            cases hall : allB N torn L.length i with
            | false =>
              rw [hall] at HAS
              clear hall
              go_wp2_with (fail)
              go_roundw
              case rel => exact ⟨i + 1, by omega, by rw [HAS.out]; first | done | rfl, by go_num, by trivial⟩
              case measure => simp [intOf]; omega
            | true =>
              rw [hall] at HAS
              have hbit := and_one N hN i
              clear hall
              cases hkb : keepB N i with
              | false =>
                rw [hkb] at hbit HAS
                clear hkb
                go_wp2_with (fail)
                go_roundw
                case rel => exact ⟨i + 1, by omega, by rw [HAS.out]; first | done | rfl, by go_num, by trivial⟩
                case measure => simp [intOf]; omega
              | true =>
                rw [hkb] at hbit HAS
                clear hkb
                go_wp2_with (fail)
                go_roundw
                case rel => exact ⟨i + 1, by omega, by rw [HAS.out]; first | done | rfl, by go_num, by trivial⟩
                case measure => simp [intOf]; omega
          · obtain rfl : i = L.length := by omega
            obtain ⟨bb, hbb⟩ : ∃ bb, allB N torn L.length L.length = bb := ⟨_, rfl⟩
            rw [hbb]
            have HBB := Lib.hid hbb
            clear hbb
            go_wp2_with (fail)
            refine (dcrash_any d f m v8 (D.puts 4 L) N torn bytes _ (HH8.out.lab 0 _ rfl).disk).mono ?_
            rintro e w9 ⟨rfl, hd9, k9⟩
            have HH9 : Hid (Hall w1 w9 [⟨d, f, m, .slice none 0 0, (D.puts 4 L).crash N torn bytes, .idle⟩] [(.slice A2 T.length cap2, T), (.slice A L.length cap, L)]) := HH8.out.crash 0 rfl hd9 k9
            have hrd := read_any d f m _ _ .idle 4 40 ((ls : Int) + 2) ((bt : Int) + 2) w9 (HH9.out.lab 0 _ rfl)
            clear hd9 k9 c0 c1 c2 HH8
            rcases HRD.out with hv | ⟨hv, hall⟩
            · rw [hv] at hrd
              clear hv
              go_wp2_with (fail)
              refine hrd.mono ?_
              rintro e w10 ⟨rfl, b10⟩
              have q7 := alloc_new w10 (.cells #[.int .i64 ((bt : Int) + 2), .int .i64 ((ls : Int) + 2), .int .i64 0, .int .i64 (L.length : Int), .int .u8 2, .string (S t)] 77)
              have B7 := alloc_below w10 (.cells #[.int .i64 ((bt : Int) + 2), .int .i64 ((ls : Int) + 2), .int .i64 0, .int .i64 (L.length : Int), .int .u8 2, .string (S t)] 77)
              have i0 := (cell_of q7 0).trans rfl
              have i1 := (cell_of q7 1).trans rfl
              have i2 := (cell_of q7 2).trans rfl
              have i3 := (cell_of q7 3).trans rfl
              have i4 := (cell_of q7 4).trans rfl
              have i5 := (cell_of q7 5).trans rfl
              have HB7 := Lib.hid (below_step B7 (below_step (HH9.out.below b10).bel HB1.out (Nat.le_of_eq rfl)) (Nat.le_refl _))
              clear b10 B7 q7 hrd
              go_wp2_with (go_at_call 38; refine (HO.out _).mono ?_; rintro e w11 ⟨rfl, bk⟩)
              go_ret
              exact ⟨rfl, below_step bk HB7.out (Nat.le_refl _)⟩
            · rw [hv] at hrd
              obtain rfl : bb = false := HBB.out.symm.trans hall
              clear hv hall
              go_wp2_with (fail)
              refine hrd.mono ?_
              unfold zfrm
              rintro e w10 ⟨rfl, b10⟩
              have HB7 := Lib.hid (below_step (alloc_below w10 (.cells zcells 77)) (below_step (HH9.out.below b10).bel HB1.out (Nat.le_of_eq rfl)) (Nat.le_refl _))
              clear b10 hrd
              go_wp2_with (go_at_call 38; refine (HO.out _).mono ?_; rintro e w11 ⟨rfl, bk⟩)
              go_ret
              exact ⟨rfl, below_step bk HB7.out (Nat.le_refl _)⟩
      · have ht0' : ¬ torn < 0 := by omega
        have HA : Hid (allB N torn L.length 0 = true) := by
          unfold Hid allB; rw [decide_eq_true (by omega)]; rfl
        go_upto_region 17 with (fail)
        clear ht1 ht0 ht0'
        go_wp2_with (fail)
        go_loopw [25, 26] (fun v25 v26 wr => ∃ i : Nat, i ≤ L.length ∧ v25 = .bool (allB N torn L.length i) ∧ v26 = .int .i64 i ∧ wr = w8) (fun _ v26 _ => L.length - (intOf v26).toNat)
        case atStart => exact ⟨0, Nat.zero_le _, by rw [HA.out]; first | done | rfl | simp [ht0', ht1'], rfl, rfl⟩
        case round =>
          obtain ⟨i, hi, rfl, rfl, rfl⟩ := hrel
          by_cases hlt : i < L.length
          · have HAS := Lib.hid (allB_succ N torn L.length i)
            cases hall : allB N torn L.length i with
            | false =>
              rw [hall] at HAS
              clear hall
              go_wp2_with (fail)
              go_roundw
              case rel => exact ⟨i + 1, by omega, by rw [HAS.out]; first | done | rfl, by go_num, by trivial⟩
              case measure => simp [intOf]; omega
            | true =>
              rw [hall] at HAS
              have hbit := and_one N hN i
              clear hall
              cases hkb : keepB N i with
              | false =>
                rw [hkb] at hbit HAS
                clear hkb
                go_wp2_with (fail)
                go_roundw
                case rel => exact ⟨i + 1, by omega, by rw [HAS.out]; first | done | rfl, by go_num, by trivial⟩
                case measure => simp [intOf]; omega
              | true =>
                rw [hkb] at hbit HAS
                clear hkb
                go_wp2_with (fail)
                go_roundw
                case rel => exact ⟨i + 1, by omega, by rw [HAS.out]; first | done | rfl, by go_num, by trivial⟩
                case measure => simp [intOf]; omega
          · obtain rfl : i = L.length := by omega
            obtain ⟨bb, hbb⟩ : ∃ bb, allB N torn L.length L.length = bb := ⟨_, rfl⟩
            rw [hbb]
            have HBB := Lib.hid hbb
            clear hbb
            go_wp2_with (fail)
            refine (dcrash_any d f m v8 (D.puts 4 L) N torn bytes _ (HH8.out.lab 0 _ rfl).disk).mono ?_
            rintro e w9 ⟨rfl, hd9, k9⟩
            have HH9 : Hid (Hall w1 w9 [⟨d, f, m, .slice none 0 0, (D.puts 4 L).crash N torn bytes, .idle⟩] [(.slice A2 T.length cap2, T), (.slice A L.length cap, L)]) := HH8.out.crash 0 rfl hd9 k9
            have hrd := read_any d f m _ _ .idle 4 40 ((ls : Int) + 2) ((bt : Int) + 2) w9 (HH9.out.lab 0 _ rfl)
            clear hd9 k9 c0 c1 c2 HH8
            rcases HRD.out with hv | ⟨hv, hall⟩
            · rw [hv] at hrd
              clear hv
              go_wp2_with (fail)
              refine hrd.mono ?_
              rintro e w10 ⟨rfl, b10⟩
              have q7 := alloc_new w10 (.cells #[.int .i64 ((bt : Int) + 2), .int .i64 ((ls : Int) + 2), .int .i64 0, .int .i64 (L.length : Int), .int .u8 2, .string (S t)] 77)
              have B7 := alloc_below w10 (.cells #[.int .i64 ((bt : Int) + 2), .int .i64 ((ls : Int) + 2), .int .i64 0, .int .i64 (L.length : Int), .int .u8 2, .string (S t)] 77)
              have i0 := (cell_of q7 0).trans rfl
              have i1 := (cell_of q7 1).trans rfl
              have i2 := (cell_of q7 2).trans rfl
              have i3 := (cell_of q7 3).trans rfl
              have i4 := (cell_of q7 4).trans rfl
              have i5 := (cell_of q7 5).trans rfl
              have HB7 := Lib.hid (below_step B7 (below_step (HH9.out.below b10).bel HB1.out (Nat.le_of_eq rfl)) (Nat.le_refl _))
              clear b10 B7 q7 hrd
              go_wp2_with (go_at_call 38; refine (HO.out _).mono ?_; rintro e w11 ⟨rfl, bk⟩)
              go_ret
              exact ⟨rfl, below_step bk HB7.out (Nat.le_refl _)⟩
            · rw [hv] at hrd
              obtain rfl : bb = false := HBB.out.symm.trans hall
              clear hv hall
              go_wp2_with (fail)
              refine hrd.mono ?_
              unfold zfrm
              rintro e w10 ⟨rfl, b10⟩
              have HB7 := Lib.hid (below_step (alloc_below w10 (.cells zcells 77)) (below_step (HH9.out.below b10).bel HB1.out (Nat.le_of_eq rfl)) (Nat.le_refl _))
              clear b10 hrd
              go_wp2_with (go_at_call 38; refine (HO.out _).mono ?_; rintro e w11 ⟨rfl, bk⟩)
              go_ret
              exact ⟨rfl, below_step bk HB7.out (Nat.le_refl _)⟩
      · have ht0' : ¬ torn < 0 := by omega
        have ht1' : ¬ (L.length : Int) ≤ torn := by omega
        have HA : Hid (allB N torn L.length 0 = false) := by
          unfold Hid allB; rw [decide_eq_false (by omega)]; rfl
        go_upto_region 17 with (fail)
        clear ht1 ht0
        go_wp2_with (fail)
        go_loopw [25, 26] (fun v25 v26 wr => ∃ i : Nat, i ≤ L.length ∧ v25 = .bool (allB N torn L.length i) ∧ v26 = .int .i64 i ∧ wr = w8) (fun _ v26 _ => L.length - (intOf v26).toNat)
        case atStart => exact ⟨0, Nat.zero_le _, by rw [HA.out]; first | done | rfl | simp [ht0', ht1'], rfl, rfl⟩
        case round =>
          obtain ⟨i, hi, rfl, rfl, rfl⟩ := hrel
          by_cases hlt : i < L.length
          · have HAS := Lib.hid (allB_succ N torn L.length i)
            cases hall : allB N torn L.length i with
            | false =>
              rw [hall] at HAS
              clear hall
              go_wp2_with (fail)
              go_roundw
              case rel => exact ⟨i + 1, by omega, by rw [HAS.out]; first | done | rfl, by go_num, by trivial⟩
              case measure => simp [intOf]; omega
            | true =>
              rw [hall] at HAS
              have hbit := and_one N hN i
              clear hall
              cases hkb : keepB N i with
              | false =>
                rw [hkb] at hbit HAS
                clear hkb
                go_wp2_with (fail)
                go_roundw
                case rel => exact ⟨i + 1, by omega, by rw [HAS.out]; first | done | rfl, by go_num, by trivial⟩
                case measure => simp [intOf]; omega
              | true =>
                rw [hkb] at hbit HAS
                clear hkb
                go_wp2_with (fail)
                go_roundw
                case rel => exact ⟨i + 1, by omega, by rw [HAS.out]; first | done | rfl, by go_num, by trivial⟩
                case measure => simp [intOf]; omega
          · obtain rfl : i = L.length := by omega
            obtain ⟨bb, hbb⟩ : ∃ bb, allB N torn L.length L.length = bb := ⟨_, rfl⟩
            rw [hbb]
            have HBB := Lib.hid hbb
            clear hbb
            go_wp2_with (fail)
            refine (dcrash_any d f m v8 (D.puts 4 L) N torn bytes _ (HH8.out.lab 0 _ rfl).disk).mono ?_
            rintro e w9 ⟨rfl, hd9, k9⟩
            have HH9 : Hid (Hall w1 w9 [⟨d, f, m, .slice none 0 0, (D.puts 4 L).crash N torn bytes, .idle⟩] [(.slice A2 T.length cap2, T), (.slice A L.length cap, L)]) := HH8.out.crash 0 rfl hd9 k9
            have hrd := read_any d f m _ _ .idle 4 40 ((ls : Int) + 2) ((bt : Int) + 2) w9 (HH9.out.lab 0 _ rfl)
            clear hd9 k9 c0 c1 c2 HH8
            rcases HRD.out with hv | ⟨hv, hall⟩
            · rw [hv] at hrd
              clear hv
              go_wp2_with (fail)
              refine hrd.mono ?_
              rintro e w10 ⟨rfl, b10⟩
              have q7 := alloc_new w10 (.cells #[.int .i64 ((bt : Int) + 2), .int .i64 ((ls : Int) + 2), .int .i64 0, .int .i64 (L.length : Int), .int .u8 2, .string (S t)] 77)
              have B7 := alloc_below w10 (.cells #[.int .i64 ((bt : Int) + 2), .int .i64 ((ls : Int) + 2), .int .i64 0, .int .i64 (L.length : Int), .int .u8 2, .string (S t)] 77)
              have i0 := (cell_of q7 0).trans rfl
              have i1 := (cell_of q7 1).trans rfl
              have i2 := (cell_of q7 2).trans rfl
              have i3 := (cell_of q7 3).trans rfl
              have i4 := (cell_of q7 4).trans rfl
              have i5 := (cell_of q7 5).trans rfl
              have HB7 := Lib.hid (below_step B7 (below_step (HH9.out.below b10).bel HB1.out (Nat.le_of_eq rfl)) (Nat.le_refl _))
              clear b10 B7 q7 hrd
              go_wp2_with (go_at_call 38; refine (HO.out _).mono ?_; rintro e w11 ⟨rfl, bk⟩)
              go_ret
              exact ⟨rfl, below_step bk HB7.out (Nat.le_refl _)⟩
            · rw [hv] at hrd
              obtain rfl : bb = false := HBB.out.symm.trans hall
              clear hv hall
              go_wp2_with (fail)
              refine hrd.mono ?_
              unfold zfrm
              rintro e w10 ⟨rfl, b10⟩
              have HB7 := Lib.hid (below_step (alloc_below w10 (.cells zcells 77)) (below_step (HH9.out.below b10).bel HB1.out (Nat.le_of_eq rfl)) (Nat.le_refl _))
              clear b10 hrd
              go_wp2_with (go_at_call 38; refine (HO.out _).mono ?_; rintro e w11 ⟨rfl, bk⟩)
              go_ret
              exact ⟨rfl, below_step bk HB7.out (Nat.le_refl _)⟩
set_option maxRecDepth 100000 in
set_option maxHeartbeats 4000000 in
theorem recordTorn_long (bt ls ol fr : Int) (t o : List UInt8) (h : 600 < t.length ∨ 600 < o.length) (N torn bytes : Int) (w : World) :
    Calls Try.prog 15 #[.int .u8 bt, .int .u8 ls, .string (S t), .string (S o), .int .u8 ol, .int .u8 fr, .agg #[.int .u64 N, .int .i64 torn, .int .i64 bytes]] w fun e w' => e = .returned (.bool true) ∧ Below w.heap.size w w' := by
  have HO := Lib.hid (fun W : World => known06_any W)
  have HB1 := Lib.hid (alloc_below w (.cells #[.int .u64 N, .int .i64 torn, .int .i64 bytes] 39))
  by_cases h1 : 600 < t.length
  · have h1' : (600 : Int) < (t.length : Int) := by omega
    clear h
    go_enter Try.func15, Try.ntmps15
    go_wp2_with (go_at_call 38; refine (HO.out _).mono ?_; rintro e w2 ⟨rfl, bk⟩)
    go_ret
    exact ⟨rfl, below_step bk HB1.out (Nat.le_refl _)⟩
  · have h1' : ¬ (600 : Int) < (t.length : Int) := by omega
    have h2' : (600 : Int) < (o.length : Int) := by omega
    clear h h1
    go_enter Try.func15, Try.ntmps15
    go_wp2_with (go_at_call 38; refine (HO.out _).mono ?_; rintro e w2 ⟨rfl, bk⟩)
    go_ret
    exact ⟨rfl, below_step bk HB1.out (Nat.le_refl _)⟩
theorem recordTorn_row (a0 a1 : Int) (a2 a3 : ByteArray) (a4 a5 : Int) (keep torn bytes : Int) (W : World) (w0 : (Lit.int .u8 a0).wf = true) (w1 : (Lit.int .u8 a1).wf = true) (_w2 : a2.size ≤ 140737488351232) (_w3 : a3.size ≤ 140737488351232) (w4 : (Lit.int .u8 a4).wf = true) (w5 : (Lit.int .u8 a5).wf = true) (x : (Lit.int .u64 keep).wf = true) (_y : (Lit.int .i64 torn).wf = true) (_z : (Lit.int .i64 bytes).wf = true) :
    Calls Try.prog 15 #[.int .u8 a0, .int .u8 a1, .string a2, .string a3, .int .u8 a4, .int .u8 a5, .agg #[.int .u64 keep, .int .i64 torn, .int .i64 bytes]] W fun e w' => e = .returned (.bool true) ∧ Below W.heap.size W w' := by
  obtain ⟨t, rfl⟩ := str_list a2
  obtain ⟨o, rfl⟩ := str_list a3
  by_cases h : 600 < t.length ∨ 600 < o.length
  · exact recordTorn_long a0 a1 a4 a5 t o h keep torn bytes W
  · obtain ⟨n0, rfl, h0⟩ := u8_nat w0
    obtain ⟨n1, rfl, h1⟩ := u8_nat w1
    obtain ⟨n4, rfl, h4⟩ := u8_nat w4
    obtain ⟨n5, rfl, h5⟩ := u8_nat w5
    simp [Lit.wf, IntKind.min, IntKind.max, IntKind.signed, IntKind.bits] at x
    obtain ⟨K, rfl⟩ := Int.eq_ofNat_of_zero_le x.1
    exact recordTorn_main n0 n1 n4 n5 h0 h1 h4 h5 t o (by omega) (by omega) K (by omega) torn bytes W
end Go.Proofs.Ytjpelmjocdodcaa
