/- RecordBack. -/
import Derived.Test.YtjpelmjocdodcaaRecBack
import Derived.Test.YtjpelmjocdodcaaKnown06
namespace Go.Proofs.Ytjpelmjocdodcaa
open Go.RowKit Go.ChangeMaps

set_option maxRecDepth 100000 in
set_option maxHeartbeats 4000000 in
theorem recordBack_bad (b l kind : Int) (hk : 0 ≤ kind ∧ kind < 256) (t : List UInt8) (at_ less : Int) (w : World) (h : 4096 < t.length ∨ ¬ ROk b l) :
    Calls Try.prog 10 #[.int .i64 b, .int .i64 l, .int .u8 kind, .string (S t), .int .u8 at_, .int .u8 less] w fun e w' => e = .returned (.bool true) ∧ Below w.heap.size w w' := by
  have HO := Lib.hid (fun W : World => known06_any W)
  have hs := secs_any b l kind hk t w
  obtain ⟨er, her, hne⟩ : ∃ er : Int, recSecs b l kind t = ([], er) ∧ ¬ er = 0 := by
    by_cases h1 : 4096 < t.length
    · exact ⟨5, recSecs_long h1, by decide⟩
    · exact ⟨2, recSecs_bad (by omega) (by rcases h with h | h; exact absurd h h1; exact h), by decide⟩
  have hne' : (er != 0) = true := bne_iff_ne.2 hne
  rw [her] at hs
  dsimp only at hs
  go_enter Try.func10, Try.ntmps10
  go_wp2_with (fail)
  refine hs.mono ?_
  rintro e w1 ⟨A, cap, rfl, -, b1, -⟩
  have HB1 := Lib.hid b1
  clear b1 hs her
  dsimp only [List.length_nil]
  by_cases g1 : 4096 < t.length
  · have g1' : (4096 : Int) < (t.length : Int) := by omega
    clear h
    go_wp2_with (go_at_call 38; refine (HO.out _).mono ?_; rintro e w2 ⟨rfl, bk⟩)
    go_ret
    exact ⟨rfl, below_step bk HB1.out (Nat.le_refl _)⟩
  have h' : ¬ ROk b l := by rcases h with h | h; exact absurd h g1; exact h
  unfold ROk at h'
  have g1' : ¬ (4096 : Int) < (t.length : Int) := by omega
  by_cases g2 : b < 1
  · clear h h' g1
    go_wp2_with (go_at_call 38; refine (HO.out _).mono ?_; rintro e w2 ⟨rfl, bk⟩)
    go_ret
    exact ⟨rfl, below_step bk HB1.out (Nat.le_refl _)⟩
  by_cases g3 : (4294967296 : Int) ≤ b
  · clear h h' g1
    go_wp2_with (go_at_call 38; refine (HO.out _).mono ?_; rintro e w2 ⟨rfl, bk⟩)
    go_ret
    exact ⟨rfl, below_step bk HB1.out (Nat.le_refl _)⟩
  by_cases g4 : l < 1
  · clear h h' g1
    go_wp2_with (go_at_call 38; refine (HO.out _).mono ?_; rintro e w2 ⟨rfl, bk⟩)
    go_ret
    exact ⟨rfl, below_step bk HB1.out (Nat.le_refl _)⟩
  have g5 : (281474976710656 : Int) ≤ l := by omega
  clear h h' g1
  go_wp2_with (go_at_call 38; refine (HO.out _).mono ?_; rintro e w2 ⟨rfl, bk⟩)
  go_ret
  exact ⟨rfl, below_step bk HB1.out (Nat.le_refl _)⟩
def backB (b : Int) (le : Nat) (j : Nat) : Int := if j = 0 then b else if j = 1 then b - le else 0
theorem backB_le {b : Int} {le : Nat} (h : 1 ≤ b) (j : Nat) : backB b le j ≤ b := by
  unfold backB
  split
  · omega
  · split <;> omega
set_option maxRecDepth 100000 in
set_option maxHeartbeats 8000000 in
theorem recordBack_main (b l kind : Int) (hk : 0 ≤ kind ∧ kind < 256) (t : List UInt8) (ia le : Nat) (hia : ia < 256) (hle : le < 256) (w : World) (ht : t.length ≤ 4096) (hb : ROk b l) :
    Calls Try.prog 10 #[.int .i64 b, .int .i64 l, .int .u8 kind, .string (S t), .int .u8 ia, .int .u8 le] w fun e w' => e = .returned (.bool true) ∧ Below w.heap.size w w' := by
  have HO := Lib.hid (fun W : World => known06_any W)
  have hs := secs_any b l kind hk t w
  have h2 : (recSecs b l kind t).2 = 0 := by rw [recSecs_ok ht hb]
  have hlen : (recSecs b l kind t).1.length = npart t.length := recSecs_len ht hb
  have h80 : ∀ s ∈ (recSecs b l kind t).1, s.length = 80 := fun s hs => recSecs_80 hs
  obtain ⟨n, hn⟩ : ∃ n, npart t.length = n := ⟨_, rfl⟩
  have hn1 : 1 ≤ n := by rw [← hn]; exact npart_pos _
  have hn2 : n ≤ 94 := by rw [← hn]; exact npart_le ht
  obtain ⟨k, hkk⟩ : ∃ k, ia % 4 = k := ⟨_, rfl⟩
  have hk4 : k < 4 := by omega
  have hki : (ia : Int) % 4 = (k : Int) := by omega
  obtain ⟨L, hL⟩ : ∃ L, (recSecs b l kind t).1 = L := ⟨_, rfl⟩
  rw [h2, hL] at hs
  have HRD := Lib.hid (back_reads hk ht hb k hL hn.symm rfl)
  have hdec : ∀ i, i < n → fdecVal (secAt L i) = .tuple #[.agg #[.int .i64 b, .int .i64 l, .int .i64 i, .int .i64 (n : Nat), .int .u8 kind, .string (S (rpiece t i))], .int .i64 0] := fun i hi => by
    rw [secAt_rec ht hb hL (by omega), fdecVal_some (fdecodeOf_sec (recF_ok hk ht hb (by omega))), recF_fields hk hb, hn]
  have HDEC := Lib.hid hdec
  have HFULL := Lib.hid (fun i (h : i < n - 1) => rpiece_full (t := t) (i := i) (by omega))
  have HALL := Lib.hid (show t.take (44 * n) = t by rw [← hn]; exact take_all t)
  have HSTEP := Lib.hid (fun i => take_piece t i)
  have hparts : partsOf t.length = (((n : Nat) : Int), (0 : Int)) := by unfold partsOf; rw [if_neg (by omega), if_neg (by omega), Int.toNat_natCast, hn]
  have hp := parts_any (t.length : Int)
  rw [hparts] at hp
  dsimp only at hp
  have HP := Lib.hid hp
  rw [hL] at hlen h80
  rw [hn] at hlen
  have H80 := Lib.hid h80
  have g0 : ¬ (4096 : Int) < (t.length : Int) := by omega
  unfold ROk at hb
  obtain ⟨hb1, hb2, hl1, hl2⟩ := hb
  have g1 : ¬ b < 1 := by omega
  have g2 : ¬ (4294967296 : Int) ≤ b := by omega
  have g3 : ¬ l < 1 := by omega
  have g4 : ¬ (281474976710656 : Int) ≤ l := by omega
  clear hL h2 hn hdec h80 hparts hp hkk
  go_enter Try.func10, Try.ntmps10
  go_wp2_with (fail)
  refine hs.mono ?_
  rintro e w1 ⟨A, cap, rfl, hr, b1, hf⟩
  have HH1 : Hid (Hall w w1 [] [(.slice A L.length cap, L)]) := ((Hall.start w).below b1).addRow hr (fun k hk => ⟨hf k hk, nofun, nofun⟩)
  clear hr b1 hf hs
  have HLEN := Lib.hid hlen
  rw [hlen]
  rw [hlen] at HH1
  clear hlen
  go_wp2_with (fail)
  refine (HP.out _).mono ?_
  rintro e w' ⟨rfl, hw'⟩
  subst hw'
  go_wp2_with (fail)
  clear g0 g1 g2 g3 g4
  go_loopw [17, 18] (fun v17 v18 wr => ∃ i : Nat, i ≤ n ∧ v17 = .string (S (t.take (44 * i))) ∧ v18 = .int .i64 i ∧ Hid (Below w'.heap.size w' wr)) (fun _ v18 _ => n - (intOf v18).toNat)
  case atStart => exact ⟨0, Nat.zero_le _, rfl, rfl, .refl _ _⟩
  case round =>
    obtain ⟨i, hi, rfl, rfl, hB⟩ := hrel
    by_cases hlt : i < n
    · obtain ⟨g, cap2, hu, c, c'⟩ := str_at' ((HH1.out.below hB.out).row 0 _ rfl) HLEN.out hlt
      simp only [Value.slice.injEq] at hu
      obtain ⟨rfl, -, rfl⟩ := hu
      have hdc := fDecode_any (secAt L i) wr
      rw [HDEC.out i hlt] at hdc
      have hst := HSTEP.out i
      have hRl : (t.take (44 * i)).length ≤ 4096 := by rw [List.length_take]; omega
      have hXl := rpiece_le t i
      have hfull : i < n - 1 → ((rpiece t i).length : Int) = 44 := fun h => by rw [HFULL.out i h]; rfl
      obtain ⟨R, hR⟩ : ∃ R, t.take (44 * i) = R := ⟨_, rfl⟩
      obtain ⟨X, hX⟩ : ∃ X, rpiece t i = X := ⟨_, rfl⟩
      rw [hR, hX] at hst
      rw [hR] at hRl ⊢
      rw [hX] at hXl hfull hdc
      have HST := Lib.hid hst
      have hbig : ¬ 9223372036854775807 < R.length + X.length := by omega
      clear hst hR hX hRl hXl
      go_wp2_with (fail)
      refine hdc.mono ?_
      rintro e w3 ⟨rfl, b3⟩
      have n5 := alloc_new w3 (.cells #[.int .i64 b, .int .i64 l, .int .i64 i, .int .i64 (n : Nat), .int .u8 kind, .string (S X)] 77)
      have b5 := alloc_below w3 (.cells #[.int .i64 b, .int .i64 l, .int .i64 i, .int .i64 (n : Nat), .int .u8 kind, .string (S X)] 77)
      have x0 := (cell_of n5 0).trans rfl
      have x1 := (cell_of n5 1).trans rfl
      have x2 := (cell_of n5 2).trans rfl
      have x3 := (cell_of n5 3).trans rfl
      have x4 := (cell_of n5 4).trans rfl
      have x5 := (cell_of n5 5).trans rfl
      have HB5 := Lib.hid (below_step b5 (below_step b3 hB.out (Nat.le_refl _)) (Nat.le_refl _))
      clear b3 b5 n5 hdc c c' hB
      by_cases hl : i < n - 1
      · have g1 : (i : Int) < (n : Int) - 1 := by omega
        have g2 := hfull hl
        clear hfull hl
        go_wp2_with (fail)
        go_roundw
        case rel => exact ⟨i + 1, hlt, by rw [← HST.out], by go_num, HB5⟩
        case measure => simp [intOf]; omega
      · have g1 : ¬ (i : Int) < (n : Int) - 1 := by omega
        clear hfull hl
        go_wp2_with (fail)
        go_roundw
        case rel => exact ⟨i + 1, hlt, by rw [← HST.out], by go_num, HB5⟩
        case measure => simp [intOf]; omega
    · obtain rfl : n = i := by omega
      rw [HALL.out]
      have HHr := Lib.hid (HH1.out.below hB.out)
      clear hB HH1
      go_wp2_with (fail)
      refine (fnew_any wr).mono ?_
      rintro e w4 ⟨rfl, hw4⟩
      have HS4 := Lib.hid (show w4.heap.size = wr.heap.size + 1 by rw [hw4]; exact alloc_size _ _)
      have HW4 := Lib.hid hw4
      clear hw4
      have hnew := dnew_ok (n + k + 1) wr.heap.size w4 (by omega) (by omega) (by have := HS4.out; omega)
      rw [show (((n + k + 1 : Nat)) : Int) = (n : Int) + (k : Int) + 1 by omega] at hnew
      go_wp2_with (fail)
      refine hnew.mono ?_
      rintro e w5 ⟨rfl, hd, hbl⟩
      obtain ⟨h5, F5, B5⟩ := Lab.new HW4.out hd hbl
      obtain ⟨d, hdd⟩ : ∃ d, w4.heap.size + 1 = d := ⟨_, rfl⟩
      obtain ⟨m, hmm⟩ : ∃ m, w4.heap.size = m := ⟨_, rfl⟩
      obtain ⟨f, hff⟩ : ∃ f, wr.heap.size = f := ⟨_, rfl⟩
      have HH5 : Hid (Hall w w5 [⟨d, f, m, .slice none 0 0, Dk.new (n + k + 1), .idle⟩] [(.slice A n cap, L)]) := by
        have := HHr.out.addDisk (s := ⟨w4.heap.size + 1, wr.heap.size, w4.heap.size, .slice none 0 0, Dk.new (n + k + 1), .idle⟩) h5 F5 B5
        rw [hdd, hff, hmm] at this
        exact this
      rw [hdd]
      clear hd hbl h5 F5 B5 hdd hmm hff HHr HW4 HS4 hnew
      have hw := rwrite_any w w5 d f m _ _ _ 0 _ L HH5.out rfl k (by show k + L.length ≤ (List.replicate (n + k + 1) Z80).length; rw [List.length_replicate, HLEN.out]; omega) H80.out (by show 0 + L.length ≤ 1000000; rw [HLEN.out]; omega)
      go_wp2_with (fail)
      refine hw.mono ?_
      rintro e w6 ⟨rfl, v6, hH6⟩
      obtain ⟨D, hD⟩ : ∃ D, (Dk.new (n + k + 1)).puts k L = D := ⟨_, rfl⟩
      rw [hD] at hH6 HRD
      have hL6 := hH6.lab 0 _ rfl
      have HL6 := Lib.hid hL6
      have HB6 := Lib.hid hH6.bel
      clear hH6 hw HH5 hD hL6
      have n7 := alloc_new w6 (.cells #[.int .i64 b, .int .i64 l, .int .i64 0, .int .i64 (n : Int), .int .u8 kind, .string (S t)] 77)
      have b7 := alloc_below w6 (.cells #[.int .i64 b, .int .i64 l, .int .i64 0, .int .i64 (n : Int), .int .u8 kind, .string (S t)] 77)
      have s7 := alloc_size w6 (.cells #[.int .i64 b, .int .i64 l, .int .i64 0, .int .i64 (n : Int), .int .u8 kind, .string (S t)] 77)
      have n8 := alloc_new (w6.alloc (.cells #[.int .i64 b, .int .i64 l, .int .i64 0, .int .i64 (n : Int), .int .u8 kind, .string (S t)] 77)) (.cells #[.int .i64 b, .int .i64 (b - (le : Int)), .int .i64 0] 3)
      have b8 := alloc_below (w6.alloc (.cells #[.int .i64 b, .int .i64 l, .int .i64 0, .int .i64 (n : Int), .int .u8 kind, .string (S t)] 77)) (.cells #[.int .i64 b, .int .i64 (b - (le : Int)), .int .i64 0] 3)
      go_wp2_with (fail)
      rw [s7] at n8 b8
      obtain ⟨w8, hw8⟩ : ∃ w8, (w6.alloc (.cells #[.int .i64 b, .int .i64 l, .int .i64 0, .int .i64 (n : Int), .int .u8 kind, .string (S t)] 77)).alloc (.cells #[.int .i64 b, .int .i64 (b - (le : Int)), .int .i64 0] 3) = w8 := ⟨_, rfl⟩
      rw [hw8] at n8 b8 ⊢
      have hsz : w6.heap.size + 1 < w8.heap.size := (Array.getElem?_eq_some_iff.1 n8).1
      have b68 : Below w6.heap.size w6 w8 := b7.trans (b8.mono (by omega))
      have N7 : Hid (w8.heap[w6.heap.size]? = some (.cells #[.int .i64 b, .int .i64 l, .int .i64 0, .int .i64 (n : Int), .int .u8 kind, .string (S t)] 77 (0, 0))) := (b8.block _ (by omega)).trans n7
      have HS8 : Hid (∀ j, j < 3 → w8.cell? ⟨w6.heap.size + 1, j, none⟩ = some (.int .i64 (backB b le j))) := fun j hj => by
        rcases j with _ | _ | _ | j
        · exact (cell_of n8 0).trans rfl
        · exact (cell_of n8 1).trans rfl
        · exact (cell_of n8 2).trans rfl
        · omega
      have HL8 := Lib.hid (HL6.out.below b68)
      have HB8 := Lib.hid (below_step b68 HB6.out (Nat.le_refl _))
      have HBB := Lib.hid (fun j => backB_le (le := le) (b := b) (by omega) j)
      clear n7 b7 s7 n8 b8 hw8 b68 HL6 HB6
      go_loopw [195] (fun v195 wr => ∃ j : Nat, j ≤ 3 ∧ v195 = .int .i64 j ∧ Hid (Below w8.heap.size w8 wr)) (fun v195 _ => 3 - (intOf v195).toNat)
      case atStart => exact ⟨0, Nat.zero_le _, rfl, .refl _ _⟩
      case round =>
        obtain ⟨j, hj, rfl, hB⟩ := hrel
        by_cases hlt : j < 3
        · have cj := below_cell hB.out (HS8.out j hlt)
          have hrd := read_any d f m v6 D .idle k ((n : Int) + (k : Int)) l (backB b le j) wr (HL8.out.below hB.out)
          rw [HRD.out.1 _ (HBB.out j)] at hrd
          obtain ⟨bj, hbj⟩ : ∃ bj, backB b le j = bj := ⟨_, rfl⟩
          rw [hbj] at cj hrd
          clear hbj
          go_wp2_with (fail)
          refine hrd.mono ?_
          rintro e w9 ⟨rfl, b9⟩
          have q9 := alloc_new w9 (.cells #[.int .i64 b, .int .i64 l, .int .i64 0, .int .i64 (n : Int), .int .u8 kind, .string (S t)] 77)
          have B9 := alloc_below w9 (.cells #[.int .i64 b, .int .i64 l, .int .i64 0, .int .i64 (n : Int), .int .u8 kind, .string (S t)] 77)
          have i0 := (cell_of q9 0).trans rfl
          have i1 := (cell_of q9 1).trans rfl
          have i2 := (cell_of q9 2).trans rfl
          have i3 := (cell_of q9 3).trans rfl
          have i4 := (cell_of q9 4).trans rfl
          have i5 := (cell_of q9 5).trans rfl
          have h8 := hB.out.size
          have h9 := b9.size
          have hB9 := below_step b9 hB.out (Nat.le_refl _)
          have N9 := (B9.block w6.heap.size (by omega)).trans ((hB9.block w6.heap.size (by omega)).trans N7.out)
          have y0 := (cell_of N9 0).trans rfl
          have y1 := (cell_of N9 1).trans rfl
          have y2 := (cell_of N9 2).trans rfl
          have y3 := (cell_of N9 3).trans rfl
          have y4 := (cell_of N9 4).trans rfl
          have y5 := (cell_of N9 5).trans rfl
          have HB10 := Lib.hid (below_step B9 hB9 (Nat.le_refl _))
          clear b9 B9 q9 hrd cj hB hB9 N9 h8 h9
          go_wp2_with (fail)
          go_roundw
          case rel => exact ⟨j + 1, hlt, by go_num, HB10⟩
          case measure => simp [intOf]; omega
        · obtain rfl : j = 3 := by omega
          have HLr := Lib.hid (HL8.out.below hB.out)
          have HBr := Lib.hid (below_step hB.out HB8.out (Nat.le_refl _))
          clear hB HL8 HB8 HS8 N7
          have hrd := read_any d f m v6 D .idle k ((n : Int) + (k : Int)) l (b + 1) wr HLr.out
          rw [HRD.out.2.1] at hrd
          go_wp2_with (fail)
          refine hrd.mono ?_
          unfold zfrm
          rintro e w9 ⟨rfl, b9⟩
          have HL9 := Lib.hid (HLr.out.below b9)
          have HB9 := Lib.hid (below_step b9 HBr.out (Nat.le_refl _))
          clear b9 hrd HLr HBr
          have hrd := read_any d f m v6 D .idle k ((n : Int) + (k : Int)) (l + 1) b w9 HL9.out
          rw [HRD.out.2.2.1] at hrd
          go_wp2_with (fail)
          refine hrd.mono ?_
          unfold zfrm
          rintro e w10 ⟨rfl, b10⟩
          have HL10 := Lib.hid (HL9.out.below b10)
          have HB10 := Lib.hid (below_step b10 HB9.out (Nat.le_refl _))
          clear b10 hrd HL9 HB9
          have hrd := read_any d f m v6 D .idle k ((n : Int) + (k : Int) - 1) l b w10 HL10.out
          rw [HRD.out.2.2.2.1] at hrd
          go_wp2_with (fail)
          refine hrd.mono ?_
          unfold zfrm
          rintro e w11 ⟨rfl, b11⟩
          have b12 := below_step (alloc_below w11 (.cells zcells 77)) b11 (Nat.le_refl _)
          clear hrd
          go_wp2_with (fail)
          obtain ⟨w12, hw12⟩ : ∃ w12, w11.alloc (.cells zcells 77) = w12 := ⟨_, rfl⟩
          rw [hw12] at b12 ⊢
          have HL12 := Lib.hid (HL10.out.below b12)
          have HB12 := Lib.hid (below_step b12 HB10.out (Nat.le_refl _))
          clear b11 b12 HL10 HB10
          have hrd := read_any d f m v6 D .idle ((k : Int) + 1) ((n : Int) + (k : Int) + 1) l b w12 HL12.out
          rw [HRD.out.2.2.2.2] at hrd
          refine hrd.mono ?_
          unfold zfrm
          rintro e w13 ⟨rfl, b13⟩
          have HB14 := Lib.hid (below_step (below_step (alloc_below w13 (.cells zcells 77)) b13 (Nat.le_refl _)) HB12.out (Nat.le_refl _))
          clear b13 hrd
          go_wp2_with (go_at_call 38; refine (HO.out _).mono ?_; rintro e w15 ⟨rfl, bk⟩)
          go_ret
          exact ⟨rfl, below_step bk HB14.out (Nat.le_refl _)⟩
theorem recordBack_row (a0 a1 a2 : Int) (a3 : ByteArray) (a4 a5 : Int) (W : World) (_w0 : (Lit.int .i64 a0).wf = true) (_w1 : (Lit.int .i64 a1).wf = true) (w2 : (Lit.int .u8 a2).wf = true) (_w3 : a3.size ≤ 140737488351232) (w4 : (Lit.int .u8 a4).wf = true) (w5 : (Lit.int .u8 a5).wf = true) :
    Calls Try.prog 10 #[.int .i64 a0, .int .i64 a1, .int .u8 a2, .string a3, .int .u8 a4, .int .u8 a5] W fun e w' => e = .returned (.bool true) ∧ Below W.heap.size W w' := by
  simp [Lit.wf, IntKind.min, IntKind.max, IntKind.signed, IntKind.bits] at w2 w4 w5
  obtain ⟨t, rfl⟩ := str_list a3
  obtain ⟨n, rfl⟩ := Int.eq_ofNat_of_zero_le w4.1
  obtain ⟨m, rfl⟩ := Int.eq_ofNat_of_zero_le w5.1
  by_cases h : 4096 < t.length ∨ ¬ ROk a0 a1
  · exact recordBack_bad a0 a1 a2 (by omega) t n m W h
  · exact recordBack_main a0 a1 a2 (by omega) t n m (by omega) (by omega) W (by omega) (Decidable.byContradiction fun e => h (.inr e))
end Go.Proofs.Ytjpelmjocdodcaa
