/- DiskAgain. -/
import Derived.Test.YtjpelmjocdodcaaBytesPure
import Derived.Test.YtjpelmjocdodcaaAlonePure
import Derived.Test.YtjpelmjocdodcaaRowP
namespace Go.Proofs.Ytjpelmjocdodcaa
open Go.RowKit Go.ChangeMaps

theorem alloc_set (w : World) (o o' : Obj) : setBlock (w.alloc o) w.heap.size o' = w.alloc o' := by
  have h : (w.heap.push o).setIfInBounds w.heap.size o' = w.heap.push o' := by
    apply Array.ext'
    simp
  unfold setBlock World.alloc
  simp only [h]
set_option maxRecDepth 100000 in
set_option maxHeartbeats 40000000 in
theorem diskAgain_any (n : Nat) (hn : n < 256) (A : Option Addr) (cap : Nat) (l : List (Nat × Nat)) (keep : Nat) (hkeep : keep < 18446744073709551616) (torn bytes keep2 torn2 bytes2 : Int) (one : Nat) (hone : one < 256) (w : World) (hp : PutsAt w A l) :
    Calls Try.prog 5 #[.int .u8 n, .slice A l.length cap, .agg #[.int .u64 keep, .int .i64 torn, .int .i64 bytes], .agg #[.int .u64 keep2, .int .i64 torn2, .int .i64 bytes2], .int .u8 one] w fun e w' => e = .returned (.bool true) ∧ Below w.heap.size w w' := by
  have HP := Lib.hid hp
  obtain ⟨r, hr⟩ : ∃ r, n % 12 + 1 = r := ⟨_, rfl⟩
  have hr1 : 1 ≤ r ∧ r ≤ 12 := by omega
  have hsz : (n : Int) % 12 + 1 = (r : Int) := by omega
  have HO := Lib.hid (fun W : World => known04_any W)
  have m1 := alloc_new w (.cells #[.int .u64 keep, .int .i64 torn, .int .i64 bytes] 39)
  have a1 := alloc_below w (.cells #[.int .u64 keep, .int .i64 torn, .int .i64 bytes] 39)
  have t1 := alloc_size w (.cells #[.int .u64 keep, .int .i64 torn, .int .i64 bytes] 39)
  obtain ⟨w0, hw0⟩ : ∃ w0, w.alloc (.cells #[.int .u64 keep, .int .i64 torn, .int .i64 bytes] 39) = w0 := ⟨_, rfl⟩
  rw [hw0] at m1 a1 t1
  have m2 := alloc_new w0 (.cells #[.int .u64 keep2, .int .i64 torn2, .int .i64 bytes2] 39)
  have a2 := alloc_below w0 (.cells #[.int .u64 keep2, .int .i64 torn2, .int .i64 bytes2] 39)
  have t2 := alloc_size w0 (.cells #[.int .u64 keep2, .int .i64 torn2, .int .i64 bytes2] 39)
  obtain ⟨w1, hw⟩ : ∃ w1, w0.alloc (.cells #[.int .u64 keep2, .int .i64 torn2, .int .i64 bytes2] 39) = w1 := ⟨_, rfl⟩
  rw [hw] at m2 a2 t2
  have HN1 := Lib.hid ((a2.block _ (by rw [t1]; exact Nat.lt_succ_self _)).trans m1)
  have HN2 := Lib.hid m2
  have HB1 := Lib.hid (below_step a2 a1 (Nat.le_refl _))
  have HS1 : Hid (w1.heap.size = w.heap.size + 2 ∧ w0.heap.size = w.heap.size + 1) := Lib.hid ⟨by omega, t1⟩
  clear hp hr m1 a1 t1 m2 a2 t2
  go_enter Try.func5, Try.ntmps5
  go_upto_region 1 with (fail)
  have HHW := Lib.hid (And.intro hw0 hw)
  clear hw hw0
  by_cases h40 : 40 < l.length
  · have h40' : (40 : Int) < (l.length : Int) := by omega
    go_wp2_with (go_at_call 16; refine (HO.out _).mono ?_; rintro e w2 ⟨rfl, bk⟩)
    go_ret
    exact ⟨rfl, below_step bk HB1.out (Nat.le_refl _)⟩
  have hl40 : l.length ≤ 40 := by omega
  have h40' : ¬ (40 : Int) < (l.length : Int) := by omega
  have HR := Lib.hid hr1
  have HL60 : Hid (l.length ≤ 60) := Lib.hid (by omega)
  clear h40 hr1
  go_wp2_with (fail)
  refine (filled_any r HR.out.1 HR.out.2 A cap l HL60.out 0 w1 (HP.out.below rfl HB1.out)).mono ?_
  rintro e w2 hF
  obtain ⟨d, f, m, v, u, rfl, hH⟩ := (Hall.start w1).filled hF
  have HH2 := Lib.hid hH
  clear hF hH h40' hsz
  go_wp2_with (fail)
  refine (filled_any r HR.out.1 HR.out.2 A cap l HL60.out 0 w2 (HP.out.below rfl (below_step HH2.out.bel HB1.out (Nat.le_refl _)))).mono ?_
  rintro e w3 hF
  obtain ⟨d2, f2, m2, v2, u2, rfl, hH⟩ := HH2.out.filled hF
  have HH3 := Lib.hid hH
  clear hF hH HH2
  go_wp2_with (fail)
  refine (filled_any r HR.out.1 HR.out.2 A cap l HL60.out 0 w3 (HP.out.below rfl (below_step HH3.out.bel HB1.out (Nat.le_refl _)))).mono ?_
  rintro e w4 hF
  obtain ⟨d3, f3, m3, v3, u3, rfl, hH⟩ := HH3.out.filled hF
  have HH4 := Lib.hid hH.drop.drop.drop
  clear hF hH HH3
  have hblk : w4.heap[w.heap.size]? = some (.cells #[.int .u64 keep, .int .i64 torn, .int .i64 bytes] 39) := (HH4.out.bel.block _ (by rw [HS1.out.1]; omega)).trans HN1.out
  have c0 : w4.cell? ⟨w.heap.size, 0, none⟩ = some (.int .u64 keep) := (cell_of hblk 0).trans rfl
  have c1 : w4.cell? ⟨w.heap.size, 1, none⟩ = some (.int .i64 torn) := (cell_of hblk 1).trans rfl
  have c2 : w4.cell? ⟨w.heap.size, 2, none⟩ = some (.int .i64 bytes) := (cell_of hblk 2).trans rfl
  have n5 := alloc_new w4 (.cells #[.int .u64 0, .int .i64 0, .int .i64 0] 39)
  have N5 := Lib.hid n5
  clear n5 hblk
  go_upto_region 10 with (refine wpList_store_block rfl 39 (.tmp 18) (.tmp 68) rfl w4.heap.size #[.int .u64 keep, .int .i64 (-1), .int .i64 0] rfl rfl 39 _ N5.out (by kernel_rfl) rfl (by simp [Value.oneCell']) ?_)
  rw [alloc_set]
  have n6 := alloc_new w4 (.cells #[.int .u64 keep, .int .i64 (-1), .int .i64 0] 39)
  have b6 := alloc_below w4 (.cells #[.int .u64 keep, .int .i64 (-1), .int .i64 0] 39)
  have s6 := alloc_size w4 (.cells #[.int .u64 keep, .int .i64 (-1), .int .i64 0] 39)
  obtain ⟨w6, hw6⟩ : ∃ w6, w4.alloc (.cells #[.int .u64 keep, .int .i64 (-1), .int .i64 0] 39) = w6 := ⟨_, rfl⟩
  rw [hw6] at n6 b6 s6 ⊢
  have x0 := below_cell b6 c0
  have x1 := below_cell b6 c1
  have x2 := below_cell b6 c2
  have HH6 := Lib.hid (HH4.out.below b6)
  have N6 := Lib.hid n6
  have B6 := Lib.hid b6
  have S6 := Lib.hid s6
  have n7 := alloc_new w6 (.cells #[.int .u64 0, .int .i64 0, .int .i64 0] 39)
  have N7 := Lib.hid n7
  clear n6 b6 s6 hw6 c0 c1 c2 N5 n7
  go_upto_region 11 with (refine wpList_store_block rfl 39 (.tmp 19) (.tmp 73) rfl w6.heap.size #[.int .u64 keep, .int .i64 torn, .int .i64 0] rfl rfl 39 _ N7.out (by kernel_rfl) rfl (by simp [Value.oneCell']) ?_)
  rw [alloc_set]
  have n8 := alloc_new w6 (.cells #[.int .u64 keep, .int .i64 torn, .int .i64 0] 39)
  have s8 := alloc_size w6 (.cells #[.int .u64 keep, .int .i64 torn, .int .i64 0] 39)
  have b8 := alloc_below w6 (.cells #[.int .u64 keep, .int .i64 torn, .int .i64 0] 39)
  obtain ⟨w8, hw8⟩ : ∃ w8, w6.alloc (.cells #[.int .u64 keep, .int .i64 torn, .int .i64 0] 39) = w8 := ⟨_, rfl⟩
  rw [hw8] at n8 b8 s8 ⊢
  have HSZ := Lib.hid s8
  have N8 := Lib.hid n8
  have B8 := Lib.hid b8
  have y0 := below_cell b8 x0
  have y1 := below_cell b8 x1
  have y2 := below_cell b8 x2
  have HH8 := Lib.hid (HH6.out.below b8)
  clear n8 b8 s8 hw8 x0 x1 x2 N7
  rename_i K2 hK2 K1 hK1
  have HLT : Hid ((d < w4.heap.size ∧ m < w4.heap.size) ∧ (d2 < w4.heap.size ∧ m2 < w4.heap.size) ∧ (d3 < w4.heap.size ∧ m3 < w4.heap.size) ∧ w6.heap.size = w4.heap.size + 1) :=
    ⟨⟨(HH4.out.lab 2 _ rfl).lt (.inl rfl), (HH4.out.lab 2 _ rfl).lt (.inr (.inr (.inl rfl)))⟩, ⟨(HH4.out.lab 1 _ rfl).lt (.inl rfl), (HH4.out.lab 1 _ rfl).lt (.inr (.inr (.inl rfl)))⟩, ⟨(HH4.out.lab 0 _ rfl).lt (.inl rfl), (HH4.out.lab 0 _ rfl).lt (.inr (.inr (.inl rfl)))⟩, S6.out⟩
  have REST : ∀ (u74 u75 u76 u77 u78 u79 u80 u81 u82 u83 u84 u85 u86 u87 u88 u89 u90 u91 u92 u93 u94 u95 u96 : Value) (K' : Int) (w9 : World), Hid (∀ j : Nat, j < l.length → if (j : Int) = torn then keepB K' j = false else keepB K' j = keepB keep j) →
      Hid (Hall w1 w9 [⟨d3, f3, m3, v3, fillD r 0 l, .idle⟩, ⟨d2, f2, m2, v2, fillD r 0 l, .idle⟩, ⟨d, f, m, v, fillD r 0 l, .idle⟩] []) → Hid (w4.heap.size < w9.heap.size ∧ w6.heap.size < w9.heap.size ∧
        (w9.heap[w4.heap.size]? = some (.cells #[.int .u64 K', .int .i64 (-1), .int .i64 0] 39)) ∧ (w9.heap[w6.heap.size]? = some (.cells #[.int .u64 keep, .int .i64 torn, .int .i64 0] 39))) → K2 ⟨List.toArray (.int .u8 ↑n :: .slice A l.length cap :: .agg #[.int .u64 ↑keep, .int .i64 torn, .int .i64 bytes] :: .agg #[.int .u64 keep2, .int .i64 torn2, .int .i64 bytes2] :: .int .u8 ↑one :: undef :: undef :: .pointer (some { block := w.heap.size, off := 0 }) :: .pointer (some { block := w0.heap.size, off := 0 }) :: undef :: .bool false :: .int .i64 ↑r :: .pointer (some { block := d, off := 0 }) :: u :: .pointer (some { block := d2, off := 0 }) :: u2 :: .pointer (some { block := d3, off := 0 }) :: u3 :: .pointer (some { block := w4.heap.size, off := 0 }) :: .pointer (some { block := w6.heap.size, off := 0 }) :: undef :: undef :: undef :: undef :: undef :: undef :: undef :: undef :: undef :: undef :: .slice A l.length cap :: .int .i64 ↑l.length :: .bool false :: undef :: .int .u8 ↑n :: .int .i64 ↑n :: .int .i64 (↑n % 12) :: .int .i64 ↑r :: .tuple #[.pointer (some { block := d, off := 0 }), u] :: .int .i64 ↑r :: .slice A l.length cap :: .tuple #[.pointer (some { block := d, off := 0 }), u] :: .pointer (some { block := d, off := 0 }) :: u :: .tuple #[.pointer (some { block := d2, off := 0 }), u2] :: .int .i64 ↑r :: .slice A l.length cap :: .tuple #[.pointer (some { block := d2, off := 0 }), u2] :: .pointer (some { block := d2, off := 0 }) :: u2 :: .tuple #[.pointer (some { block := d3, off := 0 }), u3] :: .int .i64 ↑r :: .slice A l.length cap :: .tuple #[.pointer (some { block := d3, off := 0 }), u3] :: .pointer (some { block := d3, off := 0 }) :: u3 :: .pointer (some { block := d, off := 0 }) :: .bool false :: .bool false :: .pointer (some { block := d2, off := 0 }) :: .bool false :: .bool false :: .bool false :: .pointer (some { block := d3, off := 0 }) :: .bool false :: .bool false :: .pointer (some { block := w.heap.size, off := 0 }) :: .int .u64 ↑keep :: .agg #[.int .u64 ↑keep, .int .i64 (-1), .int .i64 0] :: .pointer (some { block := w.heap.size, off := 0 }) :: .int .u64 ↑keep :: .pointer (some { block := w.heap.size, off := 1 }) :: .int .i64 torn :: .agg #[.int .u64 ↑keep, .int .i64 torn, .int .i64 0] :: u74 :: u75 :: u76 :: u77 :: u78 :: u79 :: u80 :: u81 :: u82 :: u83 :: u84 :: u85 :: u86 :: u87 :: u88 :: u89 :: u90 :: u91 :: u92 :: u93 :: u94 :: u95 :: u96 :: undef :: undef :: undef :: undef :: undef :: undef :: undef :: undef :: undef :: undef :: undef :: undef :: undef :: undef :: undef :: undef :: undef :: undef :: undef :: undef :: undef :: undef :: undef :: undef :: undef :: undef :: undef :: undef :: undef :: undef :: undef :: undef :: undef :: undef :: undef :: undef :: undef :: undef :: undef :: undef :: undef :: undef :: undef :: undef :: undef :: undef :: undef :: undef :: undef :: undef :: undef :: undef :: undef :: undef :: undef :: undef :: undef :: undef :: undef :: undef :: undef :: undef :: undef :: undef :: undef :: undef :: undef :: undef :: undef :: undef :: undef :: undef :: undef :: undef :: undef :: undef :: undef :: undef :: undef :: undef :: undef :: undef :: undef :: undef :: undef :: undef :: undef :: undef :: undef :: undef :: undef :: undef :: undef :: undef :: undef :: undef :: undef :: undef :: undef :: undef :: undef :: undef :: undef :: undef :: undef :: undef :: undef :: undef :: undef :: undef :: undef :: undef :: undef :: undef :: undef :: undef :: undef :: undef :: undef :: undef :: undef :: undef :: []), []⟩ w9 := by
    intro u74 u75 u76 u77 u78 u79 u80 u81 u82 u83 u84 u85 u86 u87 u88 u89 u90 u91 u92 u93 u94 u95 u96 K' w9 HK HH9 HW9
    have HDL : Hid ((fillD r 0 l).S.length = r) := fillD_length r 0 l
    have HZ : Hid ((fillD r 0 l).crash keep torn 0 = (fillD r 0 l).crash K' (-1) 0) := lost_zero r l keep K' torn (by have := HR.out; omega) HK.out
    have HAL : Hid (∀ a, a < r → secAt ((fillD r 0 (aloneL r a l)).crash keep torn bytes).S a = secAt ((fillD r 0 l).crash keep torn bytes).S a) := fun a ha => alone_sec r a l keep torn bytes ha
    obtain ⟨D, hD⟩ : ∃ D, fillD r 0 l = D := ⟨_, rfl⟩
    rw [hD] at HDL HZ HAL HH9
    have HE1 : Hid ((D.crash keep torn bytes).P = [] ∧ (D.crash keep torn bytes).S.length = r) := ⟨rfl, (tearFrom_length ..).trans HDL.out⟩
    have HF1 : Hid ((D.crash K' (-1) 0).P = [] ∧ (D.crash K' (-1) 0).S.length = r) := ⟨rfl, (tearFrom_length ..).trans HDL.out⟩
    have HDP : Hid (D.P.length ≤ 1000000) := by
      rw [← hD]
      exact Nat.le_trans (fillD_pend r 0 l) (by omega)
    obtain ⟨E, hE⟩ : ∃ E, D.crash keep torn bytes = E := ⟨_, rfl⟩
    obtain ⟨F, hF⟩ : ∃ F, D.crash K' (-1) 0 = F := ⟨_, rfl⟩
    have HEE := Lib.hid hE
    have HFF := Lib.hid hF
    rw [hE] at HE1 HAL
    rw [hF] at HF1 HZ
    clear hE hF hD HH4 HH6 HH8 N6 B6 N8 B8 y0 y1 y2
    have hblk9 : w9.heap[w.heap.size]? = some (.cells #[.int .u64 keep, .int .i64 torn, .int .i64 bytes] 39) := (HH9.out.bel.block _ (by rw [HS1.out.1]; omega)).trans HN1.out
    have c0 : w9.cell? ⟨w.heap.size, 0, none⟩ = some (.int .u64 keep) := (cell_of hblk9 0).trans rfl
    have c1 : w9.cell? ⟨w.heap.size, 1, none⟩ = some (.int .i64 torn) := (cell_of hblk9 1).trans rfl
    have c2 : w9.cell? ⟨w.heap.size, 2, none⟩ = some (.int .i64 bytes) := (cell_of hblk9 2).trans rfl
    clear hblk9
    apply hK2
    go_wp2_with (fail)
    refine (dcrash_any d f m v D keep torn bytes w9 (HH9.out.lab 2 _ rfl).disk).mono ?_
    rw [HEE.out]
    rintro e w10 ⟨rfl, hd10, k10⟩
    have HH10 : Hid (Hall w1 w10 [⟨d3, f3, m3, v3, D, .idle⟩, ⟨d2, f2, m2, v2, D, .idle⟩, ⟨d, f, m, .slice none 0 0, E, .idle⟩] []) := HH9.out.crash 2 rfl hd10 k10
    obtain ⟨s1, s2, q1, q2⟩ := HW9.out
    have q1' := (k10.block _ s1 (by have := HLT.out; omega)).trans q1
    have q2' := (k10.block _ s2 (by have := HLT.out; omega)).trans q2
    have c0 : w10.cell? ⟨w4.heap.size, 0, none⟩ = some (.int .u64 K') := (cell_of q1' 0).trans rfl
    have c1 : w10.cell? ⟨w4.heap.size, 1, none⟩ = some (.int .i64 (-1)) := (cell_of q1' 1).trans rfl
    have c2 : w10.cell? ⟨w4.heap.size, 2, none⟩ = some (.int .i64 0) := (cell_of q1' 2).trans rfl
    have s2' : w6.heap.size < w10.heap.size := Nat.lt_of_lt_of_le s2 k10.size
    have Q2 := Lib.hid (And.intro s2' q2')
    clear HH9 HW9 hd10 k10 s1 s2 q1 q2 q1' q2' s2'
    go_wp2_with (fail)
    refine (dcrash_any d2 f2 m2 v2 D K' (-1) 0 w10 (HH10.out.lab 1 _ rfl).disk).mono ?_
    rw [HFF.out]
    rintro e w11 ⟨rfl, hd11, k11⟩
    have HH11 : Hid (Hall w1 w11 [⟨d3, f3, m3, v3, D, .idle⟩, ⟨d2, f2, m2, .slice none 0 0, F, .idle⟩, ⟨d, f, m, .slice none 0 0, E, .idle⟩] []) := HH10.out.crash 1 rfl hd11 k11
    have q2' := (k11.block _ Q2.out.1 (by have := HLT.out; omega)).trans Q2.out.2
    have c0 : w11.cell? ⟨w6.heap.size, 0, none⟩ = some (.int .u64 keep) := (cell_of q2' 0).trans rfl
    have c1 : w11.cell? ⟨w6.heap.size, 1, none⟩ = some (.int .i64 torn) := (cell_of q2' 1).trans rfl
    have c2 : w11.cell? ⟨w6.heap.size, 2, none⟩ = some (.int .i64 0) := (cell_of q2' 2).trans rfl
    clear HH10 hd11 k11 q2' Q2
    go_wp2_with (fail)
    refine (dcrash_any d3 f3 m3 v3 D keep torn 0 w11 (HH11.out.lab 0 _ rfl).disk).mono ?_
    rw [HZ.out]
    rintro e w12 ⟨rfl, hd12, k12⟩
    have HH12 : Hid (Hall w1 w12 [⟨d3, f3, m3, .slice none 0 0, F, .idle⟩, ⟨d2, f2, m2, .slice none 0 0, F, .idle⟩, ⟨d, f, m, .slice none 0 0, E, .idle⟩] []) := HH11.out.crash 0 rfl hd12 k12
    clear HH11 hd12 k12 c0 c1 c2 HZ
    go_wp2_with (fail)
    refine (fnew_any w12).mono ?_
    rintro e w13 ⟨rfl, hw13⟩
    have HS13 := Lib.hid (show w13.heap.size = w12.heap.size + 1 by rw [hw13]; exact alloc_size _ _)
    have HW13 := Lib.hid hw13
    clear hw13
    go_wp2_with (fail)
    refine (dnew_ok r w12.heap.size w13 HR.out.1 (by have := HR.out; omega) (by have := HS13.out; omega)).mono ?_
    rintro e w14 ⟨rfl, hd14, hb14⟩
    obtain ⟨h14, F14, B14⟩ := Lab.new HW13.out hd14 hb14
    obtain ⟨dd, hdd⟩ : ∃ d, w13.heap.size + 1 = d := ⟨_, rfl⟩
    obtain ⟨mm, hmm⟩ : ∃ m, w13.heap.size = m := ⟨_, rfl⟩
    obtain ⟨ff, hff⟩ : ∃ f, w12.heap.size = f := ⟨_, rfl⟩
    have HH14' := HH12.out.addDisk (s := ⟨w13.heap.size + 1, w12.heap.size, w13.heap.size, _, _, _⟩) h14 F14 B14
    rw [hdd, hmm, hff] at HH14'
    have HH14 := Lib.hid HH14'
    rw [hdd]
    clear hd14 hb14 hdd hmm hff h14 F14 B14 HW13 HS13 HH14' HH12
    obtain ⟨at_, hat⟩ : ∃ a, one % r = a := ⟨_, rfl⟩
    have hatr : at_ < r := by have := HR.out; rw [← hat]; exact Nat.mod_lt _ (by omega)
    have x1 : (one : Int) % (r : Int) = (at_ : Int) := by rw [← hat]; rfl
    have x2 : (one : Int).tmod (r : Int) = (at_ : Int) := by rw [Int.tmod_eq_emod_of_nonneg (by omega)]; exact x1
    have hr0 : ¬ r = 0 := by have := HR.out; omega
    clear hat
    go_wp2_with (fail)
    clear x1 x2
    have HATR := Lib.hid hatr
    go_loopw [23, 24] (fun v23 _ wr => ∃ i : Nat, i ≤ l.length ∧ v23 = .int .i64 i ∧ Hid (∃ v4, Hall w1 wr [⟨dd, ff, mm, v4, fillAt r 0 (aloneL r at_ l) i, .idle⟩, ⟨d3, f3, m3, .slice none 0 0, F, .idle⟩, ⟨d2, f2, m2, .slice none 0 0, F, .idle⟩, ⟨d, f, m, .slice none 0 0, E, .idle⟩] [])) (fun v23 _ _ => l.length - (intOf v23).toNat)
    case atStart => exact ⟨0, Nat.zero_le _, rfl, ⟨_, HH14.out⟩⟩
    case round =>
      obtain ⟨i, hi, rfl, hW⟩ := hrel
      by_cases hlt : i < l.length
      · obtain ⟨v4, hH4⟩ := hW.out
        obtain ⟨q1, q2, ad, rfl, k1, k2⟩ := PutsAt.below HP.out rfl (below_step hH4.bel HB1.out (Nat.le_refl _)) i hlt
        obtain ⟨_, _, ad0, hA0, k0, _⟩ := HP.out i hlt
        obtain rfl : ad = ad0 := by injection hA0
        have hadw : ad.block < w1.heap.size := by
          have h1 := World.block_lt_of_cell? _ _ k0
          have h2 := HB1.out.size
          rw [addr_block] at h1
          omega
        obtain ⟨⟨a, b⟩, hab⟩ : ∃ p, l[i] = p := ⟨_, rfl⟩
        rw [hab] at q1 q2 k1 k2
        dsimp only at q1 q2 k1 k2
        obtain ⟨rr, hrr⟩ : ∃ rr, a % r = rr := ⟨_, rfl⟩
        have hrn : rr < r := by rw [← hrr]; exact Nat.mod_lt _ (by omega)
        have x1 : (a : Int) % (r : Int) = (rr : Int) := by rw [← hrr]; rfl
        have x2 : (a : Int).tmod (r : Int) = (rr : Int) := by rw [Int.tmod_eq_emod_of_nonneg (by omega)]; exact x1
        obtain ⟨b', hb'⟩ : ∃ b', (if rr = at_ then b else 0) = b' := ⟨_, rfl⟩
        have HF2 := Lib.hid (alone_step r at_ l hlt hab hrr hb')
        obtain ⟨D4, hD4⟩ : ∃ D4, fillAt r 0 (aloneL r at_ l) i = D4 := ⟨_, rfl⟩
        have HD4L : Hid (D4.S.length = r) := by rw [← hD4]; exact fillAt_length ..
        have HD4P : Hid (D4.P.length ≤ 1000000) := by rw [← hD4]; exact Nat.le_trans (fillAt_pend ..) (by omega)
        have HRR : Hid (rr < D4.S.length) := by rw [HD4L.out]; exact hrn
        rw [hD4] at HF2 hH4
        have HH4' := Lib.hid hH4
        have HADW := Lib.hid hadw
        clear hH4 hW hA0 k0 hab hrr hD4 hadw hrn x1
        go_upto_region 24 with (fail)
        have HM : Hid ((IntKind.i64.wrap (a : Int)).tmod (r : Int) = (rr : Int)) := by
          show (IntKind.i64.wrap (a : Int)).tmod (r : Int) = (rr : Int)
          rw [show IntKind.i64.wrap (a : Int) = (a : Int) by rw [IntKind.wrap_i64]; omega]
          exact x2
        have HX1 : Hid (¬ Own dd ff mm v4 (ad.add (i * 2)).block) := fun ho => by
          have h1 := HH4'.out.frm 0 _ rfl _ ho
          have h2 := HADW.out
          rw [addr_block] at h1
          omega
        by_cases hc : rr = at_
        · obtain rfl : b = b' := by rw [← hb', if_pos hc]
          subst hc
          clear hb'
          have hw0 : wr.drew.cell? (ad.add (i * 2)) = some (.int .u8 (a : Int)) ∧ wr.drew.cell? ⟨(ad.add (i * 2)).block, (ad.add (i * 2)).off + 1, none⟩ = some (.int .u8 (b : Int)) := ⟨k1, k2⟩
          have HW0 := Lib.hid hw0
          clear hw0
          go_upto_region 26 with (fail)
          clear k1 k2
          refine wp_region_noPanic ?_
          go_region_held3 (fun w' => w'.cell? (ad.add (i * 2)) = some (.int .u8 (a : Int)) ∧ w'.cell? ⟨(ad.add (i * 2)).block, (ad.add (i * 2)).off + 1, none⟩ = some (.int .u8 (b : Int))) (first | exact HW0.out | exact keep2w (by assumption) k5 HX1.out HX1.out | exact Go.Proofs.Ytjpelmjocdodcaa.keep2 (by assumption) b3)
            (first | (go_at_call 20; refine (sector_any b q2 _).mono ?_; rintro e x3 ⟨rfl, b3⟩) | (go_at_call 19; rw [HM.out]; refine (dwrite_any dd ff mm v4 D4 .idle rr (sectorOf b) _ (((HH4'.out.below (Below.refl _ wr).drew).below b3).lab 0 _ rfl).disk (((HH4'.out.below (Below.refl _ wr).drew).below b3).lab 0 _ rfl).fuse HD4P.out).mono ?_; rw [doWrite_ok HRR.out (sectorOf_length _)]; rintro e x4 ⟨rfl, ha⟩; obtain ⟨v5, h5, k5, n5⟩ := ha.lab))
          refine NoPanic.normal ?_
          obtain ⟨v6, hHn⟩ := ((HH4'.out.below (Below.refl _ wr).drew).below b3).after 0 rfl ha
          have HHN : Hid (∃ v4, Hall w1 x4 [⟨dd, ff, mm, v4, fillAt r 0 (aloneL r rr l) (i + 1), .idle⟩, ⟨d3, f3, m3, .slice none 0 0, F, .idle⟩, ⟨d2, f2, m2, .slice none 0 0, F, .idle⟩, ⟨d, f, m, .slice none 0 0, E, .idle⟩] []) := ⟨v6, by rw [HF2.out]; exact hHn⟩
          clear h5 k5 n5 ha hHn b3 HW0 HX1 HH4' HM
          go_wp2_with (fail)
          go_roundw
          case rel => exact ⟨i + 1, by omega, by go_num, HHN⟩
          case measure => simp [intOf]; omega
        · obtain rfl : 0 = b' := by rw [← hb', if_neg hc]
          clear hb'
          have hci : ¬ (rr : Int) = (at_ : Int) := by omega
          have hcb : ((rr : Int) == (at_ : Int)) = false := by rw [beq_eq_false_iff_ne]; exact hci
          have hcn : ((rr : Int) != (at_ : Int)) = true := by rw [bne_iff_ne]; exact hci
          have hw0 : wr.drew.cell? (ad.add (i * 2)) = some (.int .u8 (a : Int)) ∧ wr.drew.cell? ⟨(ad.add (i * 2)).block, (ad.add (i * 2)).off + 1, none⟩ = some (.int .u8 (b : Int)) := ⟨k1, k2⟩
          have HW0 := Lib.hid hw0
          clear hw0
          go_upto_region 26 with (fail)
          clear k1 k2
          refine wp_region_noPanic ?_
          go_region_held3 (fun w' => w'.cell? (ad.add (i * 2)) = some (.int .u8 (a : Int)) ∧ w'.cell? ⟨(ad.add (i * 2)).block, (ad.add (i * 2)).off + 1, none⟩ = some (.int .u8 (b : Int))) (first | exact HW0.out | exact keep2w (by assumption) k5 HX1.out HX1.out | exact Go.Proofs.Ytjpelmjocdodcaa.keep2 (by assumption) b3)
            (first | (go_at_call 20; refine (sector_any 0 (by omega) _).mono ?_; rintro e x3 ⟨rfl, b3⟩) | (go_at_call 19; rw [HM.out]; refine (dwrite_any dd ff mm v4 D4 .idle rr (sectorOf 0) _ (((HH4'.out.below (Below.refl _ wr).drew).below b3).lab 0 _ rfl).disk (((HH4'.out.below (Below.refl _ wr).drew).below b3).lab 0 _ rfl).fuse HD4P.out).mono ?_; rw [doWrite_ok HRR.out (sectorOf_length _)]; rintro e x4 ⟨rfl, ha⟩; obtain ⟨v5, h5, k5, n5⟩ := ha.lab))
          refine NoPanic.normal ?_
          obtain ⟨v6, hHn⟩ := ((HH4'.out.below (Below.refl _ wr).drew).below b3).after 0 rfl ha
          have HHN : Hid (∃ v4, Hall w1 x4 [⟨dd, ff, mm, v4, fillAt r 0 (aloneL r at_ l) (i + 1), .idle⟩, ⟨d3, f3, m3, .slice none 0 0, F, .idle⟩, ⟨d2, f2, m2, .slice none 0 0, F, .idle⟩, ⟨d, f, m, .slice none 0 0, E, .idle⟩] []) := ⟨v6, by rw [HF2.out]; exact hHn⟩
          clear h5 k5 n5 ha hHn b3 HW0 HX1 HH4' HM
          go_wp2_with (fail)
          go_roundw
          case rel => exact ⟨i + 1, by omega, by go_num, HHN⟩
          case measure => simp [intOf]; omega
      · obtain rfl : i = l.length := by omega
        obtain ⟨v4, hH4⟩ := hW.out
        have hsec : secAt ((fillAt r 0 (aloneL r at_ l) l.length).crash keep torn bytes).S at_ = secAt E.S at_ := by
          have h := HAL.out at_ HATR.out
          unfold fillD at h
          rw [aloneL_length] at h
          exact h
        have HD4L : Hid ((fillAt r 0 (aloneL r at_ l) l.length).S.length = r) := fillAt_length ..
        have HD4P : Hid ((fillAt r 0 (aloneL r at_ l) l.length).P.length ≤ 1000000) := Nat.le_trans (fillAt_pend ..) (by omega)
        obtain ⟨D4, hD4⟩ : ∃ D4, fillAt r 0 (aloneL r at_ l) l.length = D4 := ⟨_, rfl⟩
        rw [hD4] at hH4 hsec HD4L HD4P
        have HE4 : Hid ((D4.crash keep torn bytes).S.length = r) := (tearFrom_length ..).trans HD4L.out
        obtain ⟨E4, hE4⟩ : ∃ E4, D4.crash keep torn bytes = E4 := ⟨_, rfl⟩
        have HEE4 := Lib.hid hE4
        rw [hE4] at hsec HE4
        have HSEC := Lib.hid hsec
        have HH4' := Lib.hid hH4
        clear hW hH4 hsec hD4 hE4 HAL
        have hblk9 : wr.heap[w.heap.size]? = some (.cells #[.int .u64 keep, .int .i64 torn, .int .i64 bytes] 39) := (HH4'.out.bel.block _ (by rw [HS1.out.1]; omega)).trans HN1.out
        have c0 : wr.cell? ⟨w.heap.size, 0, none⟩ = some (.int .u64 keep) := (cell_of hblk9 0).trans rfl
        have c1 : wr.cell? ⟨w.heap.size, 1, none⟩ = some (.int .i64 torn) := (cell_of hblk9 1).trans rfl
        have c2 : wr.cell? ⟨w.heap.size, 2, none⟩ = some (.int .i64 bytes) := (cell_of hblk9 2).trans rfl
        clear hblk9
        go_wp2_with (fail)
        refine (dcrash_any dd ff mm v4 D4 keep torn bytes wr (HH4'.out.lab 0 _ rfl).disk).mono ?_
        rw [HEE4.out]
        rintro e y1 ⟨rfl, hdy, ky⟩
        have HH5 : Hid (Hall w1 y1 [⟨dd, ff, mm, .slice none 0 0, E4, .idle⟩, ⟨d3, f3, m3, .slice none 0 0, F, .idle⟩, ⟨d2, f2, m2, .slice none 0 0, F, .idle⟩, ⟨d, f, m, .slice none 0 0, E, .idle⟩] []) := HH4'.out.crash 0 rfl hdy ky
        clear hdy ky c0 c1 c2 HH4'
        have hin4 : at_ < E4.S.length := by rw [HE4.out]; exact HATR.out
        have hin : at_ < E.S.length := by rw [HE1.out.2]; exact HATR.out
        have HIN4 := Lib.hid hin4
        have HIN := Lib.hid hin
        clear hin hin4
        go_wp2_with (fail)
        refine (ddurable_any dd ff mm _ E4 at_ _ (HH5.out.lab 0 _ rfl).disk).mono ?_
        rw [doDurable_in HIN4.out, HSEC.out]
        rintro e y2 ⟨rfl, by2⟩
        have HH6 := Lib.hid (HH5.out.below by2)
        clear by2 HH5
        go_wp2_with (fail)
        refine (ddurable_any d f m _ E at_ _ (HH6.out.lab 3 _ rfl).disk).mono ?_
        rw [doDurable_in HIN.out]
        rintro e y3 ⟨rfl, by3⟩
        have HH7' := (HH6.out.below by3).nilRow
        rw [show ([] : List (List UInt8)) = secs E 0 from rfl] at HH7'
        have HH7 := Lib.hid HH7'
        clear by3 HH6 HH7'
        go_wp2_with (fail)
        go_loopw [25, 26] (fun v25 v26 wr => ∃ k : Nat, k ≤ r ∧ v26 = .int .i64 k ∧ Hid (Hall w1 wr [⟨dd, ff, mm, .slice none 0 0, E4, .idle⟩, ⟨d3, f3, m3, .slice none 0 0, F, .idle⟩, ⟨d2, f2, m2, .slice none 0 0, F, .idle⟩, ⟨d, f, m, .slice none 0 0, E, .idle⟩] [(v25, secs E k)])) (fun _ v26 _ => r - (intOf v26).toNat)
        case atStart => exact ⟨0, Nat.zero_le _, rfl, HH7⟩
        case round =>
          obtain ⟨k, hk, rfl, hW⟩ := hrel
          by_cases hkr : k < r
          · have HKE : Hid (k < E.S.length) := by have := HE1.out.2; unfold Hid; omega
            have HKF : Hid (k < F.S.length) := by have := HF1.out.2; unfold Hid; omega
            have hk12 : k ≤ 12 := by have := HR.out; omega
            go_upto_region 36 with (first
              | (go_at_call 21; refine (ddurable_any d f m _ E k _ (hW.out.lab 3 _ rfl).disk).mono ?_; rw [doDurable_in HKE.out]; rintro e z1 ⟨rfl, b6⟩)
              | (
                at_builtin
                obtain ⟨A', cap', z2, hrun, h8⟩ := (hW.out.below b6).push' (secs_len E k) (secAt E.S k) (by omega)
                rw [← secs_succ] at h8
                have HZ2 := Lib.hid h8
                refine wpList_append_eq rfl (.tmp 171) (.tmp 175) 25 rfl _ _ rfl rfl _ _ hrun ?_
                clear hrun h8 b6))
            go_wp2_with (fail)
            refine (ddurable_any d2 f2 m2 _ F k _ (HZ2.out.lab 2 _ rfl).disk).mono ?_
            rw [doDurable_in HKF.out]
            rintro e z3 ⟨rfl, b7⟩
            have HZ3 := Lib.hid (HZ2.out.below b7)
            clear b7 HZ2
            go_wp2_with (fail)
            refine (ddurable_any d3 f3 m3 _ F k _ (HZ3.out.lab 1 _ rfl).disk).mono ?_
            rw [doDurable_in HKF.out]
            rintro e z4 ⟨rfl, b8⟩
            have HZ4 := Lib.hid (HZ3.out.below b8)
            clear b8 HZ3
            go_wp2_with (fail)
            go_roundw
            case rel => exact ⟨k + 1, by omega, by go_num, HZ4⟩
            case measure => simp [intOf]; omega
          · obtain rfl : r = k := by omega
            have hblk9 : wr.heap[w0.heap.size]? = some (.cells #[.int .u64 keep2, .int .i64 torn2, .int .i64 bytes2] 39) := (hW.out.bel.block _ (by have := HS1.out; omega)).trans HN2.out
            have c0 : wr.cell? ⟨w0.heap.size, 0, none⟩ = some (.int .u64 keep2) := (cell_of hblk9 0).trans rfl
            have c1 : wr.cell? ⟨w0.heap.size, 1, none⟩ = some (.int .i64 torn2) := (cell_of hblk9 1).trans rfl
            have c2 : wr.cell? ⟨w0.heap.size, 2, none⟩ = some (.int .i64 bytes2) := (cell_of hblk9 2).trans rfl
            clear hblk9
            go_wp2_with (fail)
            refine (dcrash_any d f m _ E keep2 torn2 bytes2 wr (hW.out.lab 3 _ rfl).disk).mono ?_
            rw [crash_none HE1.out.1]
            rintro e z1 ⟨rfl, hdz, kz⟩
            have HZ1 : Hid (Hall w1 z1 [⟨dd, ff, mm, .slice none 0 0, E4, .idle⟩, ⟨d3, f3, m3, .slice none 0 0, F, .idle⟩, ⟨d2, f2, m2, .slice none 0 0, F, .idle⟩, ⟨d, f, m, .slice none 0 0, E, .idle⟩] [(u25, secs E r)]) := hW.out.crash 3 rfl hdz kz
            clear hdz kz c0 c1 c2 hW
            go_wp2_with (fail)
            go_loopw [27, 28, 29] (fun v27 _ _ wr => ∃ k : Nat, k ≤ r ∧ v27 = .int .i64 k ∧ Hid (Hall w1 wr [⟨dd, ff, mm, .slice none 0 0, E4, .idle⟩, ⟨d3, f3, m3, .slice none 0 0, F, .idle⟩, ⟨d2, f2, m2, .slice none 0 0, F, .idle⟩, ⟨d, f, m, .slice none 0 0, E, .idle⟩] [(u25, secs E r)])) (fun v27 _ _ _ => r - (intOf v27).toNat)
            case atStart => exact ⟨0, Nat.zero_le _, rfl, HZ1⟩
            case round =>
              obtain ⟨k, hk, rfl, hW⟩ := hrel
              by_cases hkr : k < r
              · have HKE : Hid (k < E.S.length) := by have := HE1.out.2; unfold Hid; omega
                have HRD : Hid (E.read k = secAt E.S k) := by unfold Hid Dk.read; rw [HE1.out.1]; rfl
                go_wp2_with (fail)
                refine (dread_any d f m _ E .idle k _ (hW.out.lab 3 _ rfl).disk (hW.out.lab 3 _ rfl).fuse).mono ?_
                rw [doRead_ok HKE.out rfl, HRD.out]
                rintro e z2 ⟨rfl, b7⟩
                have HZ2 := Lib.hid (hW.out.below b7)
                have HZ2d := Lib.hid (HZ2.out.below (Below.refl _ z2).drew)
                clear b7 hW
                obtain ⟨g, cap3, rfl, c9, c9'⟩ := str_at' (HZ2d.out.row 0 _ rfl) (secs_len E r) hkr
                rw [secs_at E r hkr] at c9 c9'
                have C9 := Lib.hid (And.intro c9 c9')
                have hrr : (r : Int) ≤ 12 := by have := HR.out; omega
                clear c9 c9'
                go_upto_region 43 with (fail)
                go_region_held3 (fun w' => w'.cell? (Addr.add ⟨g, 0, none⟩ k) = some (.string (S (secAt E.S k))) ∧ w'.cell? ⟨g, k, none⟩ = some (.string (S (secAt E.S k)))) (first | exact C9.out | exact Go.Proofs.Ytjpelmjocdodcaa.keep2 (by assumption) b9)
                  (first | (go_at_call 21; refine (ddurable_any d f m _ E k _ (HZ2d.out.lab 3 _ rfl).disk).mono ?_; rw [doDurable_in HKE.out]; rintro e z3 ⟨rfl, b9⟩))
                have HZ3 := Lib.hid (HZ2d.out.below b9)
                clear b9 C9 HZ2 HZ2d
                go_wp2_with (fail)
                go_roundw
                case rel => exact ⟨k + 1, by omega, by go_num, HZ3⟩
                case measure => simp [intOf]; omega
              · obtain rfl : k = r := by omega
                go_wp2_with (go_at_call 16; refine (HO.out _).mono ?_; rintro e z9 ⟨rfl, bk⟩)
                go_ret
                exact ⟨rfl, below_step (hW.out.below bk).bel HB1.out (Nat.le_of_eq rfl)⟩
  clear hK2
  have n4 : w8.heap[w4.heap.size]? = some (.cells #[.int .u64 keep, .int .i64 (-1), .int .i64 0] 39) := (B8.out.block _ (by rw [S6.out]; omega)).trans N6.out
  have fr := free_of n4 0
  have z0 : w8.cell? ⟨w4.heap.size, 0, none⟩ = some (.int .u64 keep) := (cell_of n4 0).trans rfl
  have NN := Lib.hid n4
  clear n4
  by_cases ht0 : 0 ≤ torn
  · by_cases htl : torn < (l.length : Int)
    · have ht64 : torn < 64 := by omega
      obtain ⟨q, rfl⟩ : ∃ q : Nat, torn = q := ⟨torn.toNat, by omega⟩
      have hp2 : IntKind.u64.wrap ((2 : Int) ^ q) = ((2 ^ q : Nat) : Int) := by
        have h1 : (2 : Nat) ^ q < 2 ^ 64 := Nat.pow_lt_pow_right (by omega) (by omega)
        have h2 : ((2 : Int) ^ q) = ((2 ^ q : Nat) : Int) := by norm_cast
        have h3 : (2 : Nat) ^ 64 = 18446744073709551616 := by decide
        rw [h2]
        rw [h3] at h1
        have h4 : ∀ P : Nat, P < 18446744073709551616 → IntKind.u64.wrap (P : Int) = (P : Int) := fun P hP => wrap_u64 (by omega) (by omega)
        exact h4 _ h1
      have HP2 := Lib.hid hp2
      have HTL : Hid (∀ j : Nat, j < l.length → if (j : Int) = (q : Int) then keepB (bits .andNot .u64 (keep : Int) ((2 ^ q : Nat) : Int)) j = false else keepB (bits .andNot .u64 (keep : Int) ((2 ^ q : Nat) : Int)) j = keepB keep j) := fun j hj => by
        have hj64 : j < 64 := by omega
        rw [keepB_andNot hkeep hj64]
        by_cases e : j = q
        · rw [if_pos (by omega), if_pos e]
        · rw [if_neg (by omega), if_neg e]
      clear hp2
      go_wp2_with (fail)
      rw [HP2.out]
      obtain ⟨K', hK'⟩ : ∃ K', bits .andNot .u64 (keep : Int) ((2 ^ q : Nat) : Int) = K' := ⟨_, rfl⟩
      rw [hK'] at HTL ⊢
      have kk : Keeps (fun x => x = w4.heap.size) w8 (w8.setCell ⟨w4.heap.size, 0, none⟩ (.int .u64 K')) := Keeps.setCell (S := fun x => x = w4.heap.size) (p := ⟨w4.heap.size, 0, none⟩) (.refl _ _) (fun _ => rfl) _
      have hb : (w8.setCell ⟨w4.heap.size, 0, none⟩ (.int .u64 K')).heap[w4.heap.size]? = some (.cells #[.int .u64 K', .int .i64 (-1), .int .i64 0] 39) := by
        rw [setCell_block NN.out]
        exact setBlock_same (Array.getElem?_eq_some_iff.1 NN.out).1 _
      have hH9 := HH8.out.other kk (fun x hx => by
        subst hx
        exact ⟨HH4.out.bel.size, fun j s hs ho => Nat.lt_irrefl _ ((HH4.out.lab j s hs).lt ho), nofun⟩)
      have hs8 : w6.heap.size < w8.heap.size := by rw [HSZ.out]; exact Nat.lt_succ_self _
      exact REST _ _ _ _ _ _ _ _ _ _ _ _ _ _ _ _ _ _ _ _ _ _ _ K' _ HTL (Lib.hid hH9) (Lib.hid ⟨Nat.lt_of_lt_of_le (Array.getElem?_eq_some_iff.1 NN.out).1 kk.size, Nat.lt_of_lt_of_le hs8 kk.size, hb, (kk.block _ hs8 (by have := S6.out; omega)).trans N8.out⟩)
    · by_cases ht64 : torn < 64
      · go_wp2_with (fail)
        exact REST _ _ _ _ _ _ _ _ _ _ _ _ _ _ _ _ _ _ _ _ _ _ _ (keep : Int) _ (Lib.hid fun j hj => by rw [if_neg (by omega)]) HH8 (Lib.hid ⟨by have h1 := B8.out.size; have h2 := S6.out; omega, by rw [HSZ.out]; exact Nat.lt_succ_self _, NN.out, N8.out⟩)
      · go_wp2_with (fail)
        exact REST _ _ _ _ _ _ _ _ _ _ _ _ _ _ _ _ _ _ _ _ _ _ _ (keep : Int) _ (Lib.hid fun j hj => by rw [if_neg (by omega)]) HH8 (Lib.hid ⟨by have h1 := B8.out.size; have h2 := S6.out; omega, by rw [HSZ.out]; exact Nat.lt_succ_self _, NN.out, N8.out⟩)
  · go_wp2_with (fail)
    exact REST _ _ _ _ _ _ _ _ _ _ _ _ _ _ _ _ _ _ _ _ _ _ _ (keep : Int) _ (Lib.hid fun j hj => by rw [if_neg (by omega)]) HH8 (Lib.hid ⟨by have h1 := B8.out.size; have h2 := S6.out; omega, by rw [HSZ.out]; exact Nat.lt_succ_self _, NN.out, N8.out⟩)
theorem u64_nat {n : Int} (h : (Lit.int .u64 n).wf = true) : ∃ k : Nat, n = (k : Int) ∧ k < 18446744073709551616 := by
  simp [Lit.wf, IntKind.min, IntKind.max, IntKind.signed, IntKind.bits] at h
  exact ⟨n.toNat, by omega, by omega⟩
theorem diskAgain_row (a0 : Int) (a1 : Option Addr) (c1 : Nat) (z1 : List (Nat × Nat)) (keep torn bytes : Int) (keep2 torn2 bytes2 : Int) (a4 : Int) (W : World) (w0 : (Lit.int .u8 a0).wf = true) (w1 : PutsAt W a1 z1) (_x : (Lit.int .u64 keep).wf = true) (_y : (Lit.int .i64 torn).wf = true) (_z : (Lit.int .i64 bytes).wf = true) (_x2 : (Lit.int .u64 keep2).wf = true) (_y2 : (Lit.int .i64 torn2).wf = true) (_z2 : (Lit.int .i64 bytes2).wf = true) (w4 : (Lit.int .u8 a4).wf = true) :
    Calls Try.prog 5 #[.int .u8 a0, .slice a1 z1.length c1, .agg #[.int .u64 keep, .int .i64 torn, .int .i64 bytes], .agg #[.int .u64 keep2, .int .i64 torn2, .int .i64 bytes2], .int .u8 a4] W fun e w' => e = .returned (.bool true) ∧ Below W.heap.size W w' := by
  obtain ⟨n, rfl, hn⟩ := u8_nat w0
  obtain ⟨o, rfl, ho⟩ := u8_nat w4
  obtain ⟨k, rfl, hk⟩ := u64_nat _x
  exact diskAgain_any n hn a1 c1 z1 k hk torn bytes keep2 torn2 bytes2 o ho W w1
end Go.Proofs.Ytjpelmjocdodcaa
