/- BlockExamples. -/
import Derived.Test.YtgnhpbolmfbngaaBlockPieces
import Derived.Test.YtgnhpbolmfbngaaBlockSplits
import Derived.Test.YtgnhpbolmfbngaaMany24
namespace Go.Proofs.Ytgnhpbolmfbngaa
open Go.RowKit Go.ChangeMaps

theorem bad_dec {l : List UInt8} (h : (decodeOf l).isNone = true) : decVal l = .tuple #[zblk, .int .i64 12] := decVal_none (Option.isNone_iff_eq_none.1 h)
def mostB : Blk := ⟨4294967295, 4294967295, 4294967295, 281474976710655, List.replicate 36 122⟩
theorem mostB_ok : mostB.Ok := by unfold mostB Blk.Ok; decide
theorem mostB_len : mostB.sec.length = 80 := mostB.sec_length (by decide)
theorem most_cut : (decodeOf (mostB.sec.take 79 ++ [0])).isNone = true := by kernel_rfl
theorem zero_none : (decodeOf (List.replicate 80 0)).isNone = true := by kernel_rfl
theorem long_none {l : List UInt8} (h : ¬ l.length = 80) : (decodeOf l).isNone = true := by rw [decodeOf_bad (fun e => h e.1)]; rfl
theorem row_literal {w : World} {b : Nat} {L : List IB} (K : Nat) (hK : L.length = K) (hm : K ≤ 1000) (h : w.heap[b]? = some (.cells (icells L).toArray 31 (0, 0))) : w.ownsRow 0 31 5 (.slice (some ⟨b, 0, none⟩) K K) K (icells L) := by
  have hl := icells_length L
  refine ⟨by rw [hl, hK], .inr ⟨b, K, (icells L).toArray, rfl, Nat.zero_le _, h, Nat.le_refl _, by unfold maxLen; omega, by rw [List.size_toArray, hl, hK], ?_⟩⟩
  rw [List.take_of_length_le (by rw [hl, hK]; exact Nat.le_refl _)]
def bad5 : List IB := [⟨-1, 1, 0, 0, [120]⟩, ⟨0, 0, 0, 0, [120]⟩, ⟨0, 1, 4294967296, 0, [120]⟩, ⟨0, 1, 0, 281474976710656, [120]⟩, ⟨0, 1, 0, -1, [120]⟩]
theorem bad5_err : ∀ b ∈ bad5, encOf b.life b.boot b.n b.off b.d = ([], 2) := by
  intro b hb
  unfold bad5 at hb
  simp only [List.mem_cons, List.not_mem_nil, or_false] at hb
  rcases hb with rfl | rfl | rfl | rfl | rfl <;> rfl
set_option maxRecDepth 100000 in
set_option maxHeartbeats 8000000 in
theorem blockExamples_any (w : World) : Calls Try.prog 4 #[] w fun e w' => e = .returned (.bool true) ∧ Below w.heap.size w w' := by
  have M120 := Lib.hid (fun (n : Nat) (h : n ≤ 1000) (W : World) => many_any 120 n W h)
  have M122 := Lib.hid (fun (n : Nat) (h : n ≤ 1000) (W : World) => many_any 122 n W h)
  have M0 := Lib.hid (fun (n : Nat) (h : n ≤ 1000) (W : World) => many_any 0 n W h)
  go_enter Try.func4, Try.ntmps4
  go_wp2_with (fail)
  refine (M120.out 40 (by omega) w).mono ?_
  rintro e w1 ⟨rfl, b1⟩
  obtain ⟨T, hT⟩ : ∃ T, List.replicate 40 (120 : UInt8) = T := ⟨_, rfl⟩
  have hTl : T.length = 40 := by rw [← hT]; rfl
  have hT2 : npieces T = 2 := by unfold npieces; rw [hTl]
  have HIC : Hid (icells (splitL 3 1 7 100 T 2) = icells [⟨3, 1, 7, 100, List.replicate 36 120⟩, ⟨3, 1, 8, 136, [120, 120, 120, 120]⟩]) := by unfold Hid; rw [← hT]; kernel_rfl
  have HOKT := Lib.hid (fun k (hk : k < npieces T) => small_ok (life := 3) (boot := 1) (n := 7) (off := 100) (t := T) (by omega) (by omega) (by omega) (by omega) hk (by omega))
  rw [hT]
  clear hT
  have HT2 := Lib.hid hT2
  have hT256 : T.length ≤ 256 := by omega
  clear hTl hT2
  go_wp2_with (fail)
  refine (split_any 3 1 7 100 T hT256 w1).mono ?_
  rintro e w2 hs
  rcases hs with ⟨u, -, rfl, r1, b2, -⟩ | ⟨⟨k, hk, he⟩, -, -⟩
  case inr =>
    rw [HOKT.out k hk] at he
    cases he
  rw [HT2.out, HIC.out] at r1
  obtain ⟨A, cap, rfl⟩ := ownsRow_is r1
  have R1 := Lib.hid r1
  have HB2 := Lib.hid (below_step b2 b1 (Nat.le_refl _))
  clear r1 b1 b2 HIC HOKT HT2 hT256
  go_wp2_with (fail)
  refine (M120.out 36 (by omega) w2).mono ?_
  rintro e w3 ⟨rfl, b3⟩
  obtain ⟨X, hX⟩ : ∃ X, List.replicate 36 (120 : UInt8) = X := ⟨_, rfl⟩
  rw [hX] at R1 ⊢
  clear hX
  have q4 := alloc_new w3 (.cells (icells [⟨3, 1, 7, 100, X⟩, ⟨3, 1, 8, 136, [120, 120, 120, 120]⟩]).toArray 31)
  have b4 := alloc_below w3 (.cells (icells [⟨3, 1, 7, 100, X⟩, ⟨3, 1, 8, 136, [120, 120, 120, 120]⟩]).toArray 31)
  have e4 : w3.alloc (.cells (icells [⟨3, 1, 7, 100, X⟩, ⟨3, 1, 8, 136, [120, 120, 120, 120]⟩]).toArray 31) = w3.alloc (.cells #[.int .i64 3, .int .i64 1, .int .i64 7, .int .i64 100, .string (S X), .int .i64 3, .int .i64 1, .int .i64 8, .int .i64 136, .string ⟨#[120, 120, 120, 120]⟩] 31) := rfl
  rw [e4] at q4 b4
  clear e4
  have HQ4 := Lib.hid q4
  clear q4
  have R3 := Lib.hid (row_keeps (S := fun _ => False) R1.out (.of_below (below_step b4 b3 (Nat.le_refl _))) (fun _ _ => id))
  have HB4 := Lib.hid (below_step b4 (below_step b3 HB2.out (Nat.le_refl _)) (Nat.le_refl _))
  clear b3 b4 R1 HB2
  go_wp2_with (fail)
  have R4 := Lib.hid (row_literal (L := [⟨3, 1, 7, 100, X⟩, ⟨3, 1, 8, 136, [120, 120, 120, 120]⟩]) 2 rfl (by omega) HQ4.out)
  generalize w3.alloc (.cells #[.int .i64 3, .int .i64 1, .int .i64 7, .int .i64 100, .string (S X), .int .i64 3, .int .i64 1, .int .i64 8, .int .i64 136, .string ⟨#[120, 120, 120, 120]⟩] 31) = w4 at R3 R4 HB4 ⊢
  refine (eqBlocks_same _ _ 2 [⟨3, 1, 7, 100, X⟩, ⟨3, 1, 8, 136, [120, 120, 120, 120]⟩] (by omega) w4 R3.out R4.out).mono ?_
  rintro e w5 ⟨rfl, b5⟩
  have HB5 := Lib.hid (below_step b5 HB4.out (Nat.le_refl _))
  clear b5 HB4 R3 R4 HQ4
  go_wp2_with (fail)
  refine (split_any 3 0 0 0 [120] (by decide) w5).mono ?_
  rintro e w6 hs
  rcases hs with ⟨u, ok, rfl, -, -, -⟩ | ⟨-, rfl, b6⟩
  · exact absurd (ok 0 (by decide)) (by rw [show (splitB 3 0 0 0 [120] 0).err = 2 by kernel_rfl]; decide)
  have HB6 := Lib.hid (below_step b6 HB5.out (Nat.le_refl _))
  clear b6 HB5
  go_wp2_with (fail)
  refine (split_any 3 0 0 0 [] (by decide) w6).mono ?_
  rintro e w7 hs
  rcases hs with ⟨u, -, rfl, r7, b7, -⟩ | ⟨⟨k, hk, -⟩, -, -⟩
  case inr => exact absurd hk (by show ¬ k < 0; omega)
  obtain ⟨A7, cap7, rfl⟩ := ownsRow_is r7
  rw [show npieces [] = 0 from rfl]
  have HB7 := Lib.hid (below_step b7 HB6.out (Nat.le_refl _))
  clear b7 HB6 r7
  go_wp2_with (fail)
  refine (M120.out 257 (by omega) w7).mono ?_
  rintro e w8 ⟨rfl, b8⟩
  have HB8 := Lib.hid (below_step b8 HB7.out (Nat.le_refl _))
  obtain ⟨T3, hT3⟩ : ∃ T, List.replicate 257 (120 : UInt8) = T := ⟨_, rfl⟩
  have hT3l : 256 < T3.length := by rw [← hT3, List.length_replicate]; omega
  rw [hT3]
  clear b8 HB7 hT3
  go_wp2_with (fail)
  refine (split_long 3 1 0 0 T3 hT3l w8).mono ?_
  rintro e w9 ⟨rfl, b9⟩
  have HB9 := Lib.hid (below_step b9 HB8.out (Nat.le_refl _))
  clear b9 HB8 hT3l
  go_wp2_with (fail)
  refine (M120.out 256 (by omega) w9).mono ?_
  rintro e x1 ⟨rfl, c1⟩
  have HC1 := Lib.hid (below_step c1 HB9.out (Nat.le_refl _))
  obtain ⟨T4, hT4⟩ : ∃ T, List.replicate 256 (120 : UInt8) = T := ⟨_, rfl⟩
  have hT4l : T4.length = 256 := by rw [← hT4, List.length_replicate]
  have hT4n : npieces T4 = 8 := by unfold npieces; rw [hT4l]
  have HOK4 := Lib.hid (fun k (hk : k < npieces T4) => small_ok (life := 3) (boot := 1) (n := 0) (off := 0) (t := T4) (by omega) (by omega) (by omega) (by omega) hk (by omega))
  have HN4 := Lib.hid hT4n
  have h4256 : T4.length ≤ 256 := by omega
  rw [hT4]
  clear c1 HB9 hT4 hT4l hT4n
  go_wp2_with (fail)
  refine (split_any 3 1 0 0 T4 h4256 x1).mono ?_
  rintro e x2 hs
  rcases hs with ⟨u, -, rfl, r2, c2, -⟩ | ⟨⟨k, hk, he⟩, -, -⟩
  case inr =>
    rw [HOK4.out k hk] at he
    cases he
  obtain ⟨A8, cap8, rfl⟩ := ownsRow_is r2
  rw [HN4.out]
  have HC2 := Lib.hid (below_step c2 HC1.out (Nat.le_refl _))
  clear c2 HC1 r2 HOK4 HN4 h4256
  go_wp2_with (fail)
  refine (bEncode_any 1 1 0 0 [] x2).mono ?_
  rw [show encOf 1 1 0 0 [] = ([], 2) from rfl]
  rintro e x3 ⟨rfl, c3⟩
  have HC3 := Lib.hid (below_step c3 HC2.out (Nat.le_refl _))
  clear c3 HC2
  go_wp2_with (fail)
  refine (M120.out 37 (by omega) x3).mono ?_
  rintro e x4 ⟨rfl, c4⟩
  have HC4 := Lib.hid (below_step c4 HC3.out (Nat.le_refl _))
  obtain ⟨T5, hT5⟩ : ∃ T, List.replicate 37 (120 : UInt8) = T := ⟨_, rfl⟩
  have HE5 : Hid (encOf 1 1 0 0 T5 = ([], 5)) := by unfold Hid encOf; rw [if_pos (by rw [← hT5]; decide)]
  rw [hT5]
  clear c4 HC3 hT5
  go_wp2_with (fail)
  refine (bEncode_any 1 1 0 0 T5 x4).mono ?_
  rw [HE5.out]
  rintro e x5 ⟨rfl, c5⟩
  have HC5 := Lib.hid (below_step c5 HC4.out (Nat.le_refl _))
  clear c5 HC4 HE5
  go_wp2_with (fail)
  refine (M0.out 80 (by omega) x5).mono ?_
  rintro e x6 ⟨rfl, c6⟩
  have HC6 := Lib.hid (below_step c6 HC5.out (Nat.le_refl _))
  obtain ⟨T6, hT6⟩ : ∃ T, List.replicate 80 (0 : UInt8) = T := ⟨_, rfl⟩
  have HD6 : Hid (decVal T6 = .tuple #[zblk, .int .i64 12]) := by unfold Hid; rw [← hT6]; exact bad_dec zero_none
  rw [hT6]
  clear c6 HC5 hT6
  go_wp2_with (fail)
  refine (bDecode_any T6 x6).mono ?_
  rw [HD6.out]
  unfold zblk
  rintro e x7 ⟨rfl, c7⟩
  have HC7 := Lib.hid (below_step c7 HC6.out (Nat.le_refl _))
  clear c7 HC6 HD6
  go_wp2_with (fail)
  refine (M122.out 36 (by omega) x7).mono ?_
  rintro e x8 ⟨rfl, c8⟩
  obtain ⟨T7, hT7⟩ : ∃ T, List.replicate 36 (122 : UInt8) = T := ⟨_, rfl⟩
  have hv : mostB.val = .agg #[.int .i64 4294967295, .int .i64 4294967295, .int .i64 4294967295, .int .i64 281474976710655, .string (S T7)] := by rw [← hT7]; rfl
  have HENC : Hid (∀ W, Calls Try.prog 17 #[.agg #[.int .i64 4294967295, .int .i64 4294967295, .int .i64 4294967295, .int .i64 281474976710655, .string (S T7)]] W fun e w' => e = .returned (.tuple #[.string (S mostB.sec), .int .i64 0]) ∧ Below W.heap.size W w') := by
    unfold Hid
    intro W
    rw [← hv]
    exact bEncode_ok mostB W mostB_ok
  have HDEC : Hid (decVal mostB.sec = .tuple #[.agg #[.int .i64 4294967295, .int .i64 4294967295, .int .i64 4294967295, .int .i64 281474976710655, .string (S T7)], .int .i64 0]) := by
    unfold Hid
    rw [decVal_some (decodeOf_sec mostB_ok), hv]
  have HCUT := Lib.hid (bad_dec most_cut)
  have HLEN := Lib.hid mostB_len
  obtain ⟨MS, hMS⟩ : ∃ MS, mostB.sec = MS := ⟨_, rfl⟩
  rw [hMS] at HDEC HCUT HLEN
  simp only [hMS] at HENC
  rw [hT7]
  have HC8 := Lib.hid (below_step c8 HC7.out (Nat.le_refl _))
  clear c8 HC7 hT7 hv hMS
  have m9 := alloc_new x8 (.cells #[.int .i64 4294967295, .int .i64 4294967295, .int .i64 4294967295, .int .i64 281474976710655, .string (S T7)] 31)
  have b9 := alloc_below x8 (.cells #[.int .i64 4294967295, .int .i64 4294967295, .int .i64 4294967295, .int .i64 281474976710655, .string (S T7)] 31)
  go_wp2_with (fail)
  generalize x8.alloc (.cells #[.int .i64 4294967295, .int .i64 4294967295, .int .i64 4294967295, .int .i64 281474976710655, .string (S T7)] 31) = x9 at m9 b9 ⊢
  refine (HENC.out x9).mono ?_
  rintro e y1 ⟨rfl, d1⟩
  have HM1 := Lib.hid ((d1.block _ (Array.getElem?_eq_some_iff.1 m9).1).trans m9)
  have HY1 := Lib.hid (below_step d1 (below_step b9 HC8.out (Nat.le_refl _)) (Nat.le_refl _))
  clear m9 b9 d1 HC8 HENC
  have hml : MS.length = 80 := HLEN.out
  go_wp2_with (fail)
  refine (bDecode_any MS y1).mono ?_
  rw [HDEC.out]
  rintro e y2 ⟨rfl, d2⟩
  have HM2 := Lib.hid ((d2.block _ (Array.getElem?_eq_some_iff.1 HM1.out).1).trans HM1.out)
  have m10 := alloc_new y2 (.cells #[.int .i64 4294967295, .int .i64 4294967295, .int .i64 4294967295, .int .i64 281474976710655, .string (S T7)] 31)
  have b10 := alloc_below y2 (.cells #[.int .i64 4294967295, .int .i64 4294967295, .int .i64 4294967295, .int .i64 281474976710655, .string (S T7)] 31)
  have HM3 := Lib.hid ((b10.block _ (Array.getElem?_eq_some_iff.1 HM2.out).1).trans HM2.out)
  have HM10 := Lib.hid m10
  have HY2 := Lib.hid (below_step b10 (below_step d2 HY1.out (Nat.le_refl _)) (Nat.le_refl _))
  clear d2 m10 b10 HM1 HM2 HY1 HDEC
  go_upto_region 16 with (fail)
  generalize y2.alloc (.cells #[.int .i64 4294967295, .int .i64 4294967295, .int .i64 4294967295, .int .i64 281474976710655, .string (S T7)] 31) = y3 at HM3 HM10 HY2 ⊢
  have k0 : y3.cell? ⟨x8.heap.size, 0, none⟩ = some (.int .i64 4294967295) := (cell_of HM3.out 0).trans rfl
  have k1 : y3.cell? ⟨x8.heap.size, 1, none⟩ = some (.int .i64 4294967295) := (cell_of HM3.out 1).trans rfl
  have k2 : y3.cell? ⟨x8.heap.size, 2, none⟩ = some (.int .i64 4294967295) := (cell_of HM3.out 2).trans rfl
  have k3 : y3.cell? ⟨x8.heap.size, 3, none⟩ = some (.int .i64 281474976710655) := (cell_of HM3.out 3).trans rfl
  have k4 : y3.cell? ⟨x8.heap.size, 4, none⟩ = some (.string (S T7)) := (cell_of HM3.out 4).trans rfl
  have j0 : y3.cell? ⟨y2.heap.size, 0, none⟩ = some (.int .i64 4294967295) := (cell_of HM10.out 0).trans rfl
  have j1 : y3.cell? ⟨y2.heap.size, 1, none⟩ = some (.int .i64 4294967295) := (cell_of HM10.out 1).trans rfl
  have j2 : y3.cell? ⟨y2.heap.size, 2, none⟩ = some (.int .i64 4294967295) := (cell_of HM10.out 2).trans rfl
  have j3 : y3.cell? ⟨y2.heap.size, 3, none⟩ = some (.int .i64 281474976710655) := (cell_of HM10.out 3).trans rfl
  have j4 : y3.cell? ⟨y2.heap.size, 4, none⟩ = some (.string (S T7)) := (cell_of HM10.out 4).trans rfl
  go_upto_region 18 with (fail)
  clear k0 k1 k2 k3 k4 j0 j1 j2 j3 j4 HM3 HM10
  have q11 := alloc_new y3 (.cells #[.int .i64 (-1), .int .i64 1, .int .i64 0, .int .i64 0, .string ⟨#[120]⟩, .int .i64 0, .int .i64 0, .int .i64 0, .int .i64 0, .string ⟨#[120]⟩, .int .i64 0, .int .i64 1, .int .i64 4294967296, .int .i64 0, .string ⟨#[120]⟩, .int .i64 0, .int .i64 1, .int .i64 0, .int .i64 281474976710656, .string ⟨#[120]⟩, .int .i64 0, .int .i64 1, .int .i64 0, .int .i64 (-1), .string ⟨#[120]⟩] 31)
  have b11 := alloc_below y3 (.cells #[.int .i64 (-1), .int .i64 1, .int .i64 0, .int .i64 0, .string ⟨#[120]⟩, .int .i64 0, .int .i64 0, .int .i64 0, .int .i64 0, .string ⟨#[120]⟩, .int .i64 0, .int .i64 1, .int .i64 4294967296, .int .i64 0, .string ⟨#[120]⟩, .int .i64 0, .int .i64 1, .int .i64 0, .int .i64 281474976710656, .string ⟨#[120]⟩, .int .i64 0, .int .i64 1, .int .i64 0, .int .i64 (-1), .string ⟨#[120]⟩] 31)
  have R5 : (y3.alloc (.cells #[.int .i64 (-1), .int .i64 1, .int .i64 0, .int .i64 0, .string ⟨#[120]⟩, .int .i64 0, .int .i64 0, .int .i64 0, .int .i64 0, .string ⟨#[120]⟩, .int .i64 0, .int .i64 1, .int .i64 4294967296, .int .i64 0, .string ⟨#[120]⟩, .int .i64 0, .int .i64 1, .int .i64 0, .int .i64 281474976710656, .string ⟨#[120]⟩, .int .i64 0, .int .i64 1, .int .i64 0, .int .i64 (-1), .string ⟨#[120]⟩] 31)).ownsRow 0 31 5 (.slice (some ⟨y3.heap.size, 0, none⟩) 5 5) 5 (icells bad5) := row_literal (L := bad5) 5 rfl (by omega) q11
  go_wp2_with (fail)
  generalize y3.alloc (.cells #[.int .i64 (-1), .int .i64 1, .int .i64 0, .int .i64 0, .string ⟨#[120]⟩, .int .i64 0, .int .i64 0, .int .i64 0, .int .i64 0, .string ⟨#[120]⟩, .int .i64 0, .int .i64 1, .int .i64 4294967296, .int .i64 0, .string ⟨#[120]⟩, .int .i64 0, .int .i64 1, .int .i64 0, .int .i64 281474976710656, .string ⟨#[120]⟩, .int .i64 0, .int .i64 1, .int .i64 0, .int .i64 (-1), .string ⟨#[120]⟩] 31) = y4 at R5 b11 ⊢
  have HR5 := Lib.hid R5
  have HY4 := Lib.hid (below_step b11 HY2.out (Nat.le_refl _))
  clear q11 b11 R5 HY2
  go_loopw [13, 14, 15] (fun v13 _ _ wr => ∃ i : Nat, i ≤ 5 ∧ v13 = .int .i64 i ∧ Hid (Below y4.heap.size y4 wr)) (fun v13 _ _ _ => 5 - (intOf v13).toNat)
  case atStart => exact ⟨0, Nat.zero_le _, rfl, .refl _ _⟩
  case round =>
    obtain ⟨i, hi, rfl, hB⟩ := hrel
    by_cases hlt : i < 5
    · have r1 := row_keeps (S := fun _ => False) HR5.out (.of_below hB.out) (fun _ _ => id)
      have hl5 : bad5.length = 5 := rfl
      obtain ⟨b, hb⟩ : ∃ b, bad5[i]? = some b := ⟨_, List.getElem?_eq_getElem (by omega)⟩
      have hx := bad5_err b (List.mem_of_getElem? hb)
      obtain ⟨g, q, hv, z0, z0', z1, z2, z3, z4⟩ := irow_at r1 hb
      obtain ⟨rfl, rfl⟩ : y3.heap.size = g ∧ 5 = q := by
        simp only [Value.slice.injEq, Option.some.injEq, Addr.mk.injEq] at hv
        exact ⟨hv.1.1, hv.2.2⟩
      have HX := Lib.hid hx
      clear r1 hl5 hb hv hx
      go_wp2_with (fail)
      refine (bEncode_any b.life b.boot b.n b.off b.d wr).mono ?_
      rw [HX.out]
      rintro e w3 ⟨rfl, b3⟩
      have HB3 := Lib.hid (below_step b3 hB.out (Nat.le_refl _))
      clear b3 hB z0 z0' z1 z2 z3 z4
      go_wp2_with (fail)
      go_roundw
      case rel => exact ⟨i + 1, by omega, by go_num, HB3⟩
      case measure => simp [intOf]; omega
    · obtain rfl : i = 5 := by omega
      have HBB := Lib.hid (below_step hB.out HY4.out (Nat.le_refl _))
      clear hB HY4 HR5
      have hs1 : (S MS).extract 0 79 ++ ⟨#[0]⟩ = S (MS.take 79 ++ [0]) := by
        rw [S_extract, List.drop_zero, show (⟨#[0]⟩ : ByteArray) = S [0] from rfl, S_append]
      have hs2 : S MS ++ ⟨#[0]⟩ = S (MS ++ [0]) := by
        rw [show (⟨#[0]⟩ : ByteArray) = S [0] from rfl, S_append]
      have HS1 := Lib.hid hs1
      have HS2 := Lib.hid hs2
      have HD81 : Hid (decVal (MS ++ [0]) = .tuple #[zblk, .int .i64 12]) := bad_dec (long_none (by rw [List.length_append, HLEN.out]; decide))
      have HD0 : Hid (decVal [] = .tuple #[zblk, .int .i64 12]) := bad_dec (long_none (by decide))
      clear hs1 hs2
      go_wp2_with (fail)
      rw [HS1.out]
      refine (bDecode_any (MS.take 79 ++ [0]) wr).mono ?_
      rw [HCUT.out]
      unfold zblk
      rintro e u1 ⟨rfl, d1⟩
      have HU1 := Lib.hid (below_step d1 HBB.out (Nat.le_refl _))
      clear d1 HBB
      go_wp2_with (fail)
      rw [HS2.out]
      refine (bDecode_any (MS ++ [0]) u1).mono ?_
      rw [HD81.out]
      unfold zblk
      rintro e u2 ⟨rfl, d2⟩
      have HU2 := Lib.hid (below_step d2 HU1.out (Nat.le_refl _))
      clear d2 HU1
      go_wp2_with (fail)
      refine (bDecode_any [] u2).mono ?_
      rw [HD0.out]
      unfold zblk
      rintro e u3 ⟨rfl, d3⟩
      have HU3 := Lib.hid (below_step d3 HU2.out (Nat.le_refl _))
      clear d3 HU2
      go_wp2_with (fail)
      go_ret
      exact ⟨rfl, HU3.out⟩
end Go.Proofs.Ytgnhpbolmfbngaa
