/- sacristanlaw05.FrameExamples returns true, in every world. -/
import Derived.Test.YtcdpgkefdnmkeaaFrameTorn
import Derived.Test.YtcdpgkefdnmkeaaAddr
namespace Go.Proofs.Ytcdpgkefdnmkeaa
open Go.RowKit

set_option maxHeartbeats 400000 in
theorem of_list (l : List UInt8) (w : World) (b : Nat) {fr : Nat × Nat} (hb : w.heap[b]? = some (.cells ((numsOf l).map (Value.int .u8)).toArray 5 fr)) (m : Nat) (hm : l.length = m) :
    Calls Try.prog 33 #[.slice (some ⟨b, 0, none⟩) m m] w fun e w' => e = .returned (.string (S l)) ∧ w' = w := by
  subst hm
  have hcv := run_convert_bytes_arg (P := Try.prog) w 36 5 Try.underlying36 Try.underlying5 b 0 l.length l.length (numsOf l) (numsOf_length l)
    (fun j hj => by rw [Nat.zero_add, cell_of hb, List.getElem?_toArray, List.getElem?_map]; simp [numsOf, hj, List.getD_eq_getElem?_getD]) 9 Try.underlying9
  rw [strOfNums_numsOf, S_mk] at hcv
  go_enter Try.func33, Try.ntmps33
  go_wp2
  go_ret
  exact ⟨rfl, rfl⟩
def HD : List UInt8 := [0, 0, 0, 1, 0, 0, 0, 0, 0, 2, 0, 1, 3, 2]
def fx : Frm := ⟨1, 2, 0, 1, 3, [97, 98]⟩
theorem fx_ok : fx.Ok := by unfold fx Frm.Ok; decide
theorem fx_head : fx.head = HD := by decide +kernel
theorem fx_sec : fx.sec = HD ++ (be 4 (crcSum (HD ++ [97, 98])) ++ ([97, 98] ++ (List.replicate 49 0 ++ HD.take 11))) := by
  unfold Frm.sec
  rw [fx_head]
  rfl
def most : Frm := ⟨4294967295, 281474976710655, 254, 255, 255, List.replicate 44 0⟩
theorem most_ok : most.Ok := by unfold most Frm.Ok; simp
set_option maxRecDepth 100000 in
set_option maxHeartbeats 8000000 in
theorem frameExamples_any (w : World) : Calls Try.prog 8 #[] w fun e w' => e = .returned (.bool true) ∧ Below w.heap.size w w' := by
  obtain ⟨n1, n2, n3, n4⟩ := two_new w (.cells #[.int .i64 1, .int .i64 2, .int .i64 0, .int .i64 1, .int .u8 3, .string ⟨#[97, 98]⟩] 40) (.cells #[.int .u8 0, .int .u8 0, .int .u8 0, .int .u8 1, .int .u8 0, .int .u8 0, .int .u8 0, .int .u8 0, .int .u8 0, .int .u8 2, .int .u8 0, .int .u8 1, .int .u8 3, .int .u8 2] 5)
  go_enter Try.func8, Try.ntmps8
  go_wp2_with (fail)
  generalize (w.alloc (.cells #[.int .i64 1, .int .i64 2, .int .i64 0, .int .i64 1, .int .u8 3, .string ⟨#[97, 98]⟩] 40)).alloc (.cells #[.int .u8 0, .int .u8 0, .int .u8 0, .int .u8 1, .int .u8 0, .int .u8 0, .int .u8 0, .int .u8 0, .int .u8 0, .int .u8 2, .int .u8 0, .int .u8 1, .int .u8 3, .int .u8 2] 5) = W at n1 n2 n3 n4 ⊢
  refine (of_list HD W (w.heap.size + 1) n2 14 rfl).mono ?_
  rintro e w' ⟨rfl, rfl⟩
  clear n2
  obtain ⟨M, hM⟩ : ∃ M, HD ++ [97, 98] = M := ⟨_, rfl⟩
  have e1 : S HD ++ ⟨#[97, 98]⟩ = S M := by rw [← hM]; rfl
  have hHl : HD.length = 14 := rfl
  have HM := Lib.hid hM
  have hMl : M.length = 16 := by rw [← hM]; rfl
  clear hM
  have HC := Lib.hid (show crcSum M < 4294967296 from crcMore_lt 0 M)
  have hcw : IntKind.u64.wrap ((crcSum M : Nat) : Int) = ((crcSum M : Nat) : Int) := by have := HC.out; simp [IntKind.wrap, IntKind.bits, IntKind.signed]; omega
  go_wp2_with (fail)
  refine (crcSum_any M _ (by omega)).mono ?_
  rintro e w1 ⟨rfl, b1⟩
  go_wp2_with (fail)
  refine (fixed_any (crcSum M) 4 _ (by have := HC.out; omega) (by omega) (by omega) HC.out).mono ?_
  rw [S_mk]
  rintro e w2 ⟨rfl, b2⟩
  obtain ⟨C, hC⟩ : ∃ C, be 4 (crcSum M) = C := ⟨_, rfl⟩
  have hCl : C.length = 4 := by rw [← hC]; simp
  rw [hC]
  have HCC := Lib.hid hC
  clear hC hcw e1 hMl
  obtain ⟨w3, b3, hmk, hcv⟩ := make_zeros' w2.drew 49 (by omega)
  replace hmk : (Instr.makeSlice 36 (.int .i64 49) (.int .i64 49)).run Try.prog w2.drew = .ok (.slice (some ⟨w2.heap.size, 0, none⟩) 49 49) w3 := hmk
  replace hcv : (convert 36 9 (.slice (some ⟨w2.heap.size, 0, none⟩) 49 49)).run Try.prog w3 = .ok (.string (S (List.replicate 49 0))) w3 := hcv
  obtain ⟨Z, hZ⟩ : ∃ Z, List.replicate 49 (0 : UInt8) = Z := ⟨_, rfl⟩
  have hZl : Z.length = 49 := by rw [← hZ]; simp
  rw [hZ] at hcv
  have HZ := Lib.hid hZ
  clear hZ
  have e2 : ∀ l, S l ++ ⟨#[97, 98]⟩ = S (l ++ [97, 98]) := fun l => S_append l [97, 98]
  have e3 : (S HD).extract 0 11 = S (HD.take 11) := by rw [S_extract, List.drop_zero]
  have hTl : (HD.take 11).length = 11 := rfl
  go_wp2_with (fail)
  go_region
  have hX : fx.sec = HD ++ (C ++ 97 :: 98 :: (Z ++ List.take 11 HD)) := by rw [fx_sec, HM.out, HCC.out, HZ.out]; rfl
  generalize HD ++ (C ++ 97 :: 98 :: (Z ++ List.take 11 HD)) = X at hX ⊢
  have HX := Lib.hid hX
  have hXl : X.length = 80 := by rw [← hX]; exact fx.sec_length (by decide)
  have HD1 := Lib.hid (show fdecodeOf X = some fx by rw [← hX]; exact fdecodeOf_sec fx_ok)
  have hlt : w.heap.size < w'.heap.size := by omega
  have q3 : w3.heap[w.heap.size]? = some (.cells #[.int .i64 1, .int .i64 2, .int .i64 0, .int .i64 1, .int .u8 3, .string ⟨#[97, 98]⟩] 40) := by
    have h1 := b1.size
    have h2 := b2.size
    rw [b3.block _ (by simp; omega)]
    show w2.heap[w.heap.size]? = _
    rw [b2.block _ (by omega), b1.block _ (by omega), n1]
  have HB3 := Lib.hid (below_step b3 (below_step b2 (below_step b1 n4 (Nat.le_refl _)) (Nat.le_refl _)).drew (Nat.le_refl _))
  clear hX hmk hcv b1 b2 b3 n1 n3 n4 e2 e3 hTl hHl hCl hZl hlt
  have k0 := (cell_of q3 0).trans rfl
  have k1 := (cell_of q3 1).trans rfl
  have k2 := (cell_of q3 2).trans rfl
  have k3 := (cell_of q3 3).trans rfl
  have k4 := (cell_of q3 4).trans rfl
  have k5 := (cell_of q3 5).trans rfl
  go_wp2_with (fail)
  refine (fEncode_ok fx w3 fx_ok).mono ?_
  rw [HX.out]
  rintro e w4 ⟨rfl, b4⟩
  replace k0 := below_cell b4 k0
  replace k1 := below_cell b4 k1
  replace k2 := below_cell b4 k2
  replace k3 := below_cell b4 k3
  replace k4 := below_cell b4 k4
  replace k5 := below_cell b4 k5
  have HB4 := Lib.hid (below_step b4 HB3.out (Nat.le_refl _))
  clear b4 q3
  go_wp2_with (fail)
  refine (fDecode_any X _).mono ?_
  rw [fdecVal_some HD1.out]
  unfold Frm.val fx
  dsimp only
  rintro e w5 ⟨rfl, b5⟩
  replace k0 := below_cell b5 k0
  replace k1 := below_cell b5 k1
  replace k2 := below_cell b5 k2
  replace k3 := below_cell b5 k3
  replace k4 := below_cell b5 k4
  replace k5 := below_cell b5 k5
  have HB5 := Lib.hid (below_step b5 HB4.out (Nat.le_refl _))
  have hlt := World.block_lt_of_cell? _ _ k0
  dsimp only at hlt
  clear b5
  go_wp2_with (fail)
  clear k0 k1 k2 k3 k4 k5 hlt
  have q6 := alloc_new w5 (.cells #[.int .i64 1, .int .i64 2, .int .i64 0, .int .i64 1, .int .u8 3, .string (S [97, 98])] 40)
  have HB6 := Lib.hid (below_step (alloc_below w5 (.cells #[.int .i64 1, .int .i64 2, .int .i64 0, .int .i64 1, .int .u8 3, .string (S [97, 98])] 40)) HB5.out (Nat.le_refl _))
  have hlt6 : w5.heap.size < (w5.alloc (.cells #[.int .i64 1, .int .i64 2, .int .i64 0, .int .i64 1, .int .u8 3, .string (S [97, 98])] 40)).heap.size := by rw [alloc_size]; omega
  generalize w5.alloc (.cells #[.int .i64 1, .int .i64 2, .int .i64 0, .int .i64 1, .int .u8 3, .string (S [97, 98])] 40) = w6 at q6 HB6 hlt6 ⊢
  obtain ⟨w7, b7, hmk, hcv⟩ := make_zeros' w6.drew 80 (by omega)
  replace hmk : (Instr.makeSlice 36 (.int .i64 80) (.int .i64 80)).run Try.prog w6.drew = .ok (.slice (some ⟨w6.heap.size, 0, none⟩) 80 80) w7 := hmk
  replace hcv : (convert 36 9 (.slice (some ⟨w6.heap.size, 0, none⟩) 80 80)).run Try.prog w7 = .ok (.string (S (List.replicate 80 0))) w7 := hcv
  have HL0 := Lib.hid fdecodeOf_zeros
  obtain ⟨Z8, hZ⟩ : ∃ Z, List.replicate 80 (0 : UInt8) = Z := ⟨_, rfl⟩
  rw [hZ] at hcv HL0
  clear hZ
  have e0 : ∀ l, S l ++ ⟨#[0]⟩ = S (l ++ [0]) := fun l => S_append l [0]
  have e1 : ∀ l, S l ++ ⟨#[1]⟩ = S (l ++ [1]) := fun l => S_append l [1]
  have e2 : ∀ l, S l ++ ⟨#[120]⟩ = S (l ++ [120]) := fun l => S_append l [120]
  have e3 : (S X).extract 0 79 = S (X.take 79) := by rw [S_extract, List.drop_zero]
  have e4 : (S X).extract 0 40 = S (X.take 40) := by rw [S_extract, List.drop_zero]
  have e5 : (S X).extract 41 80 = S (X.drop 41) := by rw [S_extract, List.take_of_length_le (by omega)]
  have l1 : (X.take 79).length = 79 := by rw [List.length_take]; omega
  have l2 : (X.take 40).length = 40 := by rw [List.length_take]; omega
  have l3 : (X.drop 41).length = 39 := by rw [List.length_drop]; omega
  go_region
  have n8 := alloc_new w7 (.cells #[.string (S Z8), .string (S (List.take 79 X)), .string (S (X ++ [0])), .string (S (List.take 79 X ++ [1])), .string ⟨#[]⟩, .string (S (List.take 40 X ++ 120 :: List.drop 41 X))] 9)
  have b8 := alloc_below w7 (.cells #[.string (S Z8), .string (S (List.take 79 X)), .string (S (X ++ [0])), .string (S (List.take 79 X ++ [1])), .string ⟨#[]⟩, .string (S (List.take 40 X ++ 120 :: List.drop 41 X))] 9)
  generalize w7.alloc (.cells #[.string (S Z8), .string (S (List.take 79 X)), .string (S (X ++ [0])), .string (S (List.take 79 X ++ [1])), .string ⟨#[]⟩, .string (S (List.take 40 X ++ 120 :: List.drop 41 X))] 9) = w8 at n8 b8 ⊢
  have hs7 : w6.heap.size ≤ w7.heap.size := b7.size
  have hlt7 : w7.heap.size < w8.heap.size := (Array.getElem?_eq_some_iff.1 n8).1
  have q8 : w8.heap[w5.heap.size]? = some (.cells #[.int .i64 1, .int .i64 2, .int .i64 0, .int .i64 1, .int .u8 3, .string (S [97, 98])] 40) := by
    rw [b8.block _ (by omega), b7.block _ hlt6]
    exact q6
  have HB8 := Lib.hid (below_step b8 (below_step b7 HB6.out.drew (Nat.le_refl _)) (Nat.le_refl _))
  have HL : Hid (∀ i, i < 6 → ∃ l, w8.cell? ⟨w7.heap.size, i, none⟩ = some (.string (S l)) ∧ fdecodeOf l = none) := by
    intro i hi
    rw [cell_of n8 i]
    match i, hi with
    | 0, _ => exact ⟨_, rfl, HL0.out⟩
    | 1, _ => exact ⟨_, rfl, fdecodeOf_bad (by omega)⟩
    | 2, _ => exact ⟨_, rfl, fdecodeOf_bad (by rw [List.length_append, List.length_singleton]; omega)⟩
    | 3, _ => exact ⟨_, rfl, by rw [← HX.out]; exact Option.isNone_iff_eq_none.1 (by kernel_rfl)⟩
    | 4, _ => exact ⟨[], rfl, fdecodeOf_bad (by simp)⟩
    | 5, _ => exact ⟨_, rfl, by rw [← HX.out]; exact Option.isNone_iff_eq_none.1 (by kernel_rfl)⟩
  clear n8 b8 b7 q6 HB6 HB4 HB3 hmk hcv hlt6 HL0 e0 e1 e2 e3 e4 e5 l1 l2 l3 hXl
  go_wp2_with (fail)
  go_loopw [92] (fun v92 wr => ∃ i : Nat, i ≤ 6 ∧ v92 = .int .i64 i ∧ Hid (Below w8.heap.size w8 wr)) (fun v92 _ => 6 - (intOf v92).toNat)
  case atStart => exact ⟨0, by omega, rfl, .refl _ _⟩
  case round =>
    obtain ⟨i, hi, rfl, hb⟩ := hrel
    by_cases hlt : i < 6
    · obtain ⟨l, hl, hd⟩ := HL.out i hlt
      have hc := below_cell hb.out hl
      have HN := Lib.hid hd
      clear hd hl
      go_wp2_with (fail)
      refine (fDecode_any l _).mono ?_
      rw [fdecVal_none HN.out]
      unfold zfrm
      rintro e wd ⟨rfl, bd⟩
      have HBD := Lib.hid (below_step (alloc_below wd (.cells #[.int .i64 0, .int .i64 0, .int .i64 0, .int .i64 0, .int .u8 0, .string ⟨#[]⟩] 40)) (below_step bd hb.out (Nat.le_refl _)) (Nat.le_refl _))
      clear bd hc
      go_wp2_with (fail)
      go_roundw
      case rel => exact ⟨i + 1, by omega, by go_num, HBD.out⟩
      case measure => simp [intOf]; omega
    · obtain rfl : i = 6 := by omega
      have q9 := (hb.out.block _ (Array.getElem?_eq_some_iff.1 q8).1).trans q8
      have HB9 := Lib.hid (below_step hb.out HB8.out (Nat.le_refl _))
      clear hb HL HB8
      go_wp2_with (fail)
      obtain ⟨wo, rfl⟩ : ∃ wo : World, wo = wr := ⟨_, rfl⟩
      have n10 := alloc_new wo (.cells #[.int .i64 0, .int .i64 1, .int .i64 0, .int .i64 1, .int .u8 0, .string ⟨#[]⟩, .int .i64 1, .int .i64 0, .int .i64 0, .int .i64 1, .int .u8 0, .string ⟨#[]⟩, .int .i64 1, .int .i64 1, .int .i64 0, .int .i64 0, .int .u8 0, .string ⟨#[]⟩, .int .i64 1, .int .i64 1, .int .i64 1, .int .i64 1, .int .u8 0, .string ⟨#[]⟩, .int .i64 1, .int .i64 1, .int .i64 (-1), .int .i64 1, .int .u8 0, .string ⟨#[]⟩, .int .i64 4294967296, .int .i64 1, .int .i64 0, .int .i64 1, .int .u8 0, .string ⟨#[]⟩, .int .i64 1, .int .i64 281474976710656, .int .i64 0, .int .i64 1, .int .u8 0, .string ⟨#[]⟩, .int .i64 1, .int .i64 1, .int .i64 0, .int .i64 256, .int .u8 0, .string ⟨#[]⟩] 40)
      have b10 := alloc_below wo (.cells #[.int .i64 0, .int .i64 1, .int .i64 0, .int .i64 1, .int .u8 0, .string ⟨#[]⟩, .int .i64 1, .int .i64 0, .int .i64 0, .int .i64 1, .int .u8 0, .string ⟨#[]⟩, .int .i64 1, .int .i64 1, .int .i64 0, .int .i64 0, .int .u8 0, .string ⟨#[]⟩, .int .i64 1, .int .i64 1, .int .i64 1, .int .i64 1, .int .u8 0, .string ⟨#[]⟩, .int .i64 1, .int .i64 1, .int .i64 (-1), .int .i64 1, .int .u8 0, .string ⟨#[]⟩, .int .i64 4294967296, .int .i64 1, .int .i64 0, .int .i64 1, .int .u8 0, .string ⟨#[]⟩, .int .i64 1, .int .i64 281474976710656, .int .i64 0, .int .i64 1, .int .u8 0, .string ⟨#[]⟩, .int .i64 1, .int .i64 1, .int .i64 0, .int .i64 256, .int .u8 0, .string ⟨#[]⟩] 40)
      generalize wo.alloc (.cells #[.int .i64 0, .int .i64 1, .int .i64 0, .int .i64 1, .int .u8 0, .string ⟨#[]⟩, .int .i64 1, .int .i64 0, .int .i64 0, .int .i64 1, .int .u8 0, .string ⟨#[]⟩, .int .i64 1, .int .i64 1, .int .i64 0, .int .i64 0, .int .u8 0, .string ⟨#[]⟩, .int .i64 1, .int .i64 1, .int .i64 1, .int .i64 1, .int .u8 0, .string ⟨#[]⟩, .int .i64 1, .int .i64 1, .int .i64 (-1), .int .i64 1, .int .u8 0, .string ⟨#[]⟩, .int .i64 4294967296, .int .i64 1, .int .i64 0, .int .i64 1, .int .u8 0, .string ⟨#[]⟩, .int .i64 1, .int .i64 281474976710656, .int .i64 0, .int .i64 1, .int .u8 0, .string ⟨#[]⟩, .int .i64 1, .int .i64 1, .int .i64 0, .int .i64 256, .int .u8 0, .string ⟨#[]⟩] 40) = w10 at n10 b10 ⊢
      have q10 := (b10.block _ (Array.getElem?_eq_some_iff.1 q9).1).trans q9
      have HB10 := Lib.hid (below_step b10 HB9.out (Nat.le_refl _))
      have HN := Lib.hid n10
      have HQ := Lib.hid q10
      have HL2 : Hid (∀ i, i < 8 → ∃ boot lsn part parts : Int, ¬ FOk boot lsn part parts ∧ w10.cell? ⟨wo.heap.size, i * 6, none⟩ = some (.int .i64 boot) ∧ w10.cell? ⟨wo.heap.size, i * 6 + 1, none⟩ = some (.int .i64 lsn) ∧ w10.cell? ⟨wo.heap.size, i * 6 + 2, none⟩ = some (.int .i64 part) ∧ w10.cell? ⟨wo.heap.size, i * 6 + 3, none⟩ = some (.int .i64 parts) ∧ w10.cell? ⟨wo.heap.size, i * 6 + 4, none⟩ = some (.int .u8 0) ∧ w10.cell? ⟨wo.heap.size, i * 6 + 5, none⟩ = some (.string ⟨#[]⟩)) := by
        intro i hi
        rw [cell_of n10, cell_of n10, cell_of n10, cell_of n10, cell_of n10, cell_of n10]
        match i, hi with
        | 0, _ => exact ⟨0, 1, 0, 1, by unfold FOk; omega, rfl, rfl, rfl, rfl, rfl, rfl⟩
        | 1, _ => exact ⟨1, 0, 0, 1, by unfold FOk; omega, rfl, rfl, rfl, rfl, rfl, rfl⟩
        | 2, _ => exact ⟨1, 1, 0, 0, by unfold FOk; omega, rfl, rfl, rfl, rfl, rfl, rfl⟩
        | 3, _ => exact ⟨1, 1, 1, 1, by unfold FOk; omega, rfl, rfl, rfl, rfl, rfl, rfl⟩
        | 4, _ => exact ⟨1, 1, (-1), 1, by unfold FOk; omega, rfl, rfl, rfl, rfl, rfl, rfl⟩
        | 5, _ => exact ⟨4294967296, 1, 0, 1, by unfold FOk; omega, rfl, rfl, rfl, rfl, rfl, rfl⟩
        | 6, _ => exact ⟨1, 281474976710656, 0, 1, by unfold FOk; omega, rfl, rfl, rfl, rfl, rfl, rfl⟩
        | 7, _ => exact ⟨1, 1, 0, 256, by unfold FOk; omega, rfl, rfl, rfl, rfl, rfl, rfl⟩
      clear n10 b10 q10 q9 q8 HB9 hs7 hlt7
      go_loopw [15] (fun v15 wx => ∃ i : Nat, i ≤ 8 ∧ v15 = .int .i64 i ∧ Hid (Below w10.heap.size w10 wx)) (fun v15 _ => 8 - (intOf v15).toNat)
      case atStart => exact ⟨0, by omega, rfl, .refl _ _⟩
      case round =>
        obtain ⟨i, hi, rfl, hb⟩ := hrel
        by_cases hlt : i < 8
        · obtain ⟨boot, lsn, part, parts, hf, c0, c1, c2, c3, c4, c5⟩ := HL2.out i hlt
          have HF := Lib.hid hf
          replace c0 := below_cell hb.out c0
          have c0' : wr.cell? (Addr.add ⟨wo.heap.size, 0, none⟩ (i * 6)) = some (.int .i64 boot) := by rw [add_eq, Nat.zero_add]; exact c0
          replace c1 := below_cell hb.out c1
          replace c2 := below_cell hb.out c2
          replace c3 := below_cell hb.out c3
          replace c4 := below_cell hb.out c4
          replace c5 := below_cell hb.out c5
          clear hf
          go_wp2_with (fail)
          refine (fEncode_arg boot lsn part parts 0 [] _ (by decide) HF.out).mono ?_
          rintro e wd ⟨rfl, bd⟩
          have HBD := Lib.hid (below_step bd hb.out (Nat.le_refl _))
          clear bd c0' c0 c1 c2 c3 c4 c5
          go_wp2_with (fail)
          go_roundw
          case rel => (repeat apply Exists.intro); exact ⟨⟨i + 1, by omega, rfl, HBD.out⟩, rfl⟩
          case measure => simp [intOf]; omega
        · obtain rfl : i = 8 := by omega
          have q11 := (hb.out.block _ (Array.getElem?_eq_some_iff.1 HQ.out).1).trans HQ.out
          have HB11 := Lib.hid (below_step hb.out HB10.out (Nat.le_refl _))
          clear hb HN HQ HB10
          obtain ⟨w12, b12, hmk, hcv⟩ := make_zeros' wr 45 (by omega)
          replace hmk : (Instr.makeSlice 36 (.int .i64 45) (.int .i64 45)).run Try.prog wr = .ok (.slice (some ⟨wr.heap.size, 0, none⟩) 45 45) w12 := hmk
          replace hcv : (convert 36 9 (.slice (some ⟨wr.heap.size, 0, none⟩) 45 45)).run Try.prog w12 = .ok (.string (S (List.replicate 45 0))) w12 := hcv
          go_wp2_with (fail)
          refine (fEncode_long 0 0 0 0 0 (List.replicate 45 0) _ (by rw [List.length_replicate]; omega)).mono ?_
          rintro e w13 ⟨rfl, b13⟩
          have q13 := (b13.block _ (Nat.lt_of_lt_of_le (Array.getElem?_eq_some_iff.1 q11).1 b12.size)).trans ((b12.block _ (Array.getElem?_eq_some_iff.1 q11).1).trans q11)
          have HB13 := Lib.hid (below_step b13 (below_step b12 HB11.out (Nat.le_refl _)) (Nat.le_refl _))
          clear hmk hcv b12 b13 q11 HB11
          obtain ⟨w14, b14, hmk, hcv⟩ := make_zeros' w13 44 (by omega)
          replace hmk : (Instr.makeSlice 36 (.int .i64 44) (.int .i64 44)).run Try.prog w13 = .ok (.slice (some ⟨w13.heap.size, 0, none⟩) 44 44) w14 := hmk
          replace hcv : (convert 36 9 (.slice (some ⟨w13.heap.size, 0, none⟩) 44 44)).run Try.prog w14 = .ok (.string (S (List.replicate 44 0))) w14 := hcv
          have HO := Lib.hid most_ok
          obtain ⟨Z44, hZ⟩ : ∃ Z, List.replicate 44 (0 : UInt8) = Z := ⟨_, rfl⟩
          unfold most at HO
          rw [hZ] at hcv HO
          clear hZ
          have n15 := alloc_new w14 (.cells #[.int .i64 4294967295, .int .i64 281474976710655, .int .i64 254, .int .i64 255, .int .u8 255, .string (S Z44)] 40)
          have b15 := alloc_below w14 (.cells #[.int .i64 4294967295, .int .i64 281474976710655, .int .i64 254, .int .i64 255, .int .u8 255, .string (S Z44)] 40)
          go_wp2_with (fail)
          have q15 := (b15.block _ (Nat.lt_of_lt_of_le (Array.getElem?_eq_some_iff.1 q13).1 b14.size)).trans ((b14.block _ (Array.getElem?_eq_some_iff.1 q13).1).trans q13)
          have HB15 := Lib.hid (below_step b15 (below_step b14 HB13.out (Nat.le_refl _)) (Nat.le_refl _))
          have hne : Hid (w5.heap.size ≠ w14.heap.size) := by have h1 := (Array.getElem?_eq_some_iff.1 q13).1; have h2 := b14.size; unfold Hid; omega
          have hgt : Hid (w.heap.size ≤ w5.heap.size) := HB5.out.size
          generalize w14.alloc (.cells #[.int .i64 4294967295, .int .i64 281474976710655, .int .i64 254, .int .i64 255, .int .u8 255, .string (S Z44)] 40) = w15 at n15 b15 q15 HB15 ⊢
          clear hmk hcv b14 b15 q13 HB13
          refine (fEncode_ok (⟨4294967295, 281474976710655, 254, 255, 255, Z44⟩ : Frm) w15 HO.out).mono ?_
          have HS := Lib.hid (fdecodeOf_sec HO.out)
          obtain ⟨Y, hY⟩ : ∃ Y, (⟨4294967295, 281474976710655, 254, 255, 255, Z44⟩ : Frm).sec = Y := ⟨_, rfl⟩
          rw [hY] at HS ⊢
          clear hY
          rintro e w16 ⟨rfl, b16⟩
          go_wp2_with (fail)
          refine (fDecode_any Y _).mono ?_
          rw [fdecVal_some HS.out]
          unfold Frm.val
          dsimp only
          rintro e w17 ⟨rfl, b17⟩
          have Q17 := Lib.hid ((b17.block _ (Nat.lt_of_lt_of_le (Array.getElem?_eq_some_iff.1 q15).1 b16.size)).trans ((b16.block _ (Array.getElem?_eq_some_iff.1 q15).1).trans q15))
          have N17 := Lib.hid ((b17.block _ (Nat.lt_of_lt_of_le (Array.getElem?_eq_some_iff.1 n15).1 b16.size)).trans ((b16.block _ (Array.getElem?_eq_some_iff.1 n15).1).trans n15))
          have HB17 := Lib.hid (below_step b17 (below_step b16 HB15.out (Nat.le_refl _)) (Nat.le_refl _))
          clear b16 b17 q15 n15 HB15
          go_upto_region 27 with (refine wpList_store_block rfl 40 _ _ rfl w5.heap.size #[.int .i64 4294967295, .int .i64 281474976710655, .int .i64 254, .int .i64 255, .int .u8 255, .string (S Z44)] rfl rfl 40 _ Q17.out (by kernel_rfl) rfl (by simp [Value.oneCell']) ?_)
          have s1 := setBlock_same (Array.getElem?_eq_some_iff.1 Q17.out).1 (.cells #[.int .i64 4294967295, .int .i64 281474976710655, .int .i64 254, .int .i64 255, .int .u8 255, .string (S Z44)] 40 (0, 0))
          have s2 := (setBlock_other w17 hne.out (.cells #[.int .i64 4294967295, .int .i64 281474976710655, .int .i64 254, .int .i64 255, .int .u8 255, .string (S Z44)] 40 (0, 0))).trans N17.out
          have s3 := Lib.hid ((Keeps.setBlock (S := fun x => x = w5.heap.size) (.refl _ w17) (fun _ => rfl) (.cells #[.int .i64 4294967295, .int .i64 281474976710655, .int .i64 254, .int .i64 255, .int .u8 255, .string (S Z44)] 40 (0, 0))).belowOf HB17.out HB17.out.size (fun x hx e => by have := hgt.out; omega))
          generalize ChangeMaps.setBlock w17 w5.heap.size (.cells #[.int .i64 4294967295, .int .i64 281474976710655, .int .i64 254, .int .i64 255, .int .u8 255, .string (S Z44)] 40 (0, 0)) = w18 at s1 s2 s3 ⊢
          have c0 := (cell_of s1 0).trans rfl
          have c1 := (cell_of s1 1).trans rfl
          have c2 := (cell_of s1 2).trans rfl
          have c3 := (cell_of s1 3).trans rfl
          have c4 := (cell_of s1 4).trans rfl
          have c5 := (cell_of s1 5).trans rfl
          have k0 := (cell_of s2 0).trans rfl
          have k1 := (cell_of s2 1).trans rfl
          have k2 := (cell_of s2 2).trans rfl
          have k3 := (cell_of s2 3).trans rfl
          have k4 := (cell_of s2 4).trans rfl
          have k5 := (cell_of s2 5).trans rfl
          clear s1 s2
          go_wp2
          go_ret
          exact ⟨rfl, s3.out⟩
end Go.Proofs.Ytcdpgkefdnmkeaa
