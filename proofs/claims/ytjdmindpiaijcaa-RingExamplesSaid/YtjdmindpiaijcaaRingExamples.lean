/- sacristanlaw25.RingExamples returns true, in every world. -/
import Derived.Test.YtjdmindpiaijcaaRingEx
namespace Go.Proofs.Ytjdmindpiaijcaa
open Go.RowKit Go.Proofs.YtjdmindpiaijcaaW.PrintWords Go.Proofs.YtjdmindpiaijcaaW.PrintLast Go.Proofs.YtjdmindpiaijcaaW.PrintMore

theorem sec237 (w : World) : Calls Try.prog 4 #[.int .i64 2, .int .i64 3, .int .i64 7] w fun e w' => e = .returned (.tuple #[.int .i64 1, .int .i64 0]) ∧ w' = w := rSector_any 2 3 7 w
theorem beg36 (w : World) : Calls Try.prog 5 #[.int .i64 3, .int .i64 6] w fun e w' => e = .returned (.tuple #[.bool true, .int .i64 0]) ∧ w' = w := rBegins_any 3 6 w
theorem beg37 (w : World) : Calls Try.prog 5 #[.int .i64 3, .int .i64 7] w fun e w' => e = .returned (.tuple #[.bool false, .int .i64 0]) ∧ w' = w := rBegins_any 3 7 w
theorem fst_of (n c : Int) (h : rFirst 2 3 n = c) (h0 : rcheck 2 3 n = 0) (w : World) : Calls Try.prog 6 #[.int .i64 2, .int .i64 3, .int .i64 n] w fun e w' => e = .returned (.tuple #[.int .i64 c, .int .i64 0]) ∧ w' = w := by
  have := rFirst_any 2 3 n w
  rw [h, h0] at this
  exact this
theorem sec130 (w : World) : Calls Try.prog 4 #[.int .i64 1, .int .i64 3, .int .i64 0] w fun e w' => e = .returned (.tuple #[.int .i64 0, .int .i64 2]) ∧ w' = w := rSector_any 1 3 0 w
theorem fst265 (w : World) : Calls Try.prog 6 #[.int .i64 2, .int .i64 65, .int .i64 (-1)] w fun e w' => e = .returned (.tuple #[.int .i64 0, .int .i64 2]) ∧ w' = w := rFirst_any 2 65 (-1) w
theorem beg00 (w : World) : Calls Try.prog 5 #[.int .i64 0, .int .i64 0] w fun e w' => e = .returned (.tuple #[.bool false, .int .i64 2]) ∧ w' = w := rBegins_any 0 0 w
theorem sec23m (w : World) : Calls Try.prog 4 #[.int .i64 2, .int .i64 3, .int .i64 4294967296] w fun e w' => e = .returned (.tuple #[.int .i64 0, .int .i64 3]) ∧ w' = w := rSector_any 2 3 4294967296 w
theorem beg3m (w : World) : Calls Try.prog 5 #[.int .i64 3, .int .i64 (-1)] w fun e w' => e = .returned (.tuple #[.bool false, .int .i64 3]) ∧ w' = w := rBegins_any 3 (-1) w

theorem exf1 : PF.sacristanlaw25_found.f 20 [0, 1, 1, 1, 2, 1, 3, 1] = some (rowOf [0, 1, 1, 1, 2, 1, 3, 1]) := by kernel_rfl
theorem exf2 : PF.sacristanlaw25_found.f 20 [3, 1, 4, 1, 5, 1, 6, 1, 8, 1, 1, 1] = some (rowOf [3, 1, 4, 1, 5, 1, 6, 1, 8, 1, 1, 1]) := by kernel_rfl
theorem exf3 : PF.sacristanlaw25_found.f 20 [3, 1, 4, 1, 5, 1, 6, 2, 7, 1] = some (rowOf [3, 1, 4, 1, 5, 1, 6, 2, 7, 1]) := by kernel_rfl
theorem exf4 : PF.sacristanlaw25_found.f 20 [1, 1, 2, 1, 3, 1, 4, 1, 5, 1] = some (rowOf [1, 1, 2, 1, 3, 1, 4, 1, 5, 1]) := by kernel_rfl
theorem exf5 : PF.sacristanlaw25_found.f 20 [3, 1, 4, 1, 5, 1, 7, 1] = some (rowOf [3, 1, 4, 1, 5, 1, 7, 1]) := by kernel_rfl
theorem exf7 : PF.sacristanlaw25_found.f 20 [7, 1] = some (rowOf [7, 1]) := by kernel_rfl
theorem exf8 : PF.sacristanlaw25_found.f 20 [0, 1] = some (rowOf [0, 1]) := by kernel_rfl
theorem exf9 : PF.sacristanlaw25_found.f 20 [0, 1, 0, 1] = some (rowOf [0, 1, 0, 1]) := by kernel_rfl
theorem ex1 (A : Option Addr) (c : Nat) (w : World) (hr : Kd.C PF.k35 w A (rowOf [0, 1, 1, 1, 2, 1, 3, 1]).length (rowOf [0, 1, 1, 1, 2, 1, 3, 1])) : Calls Try.prog 8 #[.int .i64 2, .int .i64 3, .int .i64 1, .slice A (rowOf [0, 1, 1, 1, 2, 1, 3, 1]).length c] w fun e w' => e = .returned (.tuple #[.agg #[.int .i64 0, .int .i64 4, .int .i64 0, .int .i64 40], .int .i64 0]) ∧ Below w.heap.size w w' :=
  recover_F _ ⟨0, 4, 0, 40⟩ (by kernel_rfl) (of_decide_eq_true (by kernel_rfl)) (fun x hx => of_decide_eq_true (List.all_eq_true.1 (show (rowOf [0, 1, 1, 1, 2, 1, 3, 1]).all (fun x => decide (x.f4.size ≤ 100)) = true by kernel_rfl) x hx)) A c w hr
theorem ex2 (A : Option Addr) (c : Nat) (w : World) (hr : Kd.C PF.k35 w A (rowOf [3, 1, 4, 1, 5, 1, 6, 1, 8, 1, 1, 1]).length (rowOf [3, 1, 4, 1, 5, 1, 6, 1, 8, 1, 1, 1])) : Calls Try.prog 8 #[.int .i64 2, .int .i64 3, .int .i64 1, .slice A (rowOf [3, 1, 4, 1, 5, 1, 6, 1, 8, 1, 1, 1]).length c] w fun e w' => e = .returned (.tuple #[.agg #[.int .i64 3, .int .i64 7, .int .i64 30, .int .i64 40], .int .i64 0]) ∧ Below w.heap.size w w' :=
  recover_F _ ⟨3, 7, 30, 40⟩ (by kernel_rfl) (of_decide_eq_true (by kernel_rfl)) (fun x hx => of_decide_eq_true (List.all_eq_true.1 (show (rowOf [3, 1, 4, 1, 5, 1, 6, 1, 8, 1, 1, 1]).all (fun x => decide (x.f4.size ≤ 100)) = true by kernel_rfl) x hx)) A c w hr
theorem ex3 (A : Option Addr) (c : Nat) (w : World) (hr : Kd.C PF.k35 w A (rowOf [3, 1, 4, 1, 5, 1, 6, 2, 7, 1]).length (rowOf [3, 1, 4, 1, 5, 1, 6, 2, 7, 1])) : Calls Try.prog 8 #[.int .i64 2, .int .i64 3, .int .i64 1, .slice A (rowOf [3, 1, 4, 1, 5, 1, 6, 2, 7, 1]).length c] w fun e w' => e = .returned (.tuple #[.agg #[.int .i64 3, .int .i64 7, .int .i64 30, .int .i64 40], .int .i64 0]) ∧ Below w.heap.size w w' :=
  recover_F _ ⟨3, 7, 30, 40⟩ (by kernel_rfl) (of_decide_eq_true (by kernel_rfl)) (fun x hx => of_decide_eq_true (List.all_eq_true.1 (show (rowOf [3, 1, 4, 1, 5, 1, 6, 2, 7, 1]).all (fun x => decide (x.f4.size ≤ 100)) = true by kernel_rfl) x hx)) A c w hr
theorem ex4 (A : Option Addr) (c : Nat) (w : World) (hr : Kd.C PF.k35 w A (rowOf [1, 1, 2, 1, 3, 1, 4, 1, 5, 1]).length (rowOf [1, 1, 2, 1, 3, 1, 4, 1, 5, 1])) : Calls Try.prog 8 #[.int .i64 2, .int .i64 3, .int .i64 1, .slice A (rowOf [1, 1, 2, 1, 3, 1, 4, 1, 5, 1]).length c] w fun e w' => e = .returned (.tuple #[.agg #[.int .i64 1, .int .i64 6, .int .i64 10, .int .i64 50], .int .i64 0]) ∧ Below w.heap.size w w' :=
  recover_F _ ⟨1, 6, 10, 50⟩ (by kernel_rfl) (of_decide_eq_true (by kernel_rfl)) (fun x hx => of_decide_eq_true (List.all_eq_true.1 (show (rowOf [1, 1, 2, 1, 3, 1, 4, 1, 5, 1]).all (fun x => decide (x.f4.size ≤ 100)) = true by kernel_rfl) x hx)) A c w hr
theorem ex5 (A : Option Addr) (c : Nat) (w : World) (hr : Kd.C PF.k35 w A (rowOf [3, 1, 4, 1, 5, 1, 7, 1]).length (rowOf [3, 1, 4, 1, 5, 1, 7, 1])) : Calls Try.prog 8 #[.int .i64 2, .int .i64 3, .int .i64 1, .slice A (rowOf [3, 1, 4, 1, 5, 1, 7, 1]).length c] w fun e w' => e = .returned (.tuple #[.agg #[.int .i64 3, .int .i64 6, .int .i64 30, .int .i64 30], .int .i64 0]) ∧ Below w.heap.size w w' :=
  recover_F _ ⟨3, 6, 30, 30⟩ (by kernel_rfl) (of_decide_eq_true (by kernel_rfl)) (fun x hx => of_decide_eq_true (List.all_eq_true.1 (show (rowOf [3, 1, 4, 1, 5, 1, 7, 1]).all (fun x => decide (x.f4.size ≤ 100)) = true by kernel_rfl) x hx)) A c w hr
theorem ex7 (A : Option Addr) (c : Nat) (w : World) (hr : Kd.C PF.k35 w A (rowOf [7, 1]).length (rowOf [7, 1])) : Calls Try.prog 8 #[.int .i64 2, .int .i64 3, .int .i64 1, .slice A (rowOf [7, 1]).length c] w fun e w' => e = .returned (.tuple #[.agg #[.int .i64 6, .int .i64 6, .int .i64 0, .int .i64 0], .int .i64 0]) ∧ Below w.heap.size w w' :=
  recover_F _ ⟨6, 6, 0, 0⟩ (by kernel_rfl) (of_decide_eq_true (by kernel_rfl)) (fun x hx => of_decide_eq_true (List.all_eq_true.1 (show (rowOf [7, 1]).all (fun x => decide (x.f4.size ≤ 100)) = true by kernel_rfl) x hx)) A c w hr
theorem ex8 (A : Option Addr) (c : Nat) (w : World) (hr : Kd.C PF.k35 w A (rowOf [0, 1] ++ three8).length (rowOf [0, 1] ++ three8)) : Calls Try.prog 8 #[.int .i64 2, .int .i64 3, .int .i64 1, .slice A (rowOf [0, 1] ++ three8).length c] w fun e w' => e = .returned (.tuple #[.agg #[.int .i64 0, .int .i64 1, .int .i64 0, .int .i64 10], .int .i64 0]) ∧ Below w.heap.size w w' :=
  recover_F _ ⟨0, 1, 0, 10⟩ (by kernel_rfl) (of_decide_eq_true (by kernel_rfl)) (fun x hx => of_decide_eq_true (List.all_eq_true.1 (show (rowOf [0, 1] ++ three8).all (fun x => decide (x.f4.size ≤ 100)) = true by kernel_rfl) x hx)) A c w hr
theorem ex9 (A : Option Addr) (c : Nat) (w : World) (hr : Kd.C PF.k35 w A (rowOf [0, 1, 0, 1] ++ ([⟨1, 1, 0, 5, x1⟩] : List PF.S35)).length (rowOf [0, 1, 0, 1] ++ ([⟨1, 1, 0, 5, x1⟩] : List PF.S35))) : Calls Try.prog 8 #[.int .i64 2, .int .i64 3, .int .i64 1, .slice A (rowOf [0, 1, 0, 1] ++ ([⟨1, 1, 0, 5, x1⟩] : List PF.S35)).length c] w fun e w' => e = .returned (.tuple #[.agg #[.int .i64 0, .int .i64 1, .int .i64 5, .int .i64 1], .int .i64 0]) ∧ Below w.heap.size w w' :=
  recover_F _ ⟨0, 1, 5, 1⟩ (by kernel_rfl) (of_decide_eq_true (by kernel_rfl)) (fun x hx => of_decide_eq_true (List.all_eq_true.1 (show (rowOf [0, 1, 0, 1] ++ ([⟨1, 1, 0, 5, x1⟩] : List PF.S35)).all (fun x => decide (x.f4.size ≤ 100)) = true by kernel_rfl) x hx)) A c w hr
theorem ex6 (w : World) : Calls Try.prog 8 #[.int .i64 2, .int .i64 3, .int .i64 1, .slice none 0 0] w fun e w' => e = .returned (.tuple #[.agg #[.int .i64 0, .int .i64 0, .int .i64 0, .int .i64 0], .int .i64 0]) ∧ Below w.heap.size w w' :=
  recover_ok 2 3 1 [] none 0 w (fun i hi => absurd hi (by simp)) (by decide) (fun b hb => by cases hb) (by decide) (by decide) (by decide) (by decide) (by decide) (by decide)
set_option maxRecDepth 100000 in
set_option maxHeartbeats 1000000 in
theorem rec_bad (files blocks life x : Int) (he : rcheck files blocks life = x) (hne : (x != 0) = true) (w : World) : Calls Try.prog 8 #[.int .i64 files, .int .i64 blocks, .int .i64 life, .slice none 0 0] w fun e w' => e = .returned (.tuple #[.agg #[.int .i64 0, .int .i64 0, .int .i64 0, .int .i64 0], .int .i64 x]) ∧ Below w.heap.size w w' := by
  have HE := Lib.hid he
  clear he
  go_enter Try.func8, Try.ntmps8
  go_wp2_with (go_at_call 9; refine (rcheck_any _ _ _ _).mono ?_; rw [HE.out]; rintro e w' ⟨rfl, rfl⟩)
  obtain ⟨n1, n2, n3, n4⟩ := two_new w (.cells #[.int .i64 blocks] 3) (.cells #[.int .i64 0, .int .i64 0, .int .i64 0, .int .i64 0] 32)
  exact bodyPost_ret (results_cell2 rfl _ _ (w.heap.size + 1) _ 32 (0, 0) rfl n2 _ Try.underlying32 rfl (by kernel_rfl)) rfl ⟨rfl, n4⟩
set_option maxRecDepth 100000 in
set_option maxHeartbeats 20000000 in
theorem ringExamples_any (w : World) : Calls Try.prog 3 #[] w fun e w' => e = .returned (.bool true) ∧ Below w.heap.size w w' := by
  go_enter Try.func3, Try.ntmps3
  go_wp2_with (first | (go_at_call 4; refine (sec237 _).mono ?_; rintro e w' ⟨rfl, rfl⟩) | (go_at_call 5; (with_reducible refine (beg36 _).mono ?_); rintro e w' ⟨rfl, rfl⟩) | (go_at_call 5; (with_reducible refine (beg37 _).mono ?_); rintro e w' ⟨rfl, rfl⟩))
  obtain ⟨w0, rfl⟩ : ∃ w0 : World, w0 = w' := ⟨_, rfl⟩
  have B0 := Lib.hid (alloc_below w0 (.cells #[.int .i64 0, .int .i64 0, .int .i64 1, .int .i64 0, .int .i64 6, .int .i64 0, .int .i64 7, .int .i64 3, .int .i64 9, .int .i64 3, .int .i64 10, .int .i64 6] 27))
  go_loopw [8] (fun v8 wr => ∃ k : Nat, k ≤ 6 ∧ v8 = .int .i64 k ∧ wr = w0.alloc (.cells #[.int .i64 0, .int .i64 0, .int .i64 1, .int .i64 0, .int .i64 6, .int .i64 0, .int .i64 7, .int .i64 3, .int .i64 9, .int .i64 3, .int .i64 10, .int .i64 6] 27)) (fun v8 _ => 6 - (intOf v8).toNat)
  case atStart => exact ⟨0, by omega, rfl, rfl⟩
  case round =>
    obtain ⟨k, hk, rfl, rfl⟩ := hrel
    have hk7 : k = 0 ∨ k = 1 ∨ k = 2 ∨ k = 3 ∨ k = 4 ∨ k = 5 ∨ k = 6 := by omega
    clear hk
    rcases hk7 with rfl | rfl | rfl | rfl | rfl | rfl | rfl
    case' inr.inr.inr.inr.inr.inr =>
      go_wp2_with (fail)
      have z0 := alloc_size w0 (.cells #[.int .i64 0, .int .i64 0, .int .i64 1, .int .i64 0, .int .i64 6, .int .i64 0, .int .i64 7, .int .i64 3, .int .i64 9, .int .i64 3, .int .i64 10, .int .i64 6] 27)
      have HB := B0
      clear B0
      generalize w0.alloc (.cells #[.int .i64 0, .int .i64 0, .int .i64 1, .int .i64 0, .int .i64 6, .int .i64 0, .int .i64 7, .int .i64 3, .int .i64 9, .int .i64 3, .int .i64 10, .int .i64 6] 27) = X0 at z0 HB ⊢
      refine (found_at 20 [0, 1, 1, 1, 2, 1, 3, 1] _ (by decide) exf1 (w0.heap.size + 1) 8 X0 z0 rfl).mono ?_
      rintro e X1 ⟨A1, c1, rfl, R1, b1, d1⟩
      have HB := Lib.hid (below_step b1 HB.out (by omega))
      have R1 := Lib.hid R1
      clear b1 d1
      go_wp2_with (fail)
      refine (found_at 20 [3, 1, 4, 1, 5, 1, 6, 1, 8, 1, 1, 1] _ (by decide) exf2 _ 12 X1 rfl rfl).mono ?_
      rintro e X2 ⟨A2, c2, rfl, R2, b2, d2⟩
      have R1 := Lib.hid (Kd.R_below R1.out b2)
      have HB := Lib.hid (below_step b2 HB.out (Nat.le_refl _))
      have R2 := Lib.hid R2
      clear b2 d2
      go_wp2_with (fail)
      refine (found_at 20 [3, 1, 4, 1, 5, 1, 6, 2, 7, 1] _ (by decide) exf3 _ 10 X2 rfl rfl).mono ?_
      rintro e X3 ⟨A3, c3, rfl, R3, b3, d3⟩
      have R1 := Lib.hid (Kd.R_below R1.out b3)
      have R2 := Lib.hid (Kd.R_below R2.out b3)
      have HB := Lib.hid (below_step b3 HB.out (Nat.le_refl _))
      have R3 := Lib.hid R3
      clear b3 d3
      go_wp2_with (fail)
      refine (found_at 20 [1, 1, 2, 1, 3, 1, 4, 1, 5, 1] _ (by decide) exf4 _ 10 X3 rfl rfl).mono ?_
      rintro e X4 ⟨A4, c4, rfl, R4, b4, d4⟩
      have R1 := Lib.hid (Kd.R_below R1.out b4)
      have R2 := Lib.hid (Kd.R_below R2.out b4)
      have R3 := Lib.hid (Kd.R_below R3.out b4)
      have HB := Lib.hid (below_step b4 HB.out (Nat.le_refl _))
      have R4 := Lib.hid R4
      clear b4 d4
      go_wp2_with (fail)
      refine (found_at 20 [3, 1, 4, 1, 5, 1, 7, 1] _ (by decide) exf5 _ 8 X4 rfl rfl).mono ?_
      rintro e X5 ⟨A5, c5, rfl, R5, b5, d5⟩
      have R1 := Lib.hid (Kd.R_below R1.out b5)
      have R2 := Lib.hid (Kd.R_below R2.out b5)
      have R3 := Lib.hid (Kd.R_below R3.out b5)
      have R4 := Lib.hid (Kd.R_below R4.out b5)
      have HB := Lib.hid (below_step b5 HB.out (Nat.le_refl _))
      have R5 := Lib.hid R5
      clear b5 d5
      go_wp2_with (fail)
      refine (found_at 20 [7, 1] _ (by decide) exf7 _ 2 X5 rfl rfl).mono ?_
      rintro e X6 ⟨A7, c7, rfl, R7, b7, d7⟩
      have R1 := Lib.hid (Kd.R_below R1.out b7)
      have R2 := Lib.hid (Kd.R_below R2.out b7)
      have R3 := Lib.hid (Kd.R_below R3.out b7)
      have R4 := Lib.hid (Kd.R_below R4.out b7)
      have R5 := Lib.hid (Kd.R_below R5.out b7)
      have HB := Lib.hid (below_step b7 HB.out (Nat.le_refl _))
      have R7 := Lib.hid R7
      clear b7 d7
      go_wp2_with (fail)
      have HB6 := HB
      refine (found_at 20 [0, 1] _ (by decide) exf8 _ 2 X6 rfl rfl).mono ?_
      rintro e X7 ⟨A8, c8, rfl, R8, b8, d8⟩
      have HB := Lib.hid (below_step b8 HB.out (Nat.le_refl _))
      have R8 := Lib.hid R8
      have R1 := Lib.hid (Kd.R_below R1.out (alloc_below X6 (.cells (([0, 1] : List Int).map (Value.int .i64)).toArray 3)))
      have R2 := Lib.hid (Kd.R_below R2.out (alloc_below X6 (.cells (([0, 1] : List Int).map (Value.int .i64)).toArray 3)))
      have R3 := Lib.hid (Kd.R_below R3.out (alloc_below X6 (.cells (([0, 1] : List Int).map (Value.int .i64)).toArray 3)))
      have R4 := Lib.hid (Kd.R_below R4.out (alloc_below X6 (.cells (([0, 1] : List Int).map (Value.int .i64)).toArray 3)))
      have R5 := Lib.hid (Kd.R_below R5.out (alloc_below X6 (.cells (([0, 1] : List Int).map (Value.int .i64)).toArray 3)))
      have R7 := Lib.hid (Kd.R_below R7.out (alloc_below X6 (.cells (([0, 1] : List Int).map (Value.int .i64)).toArray 3)))
      have HB6 := Lib.hid (below_step (alloc_below X6 (.cells (([0, 1] : List Int).map (Value.int .i64)).toArray 3)) HB6.out (Nat.le_refl _))
      have hz6 := alloc_size X6 (.cells (([0, 1] : List Int).map (Value.int .i64)).toArray 3)
      have D8 := Lib.hid d8
      have R8 := Lib.hid R8.out
      clear d8 b8 HB
      generalize hY6 : X6.alloc (.cells (([0, 1] : List Int).map (Value.int .i64)).toArray 3) = Y6 at *
      have L8 := Lib.hid (show ((rowOf [0, 1]).length + 3) * 48 ≤ 140737488355328 from of_decide_eq_true (by kernel_rfl))
      have hz7 : X6.heap.size + 1 ≤ X7.heap.size := by have := D8.out.size; omega
      go_wp2_with ((with_reducible refine gate_builtin (b := .append) (xs := #[.tmp 116, .tmp 120]) rfl ?_); at_builtin; refine Kd.R_append_rows PF.k35 (w0 := Y6) (X6.heap.size + 1) rfl (.tmp 116) (.tmp 120) 29 35 (.agg #[(.int .i64 0), (.int .i64 0), (.int .i64 0), (.int .i64 0), (.string ⟨#[]⟩)]) 48 rfl Try.underlying29 PF.info35 rfl (by decide) (by omega) (.slice A8 (rowOf [0, 1]).length c8) (rowOf [0, 1]) three8 (some ⟨X7.heap.size, 0, none⟩) 3 3 (fun _ => True) (fun _ => False) rfl rfl ?aO ?aR (fun _ _ h => h) (fun _ h => h.elim) ?aF ?aB ?aS ?aL ?_; (case aO => exact Kd.R_below R8.out (alloc_below _ _)); (case aR => exact three_row X7); (case aF => exact fun _ _ => trivial); (case aB => exact D8.out.alloc hz7 _); (case aS => exact Nat.le_trans hz7 (alloc_below _ _).size); (case aL => exact L8.out); intro v9 x9 hR9 hB9 _ _; obtain ⟨A8b, c8b, rfl⟩ := Kd.R_slice hR9; obtain ⟨m8, hm8⟩ : ∃ m, m = (rowOf [0, 1] ++ three8).length := ⟨_, rfl⟩; rw [← hm8]; have HM8 := Lib.hid hm8; clear hm8; have HR9 := Lib.hid hR9; have HB9 := Lib.hid hB9; clear hR9 hB9)
      have b9 : Below Y6.heap.size Y6 x9 := by rw [hz6]; exact HB9.out
      have R1 := Lib.hid (Kd.R_below (Kd.R_below R1.out b9) (alloc_below x9 (.cells (([0, 1, 0, 1] : List Int).map (Value.int .i64)).toArray 3)))
      have R2 := Lib.hid (Kd.R_below (Kd.R_below R2.out b9) (alloc_below x9 (.cells (([0, 1, 0, 1] : List Int).map (Value.int .i64)).toArray 3)))
      have R3 := Lib.hid (Kd.R_below (Kd.R_below R3.out b9) (alloc_below x9 (.cells (([0, 1, 0, 1] : List Int).map (Value.int .i64)).toArray 3)))
      have R4 := Lib.hid (Kd.R_below (Kd.R_below R4.out b9) (alloc_below x9 (.cells (([0, 1, 0, 1] : List Int).map (Value.int .i64)).toArray 3)))
      have R5 := Lib.hid (Kd.R_below (Kd.R_below R5.out b9) (alloc_below x9 (.cells (([0, 1, 0, 1] : List Int).map (Value.int .i64)).toArray 3)))
      have R7 := Lib.hid (Kd.R_below (Kd.R_below R7.out b9) (alloc_below x9 (.cells (([0, 1, 0, 1] : List Int).map (Value.int .i64)).toArray 3)))
      have R8b := Lib.hid (Kd.R_below HR9.out (alloc_below x9 (.cells (([0, 1, 0, 1] : List Int).map (Value.int .i64)).toArray 3)))
      have HBa := Lib.hid (below_step (alloc_below x9 (.cells (([0, 1, 0, 1] : List Int).map (Value.int .i64)).toArray 3)) (below_step b9 HB6.out (Nat.le_refl _)) (Nat.le_refl _))
      have hz9 := alloc_size x9 (.cells (([0, 1, 0, 1] : List Int).map (Value.int .i64)).toArray 3)
      clear b9 HR9 HB9 HB6 R8 D8 hz7 hz6
      refine (found_at 20 [0, 1, 0, 1] _ (by decide) exf9 _ 4 x9 rfl rfl).mono ?_
      rintro e x10 ⟨A9, c9, rfl, R9, b10, d10⟩
      generalize hY9 : x9.alloc (.cells (([0, 1, 0, 1] : List Int).map (Value.int .i64)).toArray 3) = Y9 at *
      have hz10 : x9.heap.size + 1 ≤ x10.heap.size := by have := d10.size; omega
      have R9 := Lib.hid R9
      have D10 := Lib.hid d10
      have L9 := Lib.hid (show ((rowOf [0, 1, 0, 1]).length + 1) * 48 ≤ 140737488355328 from of_decide_eq_true (by kernel_rfl))
      clear b10 d10
      obtain ⟨M1, hM1⟩ : ∃ M, rowOf [0, 1, 1, 1, 2, 1, 3, 1] = M := ⟨_, rfl⟩
      rw [hM1] at R1 ⊢
      have HW1 := Lib.hid hM1
      clear hM1
      obtain ⟨M2, hM2⟩ : ∃ M, rowOf [3, 1, 4, 1, 5, 1, 6, 1, 8, 1, 1, 1] = M := ⟨_, rfl⟩
      rw [hM2] at R2 ⊢
      have HW2 := Lib.hid hM2
      clear hM2
      obtain ⟨M3, hM3⟩ : ∃ M, rowOf [3, 1, 4, 1, 5, 1, 6, 2, 7, 1] = M := ⟨_, rfl⟩
      rw [hM3] at R3 ⊢
      have HW3 := Lib.hid hM3
      clear hM3
      obtain ⟨M4, hM4⟩ : ∃ M, rowOf [1, 1, 2, 1, 3, 1, 4, 1, 5, 1] = M := ⟨_, rfl⟩
      rw [hM4] at R4 ⊢
      have HW4 := Lib.hid hM4
      clear hM4
      obtain ⟨M5, hM5⟩ : ∃ M, rowOf [3, 1, 4, 1, 5, 1, 7, 1] = M := ⟨_, rfl⟩
      rw [hM5] at R5 ⊢
      have HW5 := Lib.hid hM5
      clear hM5
      obtain ⟨M7, hM7⟩ : ∃ M, rowOf [7, 1] = M := ⟨_, rfl⟩
      rw [hM7] at R7 ⊢
      have HW7 := Lib.hid hM7
      clear hM7
      obtain ⟨M9, hM9⟩ : ∃ M, rowOf [0, 1, 0, 1] = M := ⟨_, rfl⟩
      rw [hM9] at R9 L9 ⊢
      have HW9 := Lib.hid hM9
      clear hM9
      go_wp2_with ((with_reducible refine gate_builtin (b := .append) (xs := #[.tmp 125, .tmp 127]) rfl ?_); at_builtin; refine Kd.R_append PF.k35 (w0 := Y9) (x9.heap.size + 1) rfl (.tmp 125) (.tmp 127) 29 35 (.agg #[(.int .i64 0), (.int .i64 0), (.int .i64 0), (.int .i64 0), (.string ⟨#[]⟩)]) 48 rfl Try.underlying29 PF.info35 rfl (by decide) (by omega) (.slice A9 M9.length c9) (M9) (⟨1, 1, 0, 5, x1⟩ : PF.S35) [.int .i64 1, .int .i64 1, .int .i64 0, .int .i64 5, .string ⟨#[120]⟩] (fun _ => True) (fun _ => False) rfl (by first | (go_simp; done) | (go_simp; rfl)) ?aP (fun _ hk => hk.elim) ?aF ?aO ?aB ?aS ?aL ?_; (case aP => exact PF.k35_mkM _ _ _ (⟨1, 1, 0, 5, x1⟩ : PF.S35)); (case aF => exact fun _ _ => trivial); (case aO => exact R9.out); (case aB => exact D10.out); (case aS => exact hz10); (case aL => exact L9.out); intro v11 x11 hR11 hB11 _ _; obtain ⟨A9b, c9b, rfl⟩ := Kd.R_slice hR11; obtain ⟨m9, hm9⟩ : ∃ m, m = (M9 ++ ([⟨1, 1, 0, 5, x1⟩] : List PF.S35)).length := ⟨_, rfl⟩; rw [← hm9]; have HM9 := Lib.hid hm9; clear hm9; have HR11 := Lib.hid hR11; have HB11 := Lib.hid hB11; clear hR11 hB11)
      have b11 : Below Y9.heap.size Y9 x11 := by rw [hz9]; exact HB11.out
      generalize hW2 : x11.alloc (.cells #[.slice A1 M1.length c1, .int .i64 0, .int .i64 4, .int .i64 0, .int .i64 40, .slice A2 M2.length c2, .int .i64 3, .int .i64 7, .int .i64 30, .int .i64 40, .slice A3 M3.length c3, .int .i64 3, .int .i64 7, .int .i64 30, .int .i64 40, .slice A4 M4.length c4, .int .i64 1, .int .i64 6, .int .i64 10, .int .i64 50, .slice A5 M5.length c5, .int .i64 3, .int .i64 6, .int .i64 30, .int .i64 30, .slice none 0 0, .int .i64 0, .int .i64 0, .int .i64 0, .int .i64 0, .slice A7 M7.length c7, .int .i64 6, .int .i64 6, .int .i64 0, .int .i64 0, .slice A8b m8 c8b, .int .i64 0, .int .i64 1, .int .i64 0, .int .i64 10, .slice A9b m9 c9b, .int .i64 0, .int .i64 1, .int .i64 5, .int .i64 1] 33) = W2
      have b12 : Below x11.heap.size x11 W2 := by rw [← hW2]; exact alloc_below _ _
      have QP : Hid (W2.heap[x11.heap.size]? = some (Obj.cells #[.slice A1 M1.length c1, .int .i64 0, .int .i64 4, .int .i64 0, .int .i64 40, .slice A2 M2.length c2, .int .i64 3, .int .i64 7, .int .i64 30, .int .i64 40, .slice A3 M3.length c3, .int .i64 3, .int .i64 7, .int .i64 30, .int .i64 40, .slice A4 M4.length c4, .int .i64 1, .int .i64 6, .int .i64 10, .int .i64 50, .slice A5 M5.length c5, .int .i64 3, .int .i64 6, .int .i64 30, .int .i64 30, .slice none 0 0, .int .i64 0, .int .i64 0, .int .i64 0, .int .i64 0, .slice A7 M7.length c7, .int .i64 6, .int .i64 6, .int .i64 0, .int .i64 0, .slice A8b m8 c8b, .int .i64 0, .int .i64 1, .int .i64 0, .int .i64 10, .slice A9b m9 c9b, .int .i64 0, .int .i64 1, .int .i64 5, .int .i64 1] 33 (0, 0))) := by unfold Hid; rw [← hW2]; exact alloc_new x11 _
      have hzP : W2.heap.size = x11.heap.size + 1 := by rw [← hW2]; exact alloc_size _ _
      clear hW2
      have R1 := Lib.hid (Kd.R_below (Kd.R_below R1.out b11) b12)
      have R2 := Lib.hid (Kd.R_below (Kd.R_below R2.out b11) b12)
      have R3 := Lib.hid (Kd.R_below (Kd.R_below R3.out b11) b12)
      have R4 := Lib.hid (Kd.R_below (Kd.R_below R4.out b11) b12)
      have R5 := Lib.hid (Kd.R_below (Kd.R_below R5.out b11) b12)
      have R7 := Lib.hid (Kd.R_below (Kd.R_below R7.out b11) b12)
      have R8b := Lib.hid (Kd.R_below (Kd.R_below R8b.out b11) b12)
      have R9b := Lib.hid (Kd.R_below HR11.out b12)
      have HBw := Lib.hid (below_step b12 (below_step b11 HBa.out (Nat.le_refl _)) (Nat.le_refl _))
      clear b11 HR11 HB11 HBa R9 D10 hz10 hz9 b12
      go_loopw [12] (fun v12 wr => ∃ k : Nat, k ≤ 9 ∧ v12 = .int .i64 k ∧ Hid (Below W2.heap.size W2 wr)) (fun v12 _ => 9 - (intOf v12).toNat)
      case atStart => exact ⟨0, by omega, rfl, Below.refl _ _⟩
      case round =>
        obtain ⟨k, hk, rfl, hb⟩ := hrel
        obtain ⟨wo, rfl⟩ : ∃ wo : World, wo = wr := ⟨_, rfl⟩
        have hk9 : k = 0 ∨ k = 1 ∨ k = 2 ∨ k = 3 ∨ k = 4 ∨ k = 5 ∨ k = 6 ∨ k = 7 ∨ k = 8 ∨ k = 9 := by omega
        clear hk
        have qw := Lib.hid ((hb.out.block _ (show x11.heap.size < W2.heap.size by omega)).trans QP.out)
        rcases hk9 with rfl | rfl | rfl | rfl | rfl | rfl | rfl | rfl | rfl | rfl
        · have q0 := (cell_of qw.out 0).trans rfl
          have q1 := (cell_of qw.out 1).trans rfl
          have q2 := (cell_of qw.out 2).trans rfl
          have q3 := (cell_of qw.out 3).trans rfl
          have q4 := (cell_of qw.out 4).trans rfl
          have K := (Kd.R_reads' (Kd.R_below R1.out hb.out)).2.2
          go_wp2_with (fail)
          have hx := ex1 A1 c1
          rw [HW1.out] at hx
          refine (hx _ K).mono ?_
          rintro e wz ⟨rfl, bz⟩
          replace q0 := below_cell bz q0
          replace q1 := below_cell bz q1
          replace q2 := below_cell bz q2
          replace q3 := below_cell bz q3
          replace q4 := below_cell bz q4
          have n4 := alloc_new wz (.cells #[.int .i64 0, .int .i64 4, .int .i64 0, .int .i64 40] 32)
          have b4 := alloc_below wz (.cells #[.int .i64 0, .int .i64 4, .int .i64 0, .int .i64 40] 32)
          go_upto_region 18 with (fail)
          obtain ⟨w4, hw4⟩ : ∃ w4, wz.alloc (.cells #[.int .i64 0, .int .i64 4, .int .i64 0, .int .i64 40] 32) = w4 := ⟨_, rfl⟩
          rw [hw4] at n4 b4 ⊢
          have HBn := Lib.hid (below_step b4 (below_step bz hb.out (Nat.le_refl _)) (Nat.le_refl _))
          have p0 := (cell_of n4 0).trans rfl
          have p1 := (cell_of n4 1).trans rfl
          have p2 := (cell_of n4 2).trans rfl
          have p3 := (cell_of n4 3).trans rfl
          replace q1 := below_cell b4 q1
          replace q2 := below_cell b4 q2
          replace q3 := below_cell b4 q3
          replace q4 := below_cell b4 q4
          clear bz K n4 b4 hw4
          go_region
          go_wp2_with (fail)
          go_roundw
          case rel => exact ⟨_, by decide, rfl, HBn.out.drew⟩
          case measure => simp [intOf]
        · have q0 := (cell_of qw.out 5).trans rfl
          have q1 := (cell_of qw.out 6).trans rfl
          have q2 := (cell_of qw.out 7).trans rfl
          have q3 := (cell_of qw.out 8).trans rfl
          have q4 := (cell_of qw.out 9).trans rfl
          have K := (Kd.R_reads' (Kd.R_below R2.out hb.out)).2.2
          go_wp2_with (fail)
          have hx := ex2 A2 c2
          rw [HW2.out] at hx
          refine (hx _ K).mono ?_
          rintro e wz ⟨rfl, bz⟩
          replace q0 := below_cell bz q0
          replace q1 := below_cell bz q1
          replace q2 := below_cell bz q2
          replace q3 := below_cell bz q3
          replace q4 := below_cell bz q4
          have n4 := alloc_new wz (.cells #[.int .i64 3, .int .i64 7, .int .i64 30, .int .i64 40] 32)
          have b4 := alloc_below wz (.cells #[.int .i64 3, .int .i64 7, .int .i64 30, .int .i64 40] 32)
          go_upto_region 18 with (fail)
          obtain ⟨w4, hw4⟩ : ∃ w4, wz.alloc (.cells #[.int .i64 3, .int .i64 7, .int .i64 30, .int .i64 40] 32) = w4 := ⟨_, rfl⟩
          rw [hw4] at n4 b4 ⊢
          have HBn := Lib.hid (below_step b4 (below_step bz hb.out (Nat.le_refl _)) (Nat.le_refl _))
          have p0 := (cell_of n4 0).trans rfl
          have p1 := (cell_of n4 1).trans rfl
          have p2 := (cell_of n4 2).trans rfl
          have p3 := (cell_of n4 3).trans rfl
          replace q1 := below_cell b4 q1
          replace q2 := below_cell b4 q2
          replace q3 := below_cell b4 q3
          replace q4 := below_cell b4 q4
          clear bz K n4 b4 hw4
          go_region
          go_wp2_with (fail)
          go_roundw
          case rel => exact ⟨_, by decide, rfl, HBn.out.drew⟩
          case measure => simp [intOf]
        · have q0 := (cell_of qw.out 10).trans rfl
          have q1 := (cell_of qw.out 11).trans rfl
          have q2 := (cell_of qw.out 12).trans rfl
          have q3 := (cell_of qw.out 13).trans rfl
          have q4 := (cell_of qw.out 14).trans rfl
          have K := (Kd.R_reads' (Kd.R_below R3.out hb.out)).2.2
          go_wp2_with (fail)
          have hx := ex3 A3 c3
          rw [HW3.out] at hx
          refine (hx _ K).mono ?_
          rintro e wz ⟨rfl, bz⟩
          replace q0 := below_cell bz q0
          replace q1 := below_cell bz q1
          replace q2 := below_cell bz q2
          replace q3 := below_cell bz q3
          replace q4 := below_cell bz q4
          have n4 := alloc_new wz (.cells #[.int .i64 3, .int .i64 7, .int .i64 30, .int .i64 40] 32)
          have b4 := alloc_below wz (.cells #[.int .i64 3, .int .i64 7, .int .i64 30, .int .i64 40] 32)
          go_upto_region 18 with (fail)
          obtain ⟨w4, hw4⟩ : ∃ w4, wz.alloc (.cells #[.int .i64 3, .int .i64 7, .int .i64 30, .int .i64 40] 32) = w4 := ⟨_, rfl⟩
          rw [hw4] at n4 b4 ⊢
          have HBn := Lib.hid (below_step b4 (below_step bz hb.out (Nat.le_refl _)) (Nat.le_refl _))
          have p0 := (cell_of n4 0).trans rfl
          have p1 := (cell_of n4 1).trans rfl
          have p2 := (cell_of n4 2).trans rfl
          have p3 := (cell_of n4 3).trans rfl
          replace q1 := below_cell b4 q1
          replace q2 := below_cell b4 q2
          replace q3 := below_cell b4 q3
          replace q4 := below_cell b4 q4
          clear bz K n4 b4 hw4
          go_region
          go_wp2_with (fail)
          go_roundw
          case rel => exact ⟨_, by decide, rfl, HBn.out.drew⟩
          case measure => simp [intOf]
        · have q0 := (cell_of qw.out 15).trans rfl
          have q1 := (cell_of qw.out 16).trans rfl
          have q2 := (cell_of qw.out 17).trans rfl
          have q3 := (cell_of qw.out 18).trans rfl
          have q4 := (cell_of qw.out 19).trans rfl
          have K := (Kd.R_reads' (Kd.R_below R4.out hb.out)).2.2
          go_wp2_with (fail)
          have hx := ex4 A4 c4
          rw [HW4.out] at hx
          refine (hx _ K).mono ?_
          rintro e wz ⟨rfl, bz⟩
          replace q0 := below_cell bz q0
          replace q1 := below_cell bz q1
          replace q2 := below_cell bz q2
          replace q3 := below_cell bz q3
          replace q4 := below_cell bz q4
          have n4 := alloc_new wz (.cells #[.int .i64 1, .int .i64 6, .int .i64 10, .int .i64 50] 32)
          have b4 := alloc_below wz (.cells #[.int .i64 1, .int .i64 6, .int .i64 10, .int .i64 50] 32)
          go_upto_region 18 with (fail)
          obtain ⟨w4, hw4⟩ : ∃ w4, wz.alloc (.cells #[.int .i64 1, .int .i64 6, .int .i64 10, .int .i64 50] 32) = w4 := ⟨_, rfl⟩
          rw [hw4] at n4 b4 ⊢
          have HBn := Lib.hid (below_step b4 (below_step bz hb.out (Nat.le_refl _)) (Nat.le_refl _))
          have p0 := (cell_of n4 0).trans rfl
          have p1 := (cell_of n4 1).trans rfl
          have p2 := (cell_of n4 2).trans rfl
          have p3 := (cell_of n4 3).trans rfl
          replace q1 := below_cell b4 q1
          replace q2 := below_cell b4 q2
          replace q3 := below_cell b4 q3
          replace q4 := below_cell b4 q4
          clear bz K n4 b4 hw4
          go_region
          go_wp2_with (fail)
          go_roundw
          case rel => exact ⟨_, by decide, rfl, HBn.out.drew⟩
          case measure => simp [intOf]
        · have q0 := (cell_of qw.out 20).trans rfl
          have q1 := (cell_of qw.out 21).trans rfl
          have q2 := (cell_of qw.out 22).trans rfl
          have q3 := (cell_of qw.out 23).trans rfl
          have q4 := (cell_of qw.out 24).trans rfl
          have K := (Kd.R_reads' (Kd.R_below R5.out hb.out)).2.2
          go_wp2_with (fail)
          have hx := ex5 A5 c5
          rw [HW5.out] at hx
          refine (hx _ K).mono ?_
          rintro e wz ⟨rfl, bz⟩
          replace q0 := below_cell bz q0
          replace q1 := below_cell bz q1
          replace q2 := below_cell bz q2
          replace q3 := below_cell bz q3
          replace q4 := below_cell bz q4
          have n4 := alloc_new wz (.cells #[.int .i64 3, .int .i64 6, .int .i64 30, .int .i64 30] 32)
          have b4 := alloc_below wz (.cells #[.int .i64 3, .int .i64 6, .int .i64 30, .int .i64 30] 32)
          go_upto_region 18 with (fail)
          obtain ⟨w4, hw4⟩ : ∃ w4, wz.alloc (.cells #[.int .i64 3, .int .i64 6, .int .i64 30, .int .i64 30] 32) = w4 := ⟨_, rfl⟩
          rw [hw4] at n4 b4 ⊢
          have HBn := Lib.hid (below_step b4 (below_step bz hb.out (Nat.le_refl _)) (Nat.le_refl _))
          have p0 := (cell_of n4 0).trans rfl
          have p1 := (cell_of n4 1).trans rfl
          have p2 := (cell_of n4 2).trans rfl
          have p3 := (cell_of n4 3).trans rfl
          replace q1 := below_cell b4 q1
          replace q2 := below_cell b4 q2
          replace q3 := below_cell b4 q3
          replace q4 := below_cell b4 q4
          clear bz K n4 b4 hw4
          go_region
          go_wp2_with (fail)
          go_roundw
          case rel => exact ⟨_, by decide, rfl, HBn.out.drew⟩
          case measure => simp [intOf]
        · have q0 := (cell_of qw.out 25).trans rfl
          have q1 := (cell_of qw.out 26).trans rfl
          have q2 := (cell_of qw.out 27).trans rfl
          have q3 := (cell_of qw.out 28).trans rfl
          have q4 := (cell_of qw.out 29).trans rfl
          go_wp2_with (fail)
          refine (ex6 _).mono ?_
          rintro e wz ⟨rfl, bz⟩
          replace q0 := below_cell bz q0
          replace q1 := below_cell bz q1
          replace q2 := below_cell bz q2
          replace q3 := below_cell bz q3
          replace q4 := below_cell bz q4
          have n4 := alloc_new wz (.cells #[.int .i64 0, .int .i64 0, .int .i64 0, .int .i64 0] 32)
          have b4 := alloc_below wz (.cells #[.int .i64 0, .int .i64 0, .int .i64 0, .int .i64 0] 32)
          go_upto_region 18 with (fail)
          obtain ⟨w4, hw4⟩ : ∃ w4, wz.alloc (.cells #[.int .i64 0, .int .i64 0, .int .i64 0, .int .i64 0] 32) = w4 := ⟨_, rfl⟩
          rw [hw4] at n4 b4 ⊢
          have HBn := Lib.hid (below_step b4 (below_step bz hb.out (Nat.le_refl _)) (Nat.le_refl _))
          have p0 := (cell_of n4 0).trans rfl
          have p1 := (cell_of n4 1).trans rfl
          have p2 := (cell_of n4 2).trans rfl
          have p3 := (cell_of n4 3).trans rfl
          replace q1 := below_cell b4 q1
          replace q2 := below_cell b4 q2
          replace q3 := below_cell b4 q3
          replace q4 := below_cell b4 q4
          clear bz n4 b4 hw4
          go_region
          go_wp2_with (fail)
          go_roundw
          case rel => exact ⟨_, by decide, rfl, HBn.out.drew⟩
          case measure => simp [intOf]
        · have q0 := (cell_of qw.out 30).trans rfl
          have q1 := (cell_of qw.out 31).trans rfl
          have q2 := (cell_of qw.out 32).trans rfl
          have q3 := (cell_of qw.out 33).trans rfl
          have q4 := (cell_of qw.out 34).trans rfl
          have K := (Kd.R_reads' (Kd.R_below R7.out hb.out)).2.2
          go_wp2_with (fail)
          have hx := ex7 A7 c7
          rw [HW7.out] at hx
          refine (hx _ K).mono ?_
          rintro e wz ⟨rfl, bz⟩
          replace q0 := below_cell bz q0
          replace q1 := below_cell bz q1
          replace q2 := below_cell bz q2
          replace q3 := below_cell bz q3
          replace q4 := below_cell bz q4
          have n4 := alloc_new wz (.cells #[.int .i64 6, .int .i64 6, .int .i64 0, .int .i64 0] 32)
          have b4 := alloc_below wz (.cells #[.int .i64 6, .int .i64 6, .int .i64 0, .int .i64 0] 32)
          go_upto_region 18 with (fail)
          obtain ⟨w4, hw4⟩ : ∃ w4, wz.alloc (.cells #[.int .i64 6, .int .i64 6, .int .i64 0, .int .i64 0] 32) = w4 := ⟨_, rfl⟩
          rw [hw4] at n4 b4 ⊢
          have HBn := Lib.hid (below_step b4 (below_step bz hb.out (Nat.le_refl _)) (Nat.le_refl _))
          have p0 := (cell_of n4 0).trans rfl
          have p1 := (cell_of n4 1).trans rfl
          have p2 := (cell_of n4 2).trans rfl
          have p3 := (cell_of n4 3).trans rfl
          replace q1 := below_cell b4 q1
          replace q2 := below_cell b4 q2
          replace q3 := below_cell b4 q3
          replace q4 := below_cell b4 q4
          clear bz K n4 b4 hw4
          go_region
          go_wp2_with (fail)
          go_roundw
          case rel => exact ⟨_, by decide, rfl, HBn.out.drew⟩
          case measure => simp [intOf]
        · have q0 := (cell_of qw.out 35).trans rfl
          have q1 := (cell_of qw.out 36).trans rfl
          have q2 := (cell_of qw.out 37).trans rfl
          have q3 := (cell_of qw.out 38).trans rfl
          have q4 := (cell_of qw.out 39).trans rfl
          have K := (Kd.R_reads' (Kd.R_below R8b.out hb.out)).2.2
          go_wp2_with (fail)
          have hx := ex8 A8b c8b
          rw [← HM8.out] at hx K
          refine (hx _ K).mono ?_
          rintro e wz ⟨rfl, bz⟩
          replace q0 := below_cell bz q0
          replace q1 := below_cell bz q1
          replace q2 := below_cell bz q2
          replace q3 := below_cell bz q3
          replace q4 := below_cell bz q4
          have n4 := alloc_new wz (.cells #[.int .i64 0, .int .i64 1, .int .i64 0, .int .i64 10] 32)
          have b4 := alloc_below wz (.cells #[.int .i64 0, .int .i64 1, .int .i64 0, .int .i64 10] 32)
          go_upto_region 18 with (fail)
          obtain ⟨w4, hw4⟩ : ∃ w4, wz.alloc (.cells #[.int .i64 0, .int .i64 1, .int .i64 0, .int .i64 10] 32) = w4 := ⟨_, rfl⟩
          rw [hw4] at n4 b4 ⊢
          have HBn := Lib.hid (below_step b4 (below_step bz hb.out (Nat.le_refl _)) (Nat.le_refl _))
          have p0 := (cell_of n4 0).trans rfl
          have p1 := (cell_of n4 1).trans rfl
          have p2 := (cell_of n4 2).trans rfl
          have p3 := (cell_of n4 3).trans rfl
          replace q1 := below_cell b4 q1
          replace q2 := below_cell b4 q2
          replace q3 := below_cell b4 q3
          replace q4 := below_cell b4 q4
          clear bz K n4 b4 hw4
          go_region
          go_wp2_with (fail)
          go_roundw
          case rel => exact ⟨_, by decide, rfl, HBn.out.drew⟩
          case measure => simp [intOf]
        · have q0 := (cell_of qw.out 40).trans rfl
          have q1 := (cell_of qw.out 41).trans rfl
          have q2 := (cell_of qw.out 42).trans rfl
          have q3 := (cell_of qw.out 43).trans rfl
          have q4 := (cell_of qw.out 44).trans rfl
          have K := (Kd.R_reads' (Kd.R_below R9b.out hb.out)).2.2
          go_wp2_with (fail)
          have hx := ex9 A9b c9b
          rw [HW9.out, ← HM9.out] at hx
          rw [← HM9.out] at K
          refine (hx _ K).mono ?_
          rintro e wz ⟨rfl, bz⟩
          replace q0 := below_cell bz q0
          replace q1 := below_cell bz q1
          replace q2 := below_cell bz q2
          replace q3 := below_cell bz q3
          replace q4 := below_cell bz q4
          have n4 := alloc_new wz (.cells #[.int .i64 0, .int .i64 1, .int .i64 5, .int .i64 1] 32)
          have b4 := alloc_below wz (.cells #[.int .i64 0, .int .i64 1, .int .i64 5, .int .i64 1] 32)
          go_upto_region 18 with (fail)
          obtain ⟨w4, hw4⟩ : ∃ w4, wz.alloc (.cells #[.int .i64 0, .int .i64 1, .int .i64 5, .int .i64 1] 32) = w4 := ⟨_, rfl⟩
          rw [hw4] at n4 b4 ⊢
          have HBn := Lib.hid (below_step b4 (below_step bz hb.out (Nat.le_refl _)) (Nat.le_refl _))
          have p0 := (cell_of n4 0).trans rfl
          have p1 := (cell_of n4 1).trans rfl
          have p2 := (cell_of n4 2).trans rfl
          have p3 := (cell_of n4 3).trans rfl
          replace q1 := below_cell b4 q1
          replace q2 := below_cell b4 q2
          replace q3 := below_cell b4 q3
          replace q4 := below_cell b4 q4
          clear bz K n4 b4 hw4
          go_region
          go_wp2_with (fail)
          go_roundw
          case rel => exact ⟨_, by decide, rfl, HBn.out.drew⟩
          case measure => simp [intOf]
        · have HBf := Lib.hid (below_step hb.out HBw.out (Nat.le_refl _))
          clear hb qw R1 R2 R3 R4 R5 R7 R8b R9b QP
          go_wp2_with (first | (go_at_call 4; (with_reducible refine (sec130 _).mono ?_); rintro e w' ⟨rfl, rfl⟩) | (go_at_call 6; (with_reducible refine (fst265 _).mono ?_); rintro e w' ⟨rfl, rfl⟩) | (go_at_call 5; (with_reducible refine (beg00 _).mono ?_); rintro e w' ⟨rfl, rfl⟩) | (go_at_call 4; (with_reducible refine (sec23m _).mono ?_); rintro e w' ⟨rfl, rfl⟩) | (go_at_call 5; (with_reducible refine (beg3m _).mono ?_); rintro e w' ⟨rfl, rfl⟩))
          refine (rec_bad 2 3 (-1) 3 (by kernel_rfl) (by decide) _).mono ?_
          rintro e wy ⟨rfl, by1⟩
          have HBf := Lib.hid (below_step by1 HBf.out (Nat.le_refl _))
          clear by1
          have HBf := Lib.hid (below_step (alloc_below wy (.cells #[.int .i64 0, .int .i64 0, .int .i64 0, .int .i64 0] 32)) HBf.out (Nat.le_refl _))
          go_wp2_with (fail)
          refine (rec_bad 65 3 (-1) 2 (by kernel_rfl) (by decide) _).mono ?_
          rintro e wv ⟨rfl, by1⟩
          have HBf := Lib.hid (below_step by1 HBf.out (Nat.le_refl _))
          clear by1
          have HBf := Lib.hid (below_step (alloc_below wv (.cells #[.int .i64 0, .int .i64 0, .int .i64 0, .int .i64 0] 32)) HBf.out (Nat.le_refl _))
          go_wp2_with (first | (go_at_call 4; (with_reducible refine (sec130 _).mono ?_); rintro e w' ⟨rfl, rfl⟩) | (go_at_call 6; (with_reducible refine (fst265 _).mono ?_); rintro e w' ⟨rfl, rfl⟩) | (go_at_call 5; (with_reducible refine (beg00 _).mono ?_); rintro e w' ⟨rfl, rfl⟩) | (go_at_call 4; (with_reducible refine (sec23m _).mono ?_); rintro e w' ⟨rfl, rfl⟩) | (go_at_call 5; (with_reducible refine (beg3m _).mono ?_); rintro e w' ⟨rfl, rfl⟩))
          go_ret
          exact ⟨rfl, HBf.out⟩
    all_goals
      go_wp2_with (go_at_call 6; first | (with_reducible refine (fst_of 0 0 (by kernel_rfl) (by kernel_rfl) _).mono ?_; rintro e w' ⟨rfl, rfl⟩) | (with_reducible refine (fst_of 1 0 (by kernel_rfl) (by kernel_rfl) _).mono ?_; rintro e w' ⟨rfl, rfl⟩) | (with_reducible refine (fst_of 6 0 (by kernel_rfl) (by kernel_rfl) _).mono ?_; rintro e w' ⟨rfl, rfl⟩) | (with_reducible refine (fst_of 7 3 (by kernel_rfl) (by kernel_rfl) _).mono ?_; rintro e w' ⟨rfl, rfl⟩) | (with_reducible refine (fst_of 9 3 (by kernel_rfl) (by kernel_rfl) _).mono ?_; rintro e w' ⟨rfl, rfl⟩) | (with_reducible refine (fst_of 10 6 (by kernel_rfl) (by kernel_rfl) _).mono ?_; rintro e w' ⟨rfl, rfl⟩))
      go_roundw
      case rel => exact ⟨_, by decide, rfl, trivial⟩
      case measure => simp [intOf]
end Go.Proofs.Ytjdmindpiaijcaa
