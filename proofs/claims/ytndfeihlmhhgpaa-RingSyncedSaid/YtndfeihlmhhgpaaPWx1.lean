-- laid by this session's program (wip/myprint.py) out of the kit's print of the translation
import Derived.Test.YtndfeihlmhhgpaaPWx0
namespace Go.Proofs.Ytndfeihlmhhgpaa.PW
open Go.RowKit Go.Proofs.YtndfeihlmhhgpaaW.PrintWords Go.Proofs.YtndfeihlmhhgpaaW.PrintLast Go.Proofs.YtndfeihlmhhgpaaW.PrintMore
attribute [local go_sem] max2_int min2_int max_two min_two max_three min_three max_four min_four   -- for this text's walks alone
set_option linter.unusedVariables false
set_option linter.unusedSimpArgs false

/-! ### sacristanlaw25_written: function 17 -/
def sacristanlaw25_written.l0 : Nat → Int → Int → Int → List (S29) → Int → Int → Int → Option ((List (S29)))
  | 0, _, _, _, _, _, _, _ => none
  | k + 1, x0, x1, x2, x7, x8, x9, x10 => if x10 < x1 then (if 0 ≤ (IntKind.u64.wrap (Int.tmod x10 64)) then (if 0 ≤ (wrap64 (1 + (Int.tmod (wrap64 (x10 * 7)) 10))) then (if (wrap64 (1 + (Int.tmod (wrap64 (x10 * 7)) 10))) ≤ 10 then (if x10 ≥ x0 then (if x7.length < 2932031007402 then (sacristanlaw25_written.l0 k x0 x1 x2 (x7 ++ [(⟨7, wrap64 (x8 + (wrap64 (Go.bits .and .u64 (shr .u64 x2 (IntKind.u64.wrap (Int.tmod x10 64))) 1))), x10, x9, (⟨#[48, 49, 50, 51, 52, 53, 54, 55, 56, 57]⟩ : ByteArray).extract 0 ((wrap64 (1 + (Int.tmod (wrap64 (x10 * 7)) 10))) : Int).toNat⟩ : S29)]) (wrap64 (x8 + (wrap64 (Go.bits .and .u64 (shr .u64 x2 (IntKind.u64.wrap (Int.tmod x10 64))) 1)))) (wrap64 (x9 + (((⟨#[48, 49, 50, 51, 52, 53, 54, 55, 56, 57]⟩ : ByteArray).extract 0 ((wrap64 (1 + (Int.tmod (wrap64 (x10 * 7)) 10))) : Int).toNat).size : Int))) (wrap64 (x10 + 1))) else (none)) else (sacristanlaw25_written.l0 k x0 x1 x2 x7 (wrap64 (x8 + (wrap64 (Go.bits .and .u64 (shr .u64 x2 (IntKind.u64.wrap (Int.tmod x10 64))) 1)))) (wrap64 (x9 + (((⟨#[48, 49, 50, 51, 52, 53, 54, 55, 56, 57]⟩ : ByteArray).extract 0 ((wrap64 (1 + (Int.tmod (wrap64 (x10 * 7)) 10))) : Int).toNat).size : Int))) (wrap64 (x10 + 1)))) else (none)) else (none)) else (none)) else (some x7)
def sacristanlaw25_written.f (k : Nat) (a0 : Int) (a1 : Int) (a2 : Int) : Option ((List (S29))) := sacristanlaw25_written.l0 k a0 a1 a2 ([] : List (S29)) 1 0 0
theorem sacristanlaw25_written.mono_l : ∀ k, (∀ y0 y1 y2 y3 y4 y5 y6, LeO (sacristanlaw25_written.l0 k y0 y1 y2 y3 y4 y5 y6) (sacristanlaw25_written.l0 (k + 1) y0 y1 y2 y3 y4 y5 y6))
  | 0 => fun _ _ _ _ _ _ _ r h => by simp [sacristanlaw25_written.l0] at h
  | k + 1 => by
    have ih0 := sacristanlaw25_written.mono_l k
    · intro y0 y1 y2 y3 y4 y5 y6
      unfold sacristanlaw25_written.l0
      repeat' first
      | (with_reducible exact ih0 _ _ _ _ _ _ _)
      | (with_reducible exact LeO.refl _)
      | (with_reducible exact LeO.none _)
      | (with_reducible refine LeO.ite ?_ ?_)
      | (with_reducible refine LeO.bind ?_ (fun _ => ?_))
      | exact ih0 _ _ _ _ _ _ _
      | exact LeO.none _
      | refine LeO.ite ?_ ?_
      | refine LeO.bind ?_ (fun _ => ?_)
theorem sacristanlaw25_written.mono : ∀ a0 a1 a2 k, LeO (sacristanlaw25_written.f k a0 a1 a2) (sacristanlaw25_written.f (k + 1) a0 a1 a2) := by
  intro a0 a1 a2 k
  have ih0 := sacristanlaw25_written.mono_l k
  unfold sacristanlaw25_written.f
  repeat' first
      | (with_reducible exact ih0 _ _ _ _ _ _ _)
      | (with_reducible exact LeO.refl _)
      | (with_reducible exact LeO.none _)
      | (with_reducible refine LeO.ite ?_ ?_)
      | (with_reducible refine LeO.bind ?_ (fun _ => ?_))
      | exact ih0 _ _ _ _ _ _ _
      | exact LeO.none _
      | refine LeO.ite ?_ ?_
      | refine LeO.bind ?_ (fun _ => ?_)
set_option maxHeartbeats 8000000 in
set_option maxRecDepth 100000 in
theorem sacristanlaw25_written.calls (k : Nat) (a0 : Int) (a1 : Int) (a2 : Int) (r : List (S29)) (w : World) (h : sacristanlaw25_written.f k a0 a1 a2 = some r) :
    Calls Try.prog 17 #[.int .i64 a0, .int .i64 a1, .int .u64 a2] w fun e w' => ∃ v0_ : Value, e = .returned (v0_) ∧ Kd.R k29 29 w' w.heap.size (fun _ => True) v0_ r ∧ Below w.heap.size w w' := by
  have hu29 := Try.underlying29
  have HB := Aside0.mk (Below.refl w.heap.size w)
  have H : (sacristanlaw25_written.l0 k a0 a1 a2 ([] : List (S29)) 1 0 0) = some r := h
  clear h
  have H' := Aside0.mk H
  clear H
  go_enter Try.func17, Try.ntmps17
  go_wp2
  go_loopg [7, 8, 9, 10] k (fun kq v7 v8 v9 v10 w' => ∃ (x7_1 : List (S29)) (x8_1 : Int) (x9_1 : Int) (x10_1 : Int), v8 = .int .i64 x8_1 ∧ v9 = .int .i64 x9_1 ∧ v10 = .int .i64 x10_1 ∧ Aside0 (sacristanlaw25_written.l0 kq a0 a1 a2 x7_1 x8_1 x9_1 x10_1 = some r) ∧ Aside0 (kq ≤ k) ∧ Aside0 (Kd.R k29 29 w' w.heap.size (fun _ => True) v7 x7_1) ∧ Aside0 (Below w.heap.size w w'))
  case atStart => exact ⟨(([] : List (S29))), (1), (0), (0), (by first | rfl | (simp; done) | (simp [*]; done)), (by first | rfl | (simp; done) | (simp [*]; done)), (by first | rfl | (simp; done) | (simp [*]; done)), H', ⟨Nat.le_refl _⟩, ⟨by first | exact Kd.R_nil _ _ _ _ _ | exact Kd.N_nil _ _ _ _ _ | exact Kd.V_nil _ _ _ _ _ | exact Kd.Q_nil _ _ _ _ _ | exact Kd.S_nil _ _ _ _ _⟩, ⟨by repeat (first | (with_reducible first | exact HB.out | apply below_alloc | apply pw_below_drewN | apply below_drew1) | exact HB.out)⟩⟩
  case round =>
    clear H'
    try clear c1
    try clear p2
    obtain ⟨x7_1, x8_1, x9_1, x10_1, rfl, rfl, rfl, HA, HK1, HO_7, HB⟩ := hrel
    cases gk with
    | zero => exact absurd HA.out (by simp [sacristanlaw25_written.l0])
    | succ k1 =>
      have H := HA.out
      clear HA
      simp only [sacristanlaw25_written.l0] at H
      by_cases c4 : x10_1 < a1
      · rw [if_pos c4] at H
        have c4b0 : decide (x10_1 < a1) = true := decide_eq_true c4
        clear c4
        obtain ⟨ji5, hji5⟩ : ∃ j_ : Int, (IntKind.u64.wrap (Int.tmod x10_1 64)) = j_ := ⟨_, rfl⟩
        replace H : (if 0 ≤ (ji5) then (if 0 ≤ (wrap64 (1 + (Int.tmod (wrap64 (x10_1 * 7)) 10))) then (if (wrap64 (1 + (Int.tmod (wrap64 (x10_1 * 7)) 10))) ≤ 10 then (if x10_1 ≥ a0 then (if x7_1.length < 2932031007402 then (sacristanlaw25_written.l0 k1 a0 a1 a2 (x7_1 ++ [(⟨7, wrap64 (x8_1 + (wrap64 (Go.bits .and .u64 (shr .u64 a2 (ji5)) 1))), x10_1, x9_1, (⟨#[48, 49, 50, 51, 52, 53, 54, 55, 56, 57]⟩ : ByteArray).extract 0 ((wrap64 (1 + (Int.tmod (wrap64 (x10_1 * 7)) 10))) : Int).toNat⟩ : S29)]) (wrap64 (x8_1 + (wrap64 (Go.bits .and .u64 (shr .u64 a2 (ji5)) 1)))) (wrap64 (x9_1 + (((⟨#[48, 49, 50, 51, 52, 53, 54, 55, 56, 57]⟩ : ByteArray).extract 0 ((wrap64 (1 + (Int.tmod (wrap64 (x10_1 * 7)) 10))) : Int).toNat).size : Int))) (wrap64 (x10_1 + 1))) else (none)) else (sacristanlaw25_written.l0 k1 a0 a1 a2 x7_1 (wrap64 (x8_1 + (wrap64 (Go.bits .and .u64 (shr .u64 a2 (ji5)) 1)))) (wrap64 (x9_1 + (((⟨#[48, 49, 50, 51, 52, 53, 54, 55, 56, 57]⟩ : ByteArray).extract 0 ((wrap64 (1 + (Int.tmod (wrap64 (x10_1 * 7)) 10))) : Int).toNat).size : Int))) (wrap64 (x10_1 + 1)))) else (none)) else (none)) else (none)) = some r := by first | (rw [hji5] at H; exact H) | (simp only [hji5] at H ⊢; exact H)
        by_cases c6 : 0 ≤ (ji5)
        · rw [if_pos c6] at H
          have c6b0 := eq_true c6
          have c6b1 : decide (0 ≤ (ji5)) = true := decide_eq_true c6
          clear c6
          obtain ⟨ji7, hji7⟩ : ∃ j_ : Int, (shr .u64 a2 (ji5)) = j_ := ⟨_, rfl⟩
          replace H : (if 0 ≤ (wrap64 (1 + (Int.tmod (wrap64 (x10_1 * 7)) 10))) then (if (wrap64 (1 + (Int.tmod (wrap64 (x10_1 * 7)) 10))) ≤ 10 then (if x10_1 ≥ a0 then (if x7_1.length < 2932031007402 then (sacristanlaw25_written.l0 k1 a0 a1 a2 (x7_1 ++ [(⟨7, wrap64 (x8_1 + (wrap64 (Go.bits .and .u64 (ji7) 1))), x10_1, x9_1, (⟨#[48, 49, 50, 51, 52, 53, 54, 55, 56, 57]⟩ : ByteArray).extract 0 ((wrap64 (1 + (Int.tmod (wrap64 (x10_1 * 7)) 10))) : Int).toNat⟩ : S29)]) (wrap64 (x8_1 + (wrap64 (Go.bits .and .u64 (ji7) 1)))) (wrap64 (x9_1 + (((⟨#[48, 49, 50, 51, 52, 53, 54, 55, 56, 57]⟩ : ByteArray).extract 0 ((wrap64 (1 + (Int.tmod (wrap64 (x10_1 * 7)) 10))) : Int).toNat).size : Int))) (wrap64 (x10_1 + 1))) else (none)) else (sacristanlaw25_written.l0 k1 a0 a1 a2 x7_1 (wrap64 (x8_1 + (wrap64 (Go.bits .and .u64 (ji7) 1)))) (wrap64 (x9_1 + (((⟨#[48, 49, 50, 51, 52, 53, 54, 55, 56, 57]⟩ : ByteArray).extract 0 ((wrap64 (1 + (Int.tmod (wrap64 (x10_1 * 7)) 10))) : Int).toNat).size : Int))) (wrap64 (x10_1 + 1)))) else (none)) else (none)) = some r := by first | (rw [hji7] at H; exact H) | (simp only [hji7] at H ⊢; exact H)
          have hji7_ : (a2 / 2 ^ min (ji5).toNat 64) = ji7 := hji7
          have hji7z : (ji5) ≤ 64 → (a2 / 2 ^ (ji5).toNat) = ji7 := shr_small hji7
          obtain ⟨ji8, hji8⟩ : ∃ j_ : Int, (wrap64 (1 + (Int.tmod (wrap64 (x10_1 * 7)) 10))) = j_ := ⟨_, rfl⟩
          replace H : (if 0 ≤ (ji8) then (if (ji8) ≤ 10 then (if x10_1 ≥ a0 then (if x7_1.length < 2932031007402 then (sacristanlaw25_written.l0 k1 a0 a1 a2 (x7_1 ++ [(⟨7, wrap64 (x8_1 + (wrap64 (Go.bits .and .u64 (ji7) 1))), x10_1, x9_1, (⟨#[48, 49, 50, 51, 52, 53, 54, 55, 56, 57]⟩ : ByteArray).extract 0 ((ji8) : Int).toNat⟩ : S29)]) (wrap64 (x8_1 + (wrap64 (Go.bits .and .u64 (ji7) 1)))) (wrap64 (x9_1 + (((⟨#[48, 49, 50, 51, 52, 53, 54, 55, 56, 57]⟩ : ByteArray).extract 0 ((ji8) : Int).toNat).size : Int))) (wrap64 (x10_1 + 1))) else (none)) else (sacristanlaw25_written.l0 k1 a0 a1 a2 x7_1 (wrap64 (x8_1 + (wrap64 (Go.bits .and .u64 (ji7) 1)))) (wrap64 (x9_1 + (((⟨#[48, 49, 50, 51, 52, 53, 54, 55, 56, 57]⟩ : ByteArray).extract 0 ((ji8) : Int).toNat).size : Int))) (wrap64 (x10_1 + 1)))) else (none)) else (none)) = some r := by first | (rw [hji8] at H; exact H) | (simp only [hji8] at H ⊢; exact H)
          have hji8w : (IntKind.i64.wrap (1 + (Int.tmod (wrap64 (x10_1 * 7)) 10))) = ji8 := (i64_w _).trans hji8
          by_cases c9 : 0 ≤ (ji8)
          · rw [if_pos c9] at H
            have c9b0 := eq_true c9
            have c9b1 : decide (0 ≤ (ji8)) = true := decide_eq_true c9
            clear c9
            by_cases c10 : (ji8) ≤ 10
            · rw [if_pos c10] at H
              have c10b0 := eq_true c10
              have c10b1 : decide ((ji8) ≤ 10) = true := decide_eq_true c10
              clear c10
              by_cases c11 : x10_1 ≥ a0
              · rw [if_pos c11] at H
                have c11b0 : decide (a0 ≤ x10_1) = true := decide_eq_true c11
                clear c11
                by_cases c12 : x7_1.length < 2932031007402
                · rw [if_pos c12] at H
                  have LMc12 := Aside0.mk c12
                  clear c12
                  obtain ⟨y102, hy102⟩ : ∃ y_ : List (S29), y_ = (x7_1 ++ [(⟨7, wrap64 (x8_1 + (wrap64 (Go.bits .and .u64 (ji7) 1))), x10_1, x9_1, (⟨#[48, 49, 50, 51, 52, 53, 54, 55, 56, 57]⟩ : ByteArray).extract 0 ((ji8) : Int).toNat⟩ : S29)]) := ⟨_, rfl⟩
                  replace H : (sacristanlaw25_written.l0 k1 a0 a1 a2 y102 (wrap64 (x8_1 + (wrap64 (Go.bits .and .u64 (ji7) 1)))) (wrap64 (x9_1 + (((⟨#[48, 49, 50, 51, 52, 53, 54, 55, 56, 57]⟩ : ByteArray).extract 0 ((ji8) : Int).toNat).size : Int))) (wrap64 (x10_1 + 1))) = some r := by first | (rw [hy102]; with_reducible exact H) | (have H2_ := (Option.bind_some _ _).symm.trans H; rw [hy102]; with_reducible exact H2_) | (have H2_ := (Option.bind_some _ _).symm.trans H; with_reducible exact H2_) | with_reducible exact H | (rw [hy102]; exact H) | exact H
                  have Ny102 := Aside0.mk hy102
                  clear hy102
                  have H' := Aside0.mk H
                  clear H
                  go_wp2_with (first | ((with_reducible refine gate_dst (N := 11) rfl ?_); refine box_event ?hg (N := 11) ?hd (cs := #[.int .i64 0, .int .i64 0, .int .i64 0, .int .i64 0, .string (⟨#[]⟩ : ByteArray)]) (t := 29) ?hr ?_; (case hd => rfl); (case hg => rfl); (case hr => first | (go_simp; done) | (go_simp; rfl)); intro gb101 hg w13 hbox hb; have n0_ := Aside0.mk (Kd.R_below (Kd.R_elderB (by (with_reducible repeat (first | apply Kd.R_alloc | apply Kd.R_drewN | apply Kd.R_drew)); exact HO_7.out) gb101 (Nat.le_of_eq hg.symm)) hb); have n1_ := Aside0.mk (below_step (by repeat (first | (with_reducible first | exact HB.out | apply below_alloc | apply pw_below_drewN | apply below_drew1) | exact HB.out)) hb); have n2_ := Aside0.mk (hbox); have n3_ := Aside0.mk ((by rw [hg]; exact (below_size (by repeat (first | (with_reducible first | exact HB.out | apply below_alloc | apply pw_below_drewN | apply below_drew1) | exact HB.out))) : w.heap.size ≤ gb101)); have n4_ := Aside0.mk ((by rw [hg]; exact (below_size (by repeat (first | (with_reducible first | exact HB.out | apply below_alloc | apply pw_below_drewN | apply below_drew1) | exact HB.out))) : w.heap.size ≤ gb101)); clear HO_7; clear HB; have HO_7 := n0_; have HB := n1_; have BK101 := n2_; have GW101 := n3_; have GE101 := n4_; clear n0_ n1_ n2_ n3_ n4_; clear hb hbox hg; have hcz14_0 : w13.cell? ⟨gb101, 0, none⟩ = some (.int .i64 0) := (blk_cell BK101.out 0).trans rfl; have hcz14_1 : w13.cell? ⟨gb101, 1, none⟩ = some (.int .i64 0) := (blk_cell BK101.out 1).trans rfl; have hcz14_2 : w13.cell? ⟨gb101, 2, none⟩ = some (.int .i64 0) := (blk_cell BK101.out 2).trans rfl; have hcz14_3 : w13.cell? ⟨gb101, 3, none⟩ = some (.int .i64 0) := (blk_cell BK101.out 3).trans rfl; have hcz14_4 : w13.cell? ⟨gb101, 4, none⟩ = some (.string (⟨#[]⟩ : ByteArray)) := (blk_cell BK101.out 4).trans rfl; have hfz14_0 := blk_frozen BK101.out 0; have hfz14_1 := blk_frozen BK101.out 1; have hfz14_2 := blk_frozen BK101.out 2; have hfz14_3 := blk_frozen BK101.out 3; have hfz14_4 := blk_frozen BK101.out 4) | ((with_reducible refine gate_builtin (b := .append) (xs := #[.tmp 43, .tmp 45]) rfl ?_); at_builtin; refine Kd.R_append k29 (w0 := w) w.heap.size rfl (.tmp 43) (.tmp 45) 26 29 (.agg #[(.int .i64 0), (.int .i64 0), (.int .i64 0), (.int .i64 0), (.string ⟨#[]⟩)]) 48 rfl Try.underlying26 info29 rfl (by decide) (by omega) u7 x7_1 (⟨7, wrap64 (x8_1 + (wrap64 (Go.bits .and .u64 (ji7) 1))), x10_1, x9_1, (⟨#[48, 49, 50, 51, 52, 53, 54, 55, 56, 57]⟩ : ByteArray).extract 0 ((ji8) : Int).toNat⟩ : S29) [.int .i64 7, .int .i64 (wrap64 (x8_1 + (wrap64 (Go.bits .and .u64 (ji7) 1)))), .int .i64 x10_1, .int .i64 x9_1, .string ((⟨#[48, 49, 50, 51, 52, 53, 54, 55, 56, 57]⟩ : ByteArray).extract 0 ((ji8) : Int).toNat)] (fun k_ => k_ ≠ gb101) (fun _ => False) rfl (by first | (go_simp; done) | (go_simp; rfl)) ?aP (fun _ hk => hk.elim) ?aF ?aO ?aB ?aS ?aL ?_; (case aP => exact k29_mkM _ _ _ (⟨7, wrap64 (x8_1 + (wrap64 (Go.bits .and .u64 (ji7) 1))), x10_1, x9_1, (⟨#[48, 49, 50, 51, 52, 53, 54, 55, 56, 57]⟩ : ByteArray).extract 0 ((ji8) : Int).toNat⟩ : S29)); (case aB => exact (by repeat (first | (with_reducible first | exact HB.out | apply below_alloc | apply pw_below_drewN | apply below_drew1 | refine below_set ?_ GE101.out) | exact HB.out))); (case aF => exact (fun k_ hk => Kd.freshB (g := gb101) (o := .cells #[.int .i64 7, .int .i64 (wrap64 (x8_1 + (wrap64 (Go.bits .and .u64 (ji7) 1)))), .int .i64 x10_1, .int .i64 x9_1, .string ((⟨#[48, 49, 50, 51, 52, 53, 54, 55, 56, 57]⟩ : ByteArray).extract 0 ((ji8) : Int).toNat)] 29 (0, 0)) (by (with_reducible repeat (first | refine blk_drewN ?_ _ | refine blk_drew ?_ | refine blk_alloc ?_ _)); refine blk_put (cs := #[.int .i64 7, .int .i64 (wrap64 (x8_1 + (wrap64 (Go.bits .and .u64 (ji7) 1)))), .int .i64 x10_1, .int .i64 x9_1, .string (⟨#[]⟩ : ByteArray)]) ?_ 4 _ rfl; (with_reducible repeat (first | refine blk_drewN ?_ _ | refine blk_drew ?_ | refine blk_alloc ?_ _)); refine blk_put (cs := #[.int .i64 7, .int .i64 (wrap64 (x8_1 + (wrap64 (Go.bits .and .u64 (ji7) 1)))), .int .i64 x10_1, .int .i64 0, .string (⟨#[]⟩ : ByteArray)]) ?_ 3 _ rfl; (with_reducible repeat (first | refine blk_drewN ?_ _ | refine blk_drew ?_ | refine blk_alloc ?_ _)); refine blk_put (cs := #[.int .i64 7, .int .i64 (wrap64 (x8_1 + (wrap64 (Go.bits .and .u64 (ji7) 1)))), .int .i64 0, .int .i64 0, .string (⟨#[]⟩ : ByteArray)]) ?_ 2 _ rfl; (with_reducible repeat (first | refine blk_drewN ?_ _ | refine blk_drew ?_ | refine blk_alloc ?_ _)); refine blk_put (cs := #[.int .i64 7, .int .i64 0, .int .i64 0, .int .i64 0, .string (⟨#[]⟩ : ByteArray)]) ?_ 1 _ rfl; (with_reducible repeat (first | refine blk_drewN ?_ _ | refine blk_drew ?_ | refine blk_alloc ?_ _)); refine blk_put (cs := #[.int .i64 0, .int .i64 0, .int .i64 0, .int .i64 0, .string (⟨#[]⟩ : ByteArray)]) ?_ 0 _ rfl; (with_reducible repeat (first | refine blk_drewN ?_ _ | refine blk_drew ?_ | refine blk_alloc ?_ _)); exact BK101.out) k_ hk)); (case aO => exact (by (with_reducible repeat (first | apply Kd.R_alloc | apply Kd.R_drewN | apply Kd.R_drew)); exact Kd.R_mono (Kd.R_far (p := ⟨gb101, 4, none⟩) (Kd.R_far (p := ⟨gb101, 3, none⟩) (Kd.R_far (p := ⟨gb101, 2, none⟩) (Kd.R_far (p := ⟨gb101, 1, none⟩) (Kd.R_far (p := ⟨gb101, 0, none⟩) (Kd.R_mono HO_7.out (fun k_ hk => (⟨hk, hk.2⟩ : _ ∧ k_ ≠ gb101))) (fun _ hk => hk.2) (.int .i64 7)) (fun _ hk => hk.2) (.int .i64 (wrap64 (x8_1 + (wrap64 (Go.bits .and .u64 (ji7) 1)))))) (fun _ hk => hk.2) (.int .i64 x10_1)) (fun _ hk => hk.2) (.int .i64 x9_1)) (fun _ hk => hk.2) (.string ((⟨#[48, 49, 50, 51, 52, 53, 54, 55, 56, 57]⟩ : ByteArray).extract 0 ((ji8) : Int).toNat))) (fun _ hk => hk.1.2))); (case aS => exact (below_size (by repeat (first | (with_reducible first | exact HB.out | apply below_alloc | apply pw_below_drewN | apply below_drew1 | refine below_set ?_ GE101.out) | exact HB.out)))); (case aL => have := LMc12.out; omega); intro v103 w15 ho hb hg hat; rw [← Ny102.out] at ho; have n0_ := Aside0.mk (blk_grown (g := gb101) (o := .cells #[.int .i64 7, .int .i64 (wrap64 (x8_1 + (wrap64 (Go.bits .and .u64 (ji7) 1)))), .int .i64 x10_1, .int .i64 x9_1, .string ((⟨#[48, 49, 50, 51, 52, 53, 54, 55, 56, 57]⟩ : ByteArray).extract 0 ((ji8) : Int).toNat)] 29 (0, 0)) (by (with_reducible repeat (first | refine blk_drewN ?_ _ | refine blk_drew ?_ | refine blk_alloc ?_ _)); refine blk_put (cs := #[.int .i64 7, .int .i64 (wrap64 (x8_1 + (wrap64 (Go.bits .and .u64 (ji7) 1)))), .int .i64 x10_1, .int .i64 x9_1, .string (⟨#[]⟩ : ByteArray)]) ?_ 4 _ rfl; (with_reducible repeat (first | refine blk_drewN ?_ _ | refine blk_drew ?_ | refine blk_alloc ?_ _)); refine blk_put (cs := #[.int .i64 7, .int .i64 (wrap64 (x8_1 + (wrap64 (Go.bits .and .u64 (ji7) 1)))), .int .i64 x10_1, .int .i64 0, .string (⟨#[]⟩ : ByteArray)]) ?_ 3 _ rfl; (with_reducible repeat (first | refine blk_drewN ?_ _ | refine blk_drew ?_ | refine blk_alloc ?_ _)); refine blk_put (cs := #[.int .i64 7, .int .i64 (wrap64 (x8_1 + (wrap64 (Go.bits .and .u64 (ji7) 1)))), .int .i64 0, .int .i64 0, .string (⟨#[]⟩ : ByteArray)]) ?_ 2 _ rfl; (with_reducible repeat (first | refine blk_drewN ?_ _ | refine blk_drew ?_ | refine blk_alloc ?_ _)); refine blk_put (cs := #[.int .i64 7, .int .i64 0, .int .i64 0, .int .i64 0, .string (⟨#[]⟩ : ByteArray)]) ?_ 1 _ rfl; (with_reducible repeat (first | refine blk_drewN ?_ _ | refine blk_drew ?_ | refine blk_alloc ?_ _)); refine blk_put (cs := #[.int .i64 0, .int .i64 0, .int .i64 0, .int .i64 0, .string (⟨#[]⟩ : ByteArray)]) ?_ 0 _ rfl; (with_reducible repeat (first | refine blk_drewN ?_ _ | refine blk_drew ?_ | refine blk_alloc ?_ _)); exact BK101.out) hg (Kd.R_away HO_7.out (fun _ hk => hk.2))); have n1_ := Aside0.mk (hb); have n2_ := Aside0.mk (ho); clear BK101; clear HB; clear HO_7; have BK101 := n0_; have HB := n1_; have HO104 := n2_; clear n0_ n1_ n2_; clear ho hb hg hat))
                  go_roundg k1
                  case measure => have := HK1.out; omega
                  case rel => exact ⟨(y102), (wrap64 (x8_1 + (wrap64 (Go.bits .and .u64 (ji7) 1)))), (wrap64 (x9_1 + (((⟨#[48, 49, 50, 51, 52, 53, 54, 55, 56, 57]⟩ : ByteArray).extract 0 ((ji8) : Int).toNat).size : Int))), (wrap64 (x10_1 + 1)), (by first | rfl | (simp; done) | (simp only [← hji7] <;> (first | rfl | simp)) | (simp [*]; done)), (by first | rfl | (rw [ten_len c9b1 c10b1]; rfl) | (rw [ten_len c9b1 c10b1]; simp [Int.max_eq_left (of_decide_eq_true c9b1)]; done) | (simp; done) | (simp [*]; done)), (by first | rfl | (simp; done) | (simp [*]; done)), H', ⟨by have := HK1.out; omega⟩, ⟨by (with_reducible repeat (first | apply Kd.R_alloc | apply Kd.R_drewN | apply Kd.R_drew)); exact Kd.R_mono HO104.out (fun _ hk => trivial)⟩, ⟨by repeat (first | (with_reducible first | exact HB.out | apply below_alloc | apply pw_below_drewN | apply below_drew1 | refine below_set ?_ GE101.out) | exact HB.out)⟩⟩
                · rw [if_neg c12] at H
                  exact absurd H (by simp)
              · rw [if_neg c11] at H
                have c11b0 : decide (a0 ≤ x10_1) = false := decide_eq_false c11
                clear c11
                have H' := Aside0.mk H
                clear H
                go_wp2_with (first | ((with_reducible refine gate_dst (N := 11) rfl ?_); refine box_event ?hg (N := 11) ?hd (cs := #[.int .i64 0, .int .i64 0, .int .i64 0, .int .i64 0, .string (⟨#[]⟩ : ByteArray)]) (t := 29) ?hr ?_; (case hd => rfl); (case hg => rfl); (case hr => first | (go_simp; done) | (go_simp; rfl)); intro gb101 hg w16 hbox hb; have n0_ := Aside0.mk (Kd.R_below (Kd.R_elderB (by (with_reducible repeat (first | apply Kd.R_alloc | apply Kd.R_drewN | apply Kd.R_drew)); exact HO_7.out) gb101 (Nat.le_of_eq hg.symm)) hb); have n1_ := Aside0.mk (below_step (by repeat (first | (with_reducible first | exact HB.out | apply below_alloc | apply pw_below_drewN | apply below_drew1) | exact HB.out)) hb); have n2_ := Aside0.mk (hbox); have n3_ := Aside0.mk ((by rw [hg]; exact (below_size (by repeat (first | (with_reducible first | exact HB.out | apply below_alloc | apply pw_below_drewN | apply below_drew1) | exact HB.out))) : w.heap.size ≤ gb101)); have n4_ := Aside0.mk ((by rw [hg]; exact (below_size (by repeat (first | (with_reducible first | exact HB.out | apply below_alloc | apply pw_below_drewN | apply below_drew1) | exact HB.out))) : w.heap.size ≤ gb101)); clear HO_7; clear HB; have HO_7 := n0_; have HB := n1_; have BK101 := n2_; have GW101 := n3_; have GE101 := n4_; clear n0_ n1_ n2_ n3_ n4_; clear hb hbox hg; have hcz17_0 : w16.cell? ⟨gb101, 0, none⟩ = some (.int .i64 0) := (blk_cell BK101.out 0).trans rfl; have hcz17_1 : w16.cell? ⟨gb101, 1, none⟩ = some (.int .i64 0) := (blk_cell BK101.out 1).trans rfl; have hcz17_2 : w16.cell? ⟨gb101, 2, none⟩ = some (.int .i64 0) := (blk_cell BK101.out 2).trans rfl; have hcz17_3 : w16.cell? ⟨gb101, 3, none⟩ = some (.int .i64 0) := (blk_cell BK101.out 3).trans rfl; have hcz17_4 : w16.cell? ⟨gb101, 4, none⟩ = some (.string (⟨#[]⟩ : ByteArray)) := (blk_cell BK101.out 4).trans rfl; have hfz17_0 := blk_frozen BK101.out 0; have hfz17_1 := blk_frozen BK101.out 1; have hfz17_2 := blk_frozen BK101.out 2; have hfz17_3 := blk_frozen BK101.out 3; have hfz17_4 := blk_frozen BK101.out 4))
                go_roundg k1
                case measure => have := HK1.out; omega
                case rel => exact ⟨(x7_1), (wrap64 (x8_1 + (wrap64 (Go.bits .and .u64 (ji7) 1)))), (wrap64 (x9_1 + (((⟨#[48, 49, 50, 51, 52, 53, 54, 55, 56, 57]⟩ : ByteArray).extract 0 ((ji8) : Int).toNat).size : Int))), (wrap64 (x10_1 + 1)), (by first | rfl | (simp; done) | (simp only [← hji7] <;> (first | rfl | simp)) | (simp [*]; done)), (by first | rfl | (rw [ten_len c9b1 c10b1]; rfl) | (rw [ten_len c9b1 c10b1]; simp [Int.max_eq_left (of_decide_eq_true c9b1)]; done) | (simp; done) | (simp [*]; done)), (by first | rfl | (simp; done) | (simp [*]; done)), H', ⟨by have := HK1.out; omega⟩, ⟨by (with_reducible repeat (first | apply Kd.R_alloc | apply Kd.R_drewN | apply Kd.R_drew)); exact Kd.R_mono (Kd.R_far (p := ⟨gb101, 4, none⟩) (Kd.R_far (p := ⟨gb101, 3, none⟩) (Kd.R_far (p := ⟨gb101, 2, none⟩) (Kd.R_far (p := ⟨gb101, 1, none⟩) (Kd.R_far (p := ⟨gb101, 0, none⟩) (Kd.R_mono HO_7.out (fun k_ hk => (⟨hk, hk.2⟩ : _ ∧ k_ ≠ gb101))) (fun _ hk => hk.2) (.int .i64 7)) (fun _ hk => hk.2) (.int .i64 (wrap64 (x8_1 + (wrap64 (Go.bits .and .u64 (ji7) 1)))))) (fun _ hk => hk.2) (.int .i64 x10_1)) (fun _ hk => hk.2) (.int .i64 x9_1)) (fun _ hk => hk.2) (.string ((⟨#[48, 49, 50, 51, 52, 53, 54, 55, 56, 57]⟩ : ByteArray).extract 0 ((ji8) : Int).toNat))) (fun _ hk => trivial)⟩, ⟨by repeat (first | (with_reducible first | exact HB.out | apply below_alloc | apply pw_below_drewN | apply below_drew1 | refine below_set ?_ GE101.out) | exact HB.out)⟩⟩
            · rw [if_neg c10] at H
              exact absurd H (by simp)
          · rw [if_neg c9] at H
            exact absurd H (by simp)
        · rw [if_neg c6] at H
          exact absurd H (by simp)
      · rw [if_neg c4] at H
        have c4b0 : decide (x10_1 < a1) = false := decide_eq_false c4
        clear c4
        obtain rfl := Option.some.inj H
        go_wp2
        go_ret
        exact ⟨_, by first | rfl | (simp [errW_none, errW_some] <;> rfl) | (simp [*, errW_none, errW_some] <;> rfl), by (with_reducible repeat (first | apply Kd.R_alloc | apply Kd.R_drewN | apply Kd.R_drew)); exact HO_7.out, by repeat (first | (with_reducible first | exact HB.out | apply below_alloc | apply pw_below_drewN | apply below_drew1) | exact HB.out)⟩

/-! ### sacristanlaw25_turned: function 19 -/
def sacristanlaw25_turned.l0 : Nat → List (S29) → Int → List (S29) → Int → Option ((List (S29)))
  | 0, _, _, _, _ => none
  | k + 1, x0, x1, x5, x6 => if x6 < (x0.length : Int) then (if (x0.length : Int) = 0 then (none) else (if 0 ≤ (Int.tmod (wrap64 (x6 + (wrap64 (x1)))) (x0.length : Int)) then (if (Int.tmod (wrap64 (x6 + (wrap64 (x1)))) (x0.length : Int)) < (x0.length : Int) then ((some (([(⟨8, (rd_T29 x0 (Int.tmod (wrap64 (x6 + (wrap64 (x1)))) (x0.length : Int))).f1, wrap64 (((rd_T29 x0 (Int.tmod (wrap64 (x6 + (wrap64 (x1)))) (x0.length : Int))).f2) + (wrap64 (Int.tmod x1 3))), (rd_T29 x0 (Int.tmod (wrap64 (x6 + (wrap64 (x1)))) (x0.length : Int))).f3, (rd_T29 x0 (Int.tmod (wrap64 (x6 + (wrap64 (x1)))) (x0.length : Int))).f4⟩ : S29), (⟨(rd_T29 x0 (Int.tmod (wrap64 (x6 + (wrap64 (x1)))) (x0.length : Int))).f0, (rd_T29 x0 (Int.tmod (wrap64 (x6 + (wrap64 (x1)))) (x0.length : Int))).f1, (rd_T29 x0 (Int.tmod (wrap64 (x6 + (wrap64 (x1)))) (x0.length : Int))).f2, (rd_T29 x0 (Int.tmod (wrap64 (x6 + (wrap64 (x1)))) (x0.length : Int))).f3, (rd_T29 x0 (Int.tmod (wrap64 (x6 + (wrap64 (x1)))) (x0.length : Int))).f4⟩ : S29)] : List (S29)) : List (S29))).bind fun y108 => (if x5.length + y108.length < 2932031007402 then (sacristanlaw25_turned.l0 k x0 x1 (x5 ++ y108) (wrap64 (x6 + 1))) else (none))) else (none)) else (none))) else (some x5)
def sacristanlaw25_turned.f (k : Nat) (l0 : List (S29)) (a1 : Int) : Option ((List (S29))) := sacristanlaw25_turned.l0 k l0 a1 ([] : List (S29)) 0
theorem sacristanlaw25_turned.mono_l : ∀ k, (∀ y0 y1 y2 y3, LeO (sacristanlaw25_turned.l0 k y0 y1 y2 y3) (sacristanlaw25_turned.l0 (k + 1) y0 y1 y2 y3))
  | 0 => fun _ _ _ _ r h => by simp [sacristanlaw25_turned.l0] at h
  | k + 1 => by
    have ih0 := sacristanlaw25_turned.mono_l k
    · intro y0 y1 y2 y3
      unfold sacristanlaw25_turned.l0
      repeat' first
      | (with_reducible exact ih0 _ _ _ _)
      | (with_reducible exact LeO.refl _)
      | (with_reducible exact LeO.none _)
      | (with_reducible refine LeO.ite ?_ ?_)
      | (with_reducible refine LeO.bind ?_ (fun _ => ?_))
      | exact ih0 _ _ _ _
      | exact LeO.none _
      | refine LeO.ite ?_ ?_
      | refine LeO.bind ?_ (fun _ => ?_)
theorem sacristanlaw25_turned.mono : ∀ a0 a1 k, LeO (sacristanlaw25_turned.f k a0 a1) (sacristanlaw25_turned.f (k + 1) a0 a1) := by
  intro a0 a1 k
  have ih0 := sacristanlaw25_turned.mono_l k
  unfold sacristanlaw25_turned.f
  repeat' first
      | (with_reducible exact ih0 _ _ _ _)
      | (with_reducible exact LeO.refl _)
      | (with_reducible exact LeO.none _)
      | (with_reducible refine LeO.ite ?_ ?_)
      | (with_reducible refine LeO.bind ?_ (fun _ => ?_))
      | exact ih0 _ _ _ _
      | exact LeO.none _
      | refine LeO.ite ?_ ?_
      | refine LeO.bind ?_ (fun _ => ?_)
def sacristanlaw25_turned.T7 : Bool × List (List Nat × List Nat) := (true, [([], []), ([0], [0]), ([], []), ([2], [2]), ([3], [3]), ([1, 4], [1, 4]), ([], []), ([6], [6]), ([0, 1, 2, 3, 4, 5, 6, 7], []), ([8, 5, 7, 0, 1, 2, 3, 4, 5, 6, 7], [5, 8])])
def sacristanlaw25_turned.B7 : List Nat := [0, 1, 0, 4, 12, 31, 0, 64, 255, 511]
theorem sacristanlaw25_turned.tab7 : rtab .any (opsOf Try.f19 7) = sacristanlaw25_turned.T7 := by kernel_rfl
theorem sacristanlaw25_turned.bits7 : waitsOk sacristanlaw25_turned.T7.2 sacristanlaw25_turned.B7 = true := by kernel_rfl
set_option maxHeartbeats 8000000 in
set_option maxRecDepth 100000 in
theorem sacristanlaw25_turned.calls (k : Nat) (A0 : Option Addr) (c0 : Nat) (l0 : List (S29)) (a1 : Int) (r : List (S29)) (w : World) (hr0 : Kd.C k29 w A0 l0.length l0) (hc0 : l0.length ≤ c0) (h : sacristanlaw25_turned.f k l0 a1 = some r) :
    Calls Try.prog 19 #[.slice A0 l0.length c0, .int .u8 a1] w fun e w' => ∃ v0_ : Value, e = .returned (v0_) ∧ Kd.R k29 29 w' w.heap.size (fun _ => True) v0_ r ∧ Below w.heap.size w w' := by
  have hu29 := Try.underlying29
  have HR0 := Aside0.mk hr0
  have HC0 := Aside0.mk hc0
  clear hr0 hc0
  have HB := Aside0.mk (Below.refl w.heap.size w)
  have H : (sacristanlaw25_turned.l0 k l0 a1 ([] : List (S29)) 0) = some r := h
  clear h
  have H' := Aside0.mk H
  clear H
  go_enter Try.func19, Try.ntmps19
  go_wp2
  go_loopg [5, 6] k (fun kq v5 v6 w' => ∃ (x5_1 : List (S29)) (x6_1 : Int), v6 = .int .i64 x6_1 ∧ Aside0 (sacristanlaw25_turned.l0 kq l0 a1 x5_1 x6_1 = some r) ∧ Aside0 (kq ≤ k) ∧ Aside0 (Kd.R k29 29 w' w.heap.size (fun _ => True) v5 x5_1) ∧ Aside0 (Below w.heap.size w w'))
  case atStart => exact ⟨(([] : List (S29))), (0), (by first | rfl | (simp; done) | (simp [*]; done)), H', ⟨Nat.le_refl _⟩, ⟨by first | exact Kd.R_nil _ _ _ _ _ | exact Kd.N_nil _ _ _ _ _ | exact Kd.V_nil _ _ _ _ _ | exact Kd.Q_nil _ _ _ _ _ | exact Kd.S_nil _ _ _ _ _⟩, ⟨by repeat (first | (with_reducible first | exact HB.out | apply below_alloc | apply pw_below_drewN | apply below_drew1) | exact HB.out)⟩⟩
  case round =>
    clear H'
    try clear c1
    try clear p2
    obtain ⟨x5_1, x6_1, rfl, HA, HK1, HO_5, HB⟩ := hrel
    cases gk with
    | zero => exact absurd HA.out (by simp [sacristanlaw25_turned.l0])
    | succ k1 =>
      have H := HA.out
      clear HA
      simp only [sacristanlaw25_turned.l0] at H
      by_cases c3 : x6_1 < (l0.length : Int)
      · rw [if_pos c3] at H
        have c3b0 : decide (x6_1 < (l0.length : Int)) = true := decide_eq_true c3
        clear c3
        by_cases c4 : (l0.length : Int) = 0
        · rw [if_pos c4] at H
          exact absurd H (by simp)
        · rw [if_neg c4] at H
          have c4b0 : ((l0.length : Int) == 0) = false := beq_eq_false_iff_ne.mpr c4
          have c4b1 : ((l0.length : Int) != 0) = true := bne_iff_ne.mpr c4
          have c4b2 : ¬ (l0 = []) := fun h_ => c4 (by rw [h_]; rfl)
          obtain ⟨ji5, hji5⟩ : ∃ j_ : Int, (Int.tmod (wrap64 (x6_1 + (wrap64 (a1)))) (l0.length : Int)) = j_ := ⟨_, rfl⟩
          replace H : (if 0 ≤ (ji5) then (if (ji5) < (l0.length : Int) then ((some (([(⟨8, (rd_T29 l0 (ji5)).f1, wrap64 (((rd_T29 l0 (ji5)).f2) + (wrap64 (Int.tmod a1 3))), (rd_T29 l0 (ji5)).f3, (rd_T29 l0 (ji5)).f4⟩ : S29), (⟨(rd_T29 l0 (ji5)).f0, (rd_T29 l0 (ji5)).f1, (rd_T29 l0 (ji5)).f2, (rd_T29 l0 (ji5)).f3, (rd_T29 l0 (ji5)).f4⟩ : S29)] : List (S29)) : List (S29))).bind fun y108 => (if x5_1.length + y108.length < 2932031007402 then (sacristanlaw25_turned.l0 k1 l0 a1 (x5_1 ++ y108) (wrap64 (x6_1 + 1))) else (none))) else (none)) else (none)) = some r := by first | (rw [hji5] at H; exact H) | (simp only [hji5] at H ⊢; exact H)
          by_cases c6 : 0 ≤ (ji5)
          · rw [if_pos c6] at H
            have c6b0 : decide (0 ≤ (ji5)) = true := decide_eq_true c6
            clear c6
            by_cases c7 : (ji5) < (l0.length : Int)
            · rw [if_pos c7] at H
              have c7b0 : decide ((ji5) < (l0.length : Int)) = true := decide_eq_true c7
              clear c7
              obtain ⟨y108, hy108⟩ : ∃ y_ : List (S29), y_ = (([(⟨8, (rd_T29 l0 (ji5)).f1, wrap64 (((rd_T29 l0 (ji5)).f2) + (wrap64 (Int.tmod a1 3))), (rd_T29 l0 (ji5)).f3, (rd_T29 l0 (ji5)).f4⟩ : S29), (⟨(rd_T29 l0 (ji5)).f0, (rd_T29 l0 (ji5)).f1, (rd_T29 l0 (ji5)).f2, (rd_T29 l0 (ji5)).f3, (rd_T29 l0 (ji5)).f4⟩ : S29)] : List (S29))) := ⟨_, rfl⟩
              replace H : (if x5_1.length + y108.length < 2932031007402 then (sacristanlaw25_turned.l0 k1 l0 a1 (x5_1 ++ y108) (wrap64 (x6_1 + 1))) else (none)) = some r := by first | (rw [hy108]; with_reducible exact H) | (have H2_ := (Option.bind_some _ _).symm.trans H; rw [hy108]; with_reducible exact H2_) | (have H2_ := (Option.bind_some _ _).symm.trans H; with_reducible exact H2_) | with_reducible exact H | (rw [hy108]; exact H) | exact H
              have Ny108 := Aside0.mk hy108
              clear hy108
              by_cases c8 : x5_1.length + y108.length < 2932031007402
              · rw [if_pos c8] at H
                have LMc8 := Aside0.mk c8
                clear c8
                obtain ⟨y111, hy111⟩ : ∃ y_ : List (S29), y_ = (x5_1 ++ y108) := ⟨_, rfl⟩
                replace H : (sacristanlaw25_turned.l0 k1 l0 a1 y111 (wrap64 (x6_1 + 1))) = some r := by first | (rw [hy111]; with_reducible exact H) | (have H2_ := (Option.bind_some _ _).symm.trans H; rw [hy111]; with_reducible exact H2_) | (have H2_ := (Option.bind_some _ _).symm.trans H; with_reducible exact H2_) | with_reducible exact H | (rw [hy111]; exact H) | exact H
                have Ny111 := Aside0.mk hy111
                clear hy111
                have H' := Aside0.mk H
                clear H
                have p105 : 0 ≤ ((ji5) : Int) := of_decide_eq_true (by first | (with_reducible assumption) | assumption)
                have q105 : (ji5) < (l0.length : Int) := of_decide_eq_true (by first | (with_reducible assumption) | assumption)
                obtain ⟨ad105, e105, hx105_0, hx105_1, hx105_2, hx105_3, hx105_4⟩ := at_T29 HR0.out (ji5) p105 q105
                cases e105
                replace hx105_0 := (HB.out.cell (World.block_lt_of_cell? w _ hx105_0)).trans hx105_0
                replace hx105_1 := (HB.out.cell (World.block_lt_of_cell? w _ hx105_1)).trans hx105_1
                replace hx105_2 := (HB.out.cell (World.block_lt_of_cell? w _ hx105_2)).trans hx105_2
                replace hx105_3 := (HB.out.cell (World.block_lt_of_cell? w _ hx105_3)).trans hx105_3
                replace hx105_4 := (HB.out.cell (World.block_lt_of_cell? w _ hx105_4)).trans hx105_4
                replace p105 := eq_true p105
                replace q105 := eq_true q105
                try go_wp2_with (first | ((with_reducible refine gate_dst (N := 7) rfl ?_); refine box_event ?hg (N := 7) ?hd (cs := #[.int .i64 0, .int .i64 0, .int .i64 0, .int .i64 0, .string (⟨#[]⟩ : ByteArray)]) (t := 29) ?hr ?_; (case hd => rfl); (case hg => rfl); (case hr => first | (go_simp; done) | (go_simp; rfl)); intro gb106 hg w9 hbox hb; have n0_ := Aside0.mk (Kd.R_below (Kd.R_elderB (by (with_reducible repeat (first | apply Kd.R_alloc | apply Kd.R_drewN | apply Kd.R_drew)); exact HO_5.out) gb106 (Nat.le_of_eq hg.symm)) hb); have n1_ := Aside0.mk (below_step (by repeat (first | (with_reducible first | exact HB.out | apply below_alloc | apply pw_below_drewN | apply below_drew1) | exact HB.out)) hb); have n2_ := Aside0.mk (hbox); have n3_ := Aside0.mk ((by rw [hg]; exact (below_size (by repeat (first | (with_reducible first | exact HB.out | apply below_alloc | apply pw_below_drewN | apply below_drew1) | exact HB.out))) : w.heap.size ≤ gb106)); have n4_ := Aside0.mk ((by rw [hg]; exact (below_size (by repeat (first | (with_reducible first | exact HB.out | apply below_alloc | apply pw_below_drewN | apply below_drew1) | exact HB.out))) : w.heap.size ≤ gb106)); clear HO_5; clear HB; have HO_5 := n0_; have HB := n1_; have BK106 := n2_; have GW106 := n3_; have GE106 := n4_; clear n0_ n1_ n2_ n3_ n4_; clear hb hbox hg; have hcz10_0 : w9.cell? ⟨gb106, 0, none⟩ = some (.int .i64 0) := (blk_cell BK106.out 0).trans rfl; have hcz10_1 : w9.cell? ⟨gb106, 1, none⟩ = some (.int .i64 0) := (blk_cell BK106.out 1).trans rfl; have hcz10_2 : w9.cell? ⟨gb106, 2, none⟩ = some (.int .i64 0) := (blk_cell BK106.out 2).trans rfl; have hcz10_3 : w9.cell? ⟨gb106, 3, none⟩ = some (.int .i64 0) := (blk_cell BK106.out 3).trans rfl; have hcz10_4 : w9.cell? ⟨gb106, 4, none⟩ = some (.string (⟨#[]⟩ : ByteArray)) := (blk_cell BK106.out 4).trans rfl; have hfz10_0 := blk_frozen BK106.out 0; have hfz10_1 := blk_frozen BK106.out 1; have hfz10_2 := blk_frozen BK106.out 2; have hfz10_3 := blk_frozen BK106.out 3; have hfz10_4 := blk_frozen BK106.out 4) | ((with_reducible refine gate_dst (N := 8) rfl ?_); refine box_event ?hg (N := 8) ?hd (cs := #[.int .i64 0, .int .i64 0, .int .i64 0, .int .i64 0, .string (⟨#[]⟩ : ByteArray)]) (t := 29) ?hr ?_; (case hd => rfl); (case hg => rfl); (case hr => first | (go_simp; done) | (go_simp; rfl)); intro gb107 hg w11 hbox hb; have n0_ := Aside0.mk (Kd.R_below (Kd.R_elderB (by (with_reducible repeat (first | apply Kd.R_alloc | apply Kd.R_drewN | apply Kd.R_drew)); exact (Kd.R_mono (Kd.R_far (p := ⟨gb106, 4, none⟩) (Kd.R_far (p := ⟨gb106, 3, none⟩) (Kd.R_far (p := ⟨gb106, 2, none⟩) (Kd.R_far (p := ⟨gb106, 1, none⟩) (Kd.R_far (p := ⟨gb106, 0, none⟩) (Kd.R_mono HO_5.out (fun k_ hk => (⟨hk, hk.2⟩ : _ ∧ k_ ≠ gb106))) (fun _ hk => hk.2) (.int .i64 ((rd_T29 l0 (ji5)).f0))) (fun _ hk => hk.2) (.int .i64 ((rd_T29 l0 (ji5)).f1))) (fun _ hk => hk.2) (.int .i64 ((rd_T29 l0 (ji5)).f2))) (fun _ hk => hk.2) (.int .i64 ((rd_T29 l0 (ji5)).f3))) (fun _ hk => hk.2) (.string ((rd_T29 l0 (ji5)).f4))) (fun _ h_ => h_.1))) gb107 (Nat.le_of_eq hg.symm)) hb); have n1_ := Aside0.mk (blk_below (g := gb106) (o := .cells #[.int .i64 ((rd_T29 l0 (ji5)).f0), .int .i64 ((rd_T29 l0 (ji5)).f1), .int .i64 ((rd_T29 l0 (ji5)).f2), .int .i64 ((rd_T29 l0 (ji5)).f3), .string ((rd_T29 l0 (ji5)).f4)] 29 (0, 0)) (by (with_reducible repeat (first | refine blk_drewN ?_ _ | refine blk_drew ?_ | refine blk_alloc ?_ _)); refine blk_put (cs := #[.int .i64 ((rd_T29 l0 (ji5)).f0), .int .i64 ((rd_T29 l0 (ji5)).f1), .int .i64 ((rd_T29 l0 (ji5)).f2), .int .i64 ((rd_T29 l0 (ji5)).f3), .string (⟨#[]⟩ : ByteArray)]) ?_ 4 _ rfl; (with_reducible repeat (first | refine blk_drewN ?_ _ | refine blk_drew ?_ | refine blk_alloc ?_ _)); refine blk_put (cs := #[.int .i64 ((rd_T29 l0 (ji5)).f0), .int .i64 ((rd_T29 l0 (ji5)).f1), .int .i64 ((rd_T29 l0 (ji5)).f2), .int .i64 0, .string (⟨#[]⟩ : ByteArray)]) ?_ 3 _ rfl; (with_reducible repeat (first | refine blk_drewN ?_ _ | refine blk_drew ?_ | refine blk_alloc ?_ _)); refine blk_put (cs := #[.int .i64 ((rd_T29 l0 (ji5)).f0), .int .i64 ((rd_T29 l0 (ji5)).f1), .int .i64 0, .int .i64 0, .string (⟨#[]⟩ : ByteArray)]) ?_ 2 _ rfl; (with_reducible repeat (first | refine blk_drewN ?_ _ | refine blk_drew ?_ | refine blk_alloc ?_ _)); refine blk_put (cs := #[.int .i64 ((rd_T29 l0 (ji5)).f0), .int .i64 0, .int .i64 0, .int .i64 0, .string (⟨#[]⟩ : ByteArray)]) ?_ 1 _ rfl; (with_reducible repeat (first | refine blk_drewN ?_ _ | refine blk_drew ?_ | refine blk_alloc ?_ _)); refine blk_put (cs := #[.int .i64 0, .int .i64 0, .int .i64 0, .int .i64 0, .string (⟨#[]⟩ : ByteArray)]) ?_ 0 _ rfl; (with_reducible repeat (first | refine blk_drewN ?_ _ | refine blk_drew ?_ | refine blk_alloc ?_ _)); exact BK106.out) hb); have n2_ := Aside0.mk (below_step (by repeat (first | (with_reducible first | exact HB.out | apply below_alloc | apply pw_below_drewN | apply below_drew1 | refine below_set ?_ GE106.out) | exact HB.out)) hb); have n3_ := Aside0.mk (hbox); have n4_ := Aside0.mk ((by rw [hg]; exact (below_size (by repeat (first | (with_reducible first | exact HB.out | apply below_alloc | apply pw_below_drewN | apply below_drew1 | refine below_set ?_ GE106.out) | exact HB.out))) : w.heap.size ≤ gb107)); have n5_ := Aside0.mk ((by rw [hg]; exact (below_size (by repeat (first | (with_reducible first | exact HB.out | apply below_alloc | apply pw_below_drewN | apply below_drew1 | refine below_set ?_ GE106.out) | exact HB.out))) : w.heap.size ≤ gb107)); have n6_ := Aside0.mk ((by rw [hg]; exact Nat.ne_of_lt (blk_lt (g := gb106) (o := .cells #[.int .i64 ((rd_T29 l0 (ji5)).f0), .int .i64 ((rd_T29 l0 (ji5)).f1), .int .i64 ((rd_T29 l0 (ji5)).f2), .int .i64 ((rd_T29 l0 (ji5)).f3), .string ((rd_T29 l0 (ji5)).f4)] 29 (0, 0)) (by (with_reducible repeat (first | refine blk_drewN ?_ _ | refine blk_drew ?_ | refine blk_alloc ?_ _)); refine blk_put (cs := #[.int .i64 ((rd_T29 l0 (ji5)).f0), .int .i64 ((rd_T29 l0 (ji5)).f1), .int .i64 ((rd_T29 l0 (ji5)).f2), .int .i64 ((rd_T29 l0 (ji5)).f3), .string (⟨#[]⟩ : ByteArray)]) ?_ 4 _ rfl; (with_reducible repeat (first | refine blk_drewN ?_ _ | refine blk_drew ?_ | refine blk_alloc ?_ _)); refine blk_put (cs := #[.int .i64 ((rd_T29 l0 (ji5)).f0), .int .i64 ((rd_T29 l0 (ji5)).f1), .int .i64 ((rd_T29 l0 (ji5)).f2), .int .i64 0, .string (⟨#[]⟩ : ByteArray)]) ?_ 3 _ rfl; (with_reducible repeat (first | refine blk_drewN ?_ _ | refine blk_drew ?_ | refine blk_alloc ?_ _)); refine blk_put (cs := #[.int .i64 ((rd_T29 l0 (ji5)).f0), .int .i64 ((rd_T29 l0 (ji5)).f1), .int .i64 0, .int .i64 0, .string (⟨#[]⟩ : ByteArray)]) ?_ 2 _ rfl; (with_reducible repeat (first | refine blk_drewN ?_ _ | refine blk_drew ?_ | refine blk_alloc ?_ _)); refine blk_put (cs := #[.int .i64 ((rd_T29 l0 (ji5)).f0), .int .i64 0, .int .i64 0, .int .i64 0, .string (⟨#[]⟩ : ByteArray)]) ?_ 1 _ rfl; (with_reducible repeat (first | refine blk_drewN ?_ _ | refine blk_drew ?_ | refine blk_alloc ?_ _)); refine blk_put (cs := #[.int .i64 0, .int .i64 0, .int .i64 0, .int .i64 0, .string (⟨#[]⟩ : ByteArray)]) ?_ 0 _ rfl; (with_reducible repeat (first | refine blk_drewN ?_ _ | refine blk_drew ?_ | refine blk_alloc ?_ _)); exact BK106.out)) : gb106 ≠ gb107)); have n7_ := Aside0.mk ((by rw [hg]; exact Nat.ne_of_gt (blk_lt (g := gb106) (o := .cells #[.int .i64 ((rd_T29 l0 (ji5)).f0), .int .i64 ((rd_T29 l0 (ji5)).f1), .int .i64 ((rd_T29 l0 (ji5)).f2), .int .i64 ((rd_T29 l0 (ji5)).f3), .string ((rd_T29 l0 (ji5)).f4)] 29 (0, 0)) (by (with_reducible repeat (first | refine blk_drewN ?_ _ | refine blk_drew ?_ | refine blk_alloc ?_ _)); refine blk_put (cs := #[.int .i64 ((rd_T29 l0 (ji5)).f0), .int .i64 ((rd_T29 l0 (ji5)).f1), .int .i64 ((rd_T29 l0 (ji5)).f2), .int .i64 ((rd_T29 l0 (ji5)).f3), .string (⟨#[]⟩ : ByteArray)]) ?_ 4 _ rfl; (with_reducible repeat (first | refine blk_drewN ?_ _ | refine blk_drew ?_ | refine blk_alloc ?_ _)); refine blk_put (cs := #[.int .i64 ((rd_T29 l0 (ji5)).f0), .int .i64 ((rd_T29 l0 (ji5)).f1), .int .i64 ((rd_T29 l0 (ji5)).f2), .int .i64 0, .string (⟨#[]⟩ : ByteArray)]) ?_ 3 _ rfl; (with_reducible repeat (first | refine blk_drewN ?_ _ | refine blk_drew ?_ | refine blk_alloc ?_ _)); refine blk_put (cs := #[.int .i64 ((rd_T29 l0 (ji5)).f0), .int .i64 ((rd_T29 l0 (ji5)).f1), .int .i64 0, .int .i64 0, .string (⟨#[]⟩ : ByteArray)]) ?_ 2 _ rfl; (with_reducible repeat (first | refine blk_drewN ?_ _ | refine blk_drew ?_ | refine blk_alloc ?_ _)); refine blk_put (cs := #[.int .i64 ((rd_T29 l0 (ji5)).f0), .int .i64 0, .int .i64 0, .int .i64 0, .string (⟨#[]⟩ : ByteArray)]) ?_ 1 _ rfl; (with_reducible repeat (first | refine blk_drewN ?_ _ | refine blk_drew ?_ | refine blk_alloc ?_ _)); refine blk_put (cs := #[.int .i64 0, .int .i64 0, .int .i64 0, .int .i64 0, .string (⟨#[]⟩ : ByteArray)]) ?_ 0 _ rfl; (with_reducible repeat (first | refine blk_drewN ?_ _ | refine blk_drew ?_ | refine blk_alloc ?_ _)); exact BK106.out)) : gb107 ≠ gb106)); clear HO_5; clear BK106; clear HB; have HO_5 := n0_; have BK106 := n1_; have HB := n2_; have BK107 := n3_; have GW107 := n4_; have GE107 := n5_; have NB106_107 := n6_; have NB107_106 := n7_; clear n0_ n1_ n2_ n3_ n4_ n5_ n6_ n7_; clear hb hbox hg; have hnb12 := NB107_106.out; have hnc12 := NB106_107.out; have hcz13_0 : w11.cell? ⟨gb107, 0, none⟩ = some (.int .i64 0) := (blk_cell BK107.out 0).trans rfl; have hcz13_1 : w11.cell? ⟨gb107, 1, none⟩ = some (.int .i64 0) := (blk_cell BK107.out 1).trans rfl; have hcz13_2 : w11.cell? ⟨gb107, 2, none⟩ = some (.int .i64 0) := (blk_cell BK107.out 2).trans rfl; have hcz13_3 : w11.cell? ⟨gb107, 3, none⟩ = some (.int .i64 0) := (blk_cell BK107.out 3).trans rfl; have hcz13_4 : w11.cell? ⟨gb107, 4, none⟩ = some (.string (⟨#[]⟩ : ByteArray)) := (blk_cell BK107.out 4).trans rfl; have hfz13_0 := blk_frozen BK107.out 0; have hfz13_1 := blk_frozen BK107.out 1; have hfz13_2 := blk_frozen BK107.out 2; have hfz13_3 := blk_frozen BK107.out 3; have hfz13_4 := blk_frozen BK107.out 4))
                have n0_ : Aside0 (Kd.R k29 29 (((((w11.setCell ⟨gb107, 0, none⟩ (.int .i64 ((rd_T29 l0 (ji5)).f0))).setCell ⟨gb107, 1, none⟩ (.int .i64 ((rd_T29 l0 (ji5)).f1))).setCell ⟨gb107, 2, none⟩ (.int .i64 ((rd_T29 l0 (ji5)).f2))).setCell ⟨gb107, 3, none⟩ (.int .i64 ((rd_T29 l0 (ji5)).f3))).setCell ⟨gb107, 4, none⟩ (.string ((rd_T29 l0 (ji5)).f4))) w.heap.size (fun k_ => k_ ≠ gb106 ∧ k_ ≠ gb107) u5 x5_1) := ⟨by (with_reducible repeat (first | apply Kd.R_alloc | apply Kd.R_drewN | apply Kd.R_drew)); exact Kd.R_mono (Kd.R_far (p := ⟨gb107, 4, none⟩) (Kd.R_far (p := ⟨gb107, 3, none⟩) (Kd.R_far (p := ⟨gb107, 2, none⟩) (Kd.R_far (p := ⟨gb107, 1, none⟩) (Kd.R_far (p := ⟨gb107, 0, none⟩) (Kd.R_mono HO_5.out (fun k_ hk => (⟨hk, hk.2⟩ : _ ∧ k_ ≠ gb107))) (fun _ hk => hk.2) (.int .i64 ((rd_T29 l0 (ji5)).f0))) (fun _ hk => hk.2) (.int .i64 ((rd_T29 l0 (ji5)).f1))) (fun _ hk => hk.2) (.int .i64 ((rd_T29 l0 (ji5)).f2))) (fun _ hk => hk.2) (.int .i64 ((rd_T29 l0 (ji5)).f3))) (fun _ hk => hk.2) (.string ((rd_T29 l0 (ji5)).f4))) (fun _ hk => ⟨hk.1.1.2, hk.1.2⟩)⟩
                have n1_ : Aside0 ((((((w11.setCell ⟨gb107, 0, none⟩ (.int .i64 ((rd_T29 l0 (ji5)).f0))).setCell ⟨gb107, 1, none⟩ (.int .i64 ((rd_T29 l0 (ji5)).f1))).setCell ⟨gb107, 2, none⟩ (.int .i64 ((rd_T29 l0 (ji5)).f2))).setCell ⟨gb107, 3, none⟩ (.int .i64 ((rd_T29 l0 (ji5)).f3))).setCell ⟨gb107, 4, none⟩ (.string ((rd_T29 l0 (ji5)).f4))).heap[gb106]? = some (.cells #[.int .i64 ((rd_T29 l0 (ji5)).f0), .int .i64 ((rd_T29 l0 (ji5)).f1), .int .i64 ((rd_T29 l0 (ji5)).f2), .int .i64 ((rd_T29 l0 (ji5)).f3), .string ((rd_T29 l0 (ji5)).f4)] 29 (0, 0))) := ⟨by (with_reducible repeat (first | refine blk_drewN ?_ _ | refine blk_drew ?_ | refine blk_alloc ?_ _)); refine blk_far ?_ NB106_107.out _; (with_reducible repeat (first | refine blk_drewN ?_ _ | refine blk_drew ?_ | refine blk_alloc ?_ _)); refine blk_far ?_ NB106_107.out _; (with_reducible repeat (first | refine blk_drewN ?_ _ | refine blk_drew ?_ | refine blk_alloc ?_ _)); refine blk_far ?_ NB106_107.out _; (with_reducible repeat (first | refine blk_drewN ?_ _ | refine blk_drew ?_ | refine blk_alloc ?_ _)); refine blk_far ?_ NB106_107.out _; (with_reducible repeat (first | refine blk_drewN ?_ _ | refine blk_drew ?_ | refine blk_alloc ?_ _)); refine blk_far ?_ NB106_107.out _; (with_reducible repeat (first | refine blk_drewN ?_ _ | refine blk_drew ?_ | refine blk_alloc ?_ _)); exact BK106.out⟩
                have n2_ : Aside0 ((((((w11.setCell ⟨gb107, 0, none⟩ (.int .i64 ((rd_T29 l0 (ji5)).f0))).setCell ⟨gb107, 1, none⟩ (.int .i64 ((rd_T29 l0 (ji5)).f1))).setCell ⟨gb107, 2, none⟩ (.int .i64 ((rd_T29 l0 (ji5)).f2))).setCell ⟨gb107, 3, none⟩ (.int .i64 ((rd_T29 l0 (ji5)).f3))).setCell ⟨gb107, 4, none⟩ (.string ((rd_T29 l0 (ji5)).f4))).heap[gb107]? = some (.cells #[.int .i64 ((rd_T29 l0 (ji5)).f0), .int .i64 ((rd_T29 l0 (ji5)).f1), .int .i64 ((rd_T29 l0 (ji5)).f2), .int .i64 ((rd_T29 l0 (ji5)).f3), .string ((rd_T29 l0 (ji5)).f4)] 29 (0, 0))) := ⟨by (with_reducible repeat (first | refine blk_drewN ?_ _ | refine blk_drew ?_ | refine blk_alloc ?_ _)); refine blk_put (cs := #[.int .i64 ((rd_T29 l0 (ji5)).f0), .int .i64 ((rd_T29 l0 (ji5)).f1), .int .i64 ((rd_T29 l0 (ji5)).f2), .int .i64 ((rd_T29 l0 (ji5)).f3), .string (⟨#[]⟩ : ByteArray)]) ?_ 4 _ rfl; (with_reducible repeat (first | refine blk_drewN ?_ _ | refine blk_drew ?_ | refine blk_alloc ?_ _)); refine blk_put (cs := #[.int .i64 ((rd_T29 l0 (ji5)).f0), .int .i64 ((rd_T29 l0 (ji5)).f1), .int .i64 ((rd_T29 l0 (ji5)).f2), .int .i64 0, .string (⟨#[]⟩ : ByteArray)]) ?_ 3 _ rfl; (with_reducible repeat (first | refine blk_drewN ?_ _ | refine blk_drew ?_ | refine blk_alloc ?_ _)); refine blk_put (cs := #[.int .i64 ((rd_T29 l0 (ji5)).f0), .int .i64 ((rd_T29 l0 (ji5)).f1), .int .i64 0, .int .i64 0, .string (⟨#[]⟩ : ByteArray)]) ?_ 2 _ rfl; (with_reducible repeat (first | refine blk_drewN ?_ _ | refine blk_drew ?_ | refine blk_alloc ?_ _)); refine blk_put (cs := #[.int .i64 ((rd_T29 l0 (ji5)).f0), .int .i64 0, .int .i64 0, .int .i64 0, .string (⟨#[]⟩ : ByteArray)]) ?_ 1 _ rfl; (with_reducible repeat (first | refine blk_drewN ?_ _ | refine blk_drew ?_ | refine blk_alloc ?_ _)); refine blk_put (cs := #[.int .i64 0, .int .i64 0, .int .i64 0, .int .i64 0, .string (⟨#[]⟩ : ByteArray)]) ?_ 0 _ rfl; (with_reducible repeat (first | refine blk_drewN ?_ _ | refine blk_drew ?_ | refine blk_alloc ?_ _)); exact BK107.out⟩
                have n3_ : Aside0 (Below w.heap.size w (((((w11.setCell ⟨gb107, 0, none⟩ (.int .i64 ((rd_T29 l0 (ji5)).f0))).setCell ⟨gb107, 1, none⟩ (.int .i64 ((rd_T29 l0 (ji5)).f1))).setCell ⟨gb107, 2, none⟩ (.int .i64 ((rd_T29 l0 (ji5)).f2))).setCell ⟨gb107, 3, none⟩ (.int .i64 ((rd_T29 l0 (ji5)).f3))).setCell ⟨gb107, 4, none⟩ (.string ((rd_T29 l0 (ji5)).f4)))) := ⟨by repeat (first | (with_reducible first | exact HB.out | apply below_alloc | apply pw_below_drewN | apply below_drew1 | refine below_set ?_ GE106.out | refine below_set ?_ GE107.out) | exact HB.out)⟩
                (try clear HO_5)
                (try clear BK106)
                (try clear BK107)
                (try clear HB)
                generalize (((((w11.setCell ⟨gb107, 0, none⟩ (.int .i64 ((rd_T29 l0 (ji5)).f0))).setCell ⟨gb107, 1, none⟩ (.int .i64 ((rd_T29 l0 (ji5)).f1))).setCell ⟨gb107, 2, none⟩ (.int .i64 ((rd_T29 l0 (ji5)).f2))).setCell ⟨gb107, 3, none⟩ (.int .i64 ((rd_T29 l0 (ji5)).f3))).setCell ⟨gb107, 4, none⟩ (.string ((rd_T29 l0 (ji5)).f4))) = w14 at n0_ n1_ n2_ n3_ ⊢
                have HO_5 := n0_
                have BK106 := n1_
                have BK107 := n2_
                have HB := n3_
                clear n0_ n1_ n2_ n3_
                have n0_ := Aside0.mk (Kd.R_drew HO_5.out)
                have n1_ := Aside0.mk (blk_drew BK106.out)
                have n2_ := Aside0.mk (blk_drew BK107.out)
                have n3_ := Aside0.mk (below_drew1 HB.out)
                clear HO_5
                clear BK106
                clear BK107
                clear HB
                have HO_5 := n0_
                have BK106 := n1_
                have BK107 := n2_
                have HB := n3_
                clear n0_ n1_ n2_ n3_
                refine start_ (n := 10) (S := fun w' => w'.cell? ⟨gb106, 0, none⟩ = some (.int .i64 ((rd_T29 l0 (ji5)).f0)) ∧ w'.cell? ⟨gb106, 1, none⟩ = some (.int .i64 ((rd_T29 l0 (ji5)).f1)) ∧ w'.cell? ⟨gb106, 2, none⟩ = some (.int .i64 ((rd_T29 l0 (ji5)).f2)) ∧ w'.cell? ⟨gb106, 3, none⟩ = some (.int .i64 ((rd_T29 l0 (ji5)).f3)) ∧ w'.cell? ⟨gb106, 4, none⟩ = some (.string ((rd_T29 l0 (ji5)).f4))) (ds := []) #[false, false, false, false, false, false, false, false, false, false] (by kernel_rfl) rfl rfl ⟨(blk_cell BK106.out 0).trans rfl, (blk_cell BK106.out 1).trans rfl, (blk_cell BK106.out 2).trans rfl, (blk_cell BK106.out 3).trans rfl, (blk_cell BK106.out 4).trans rfl⟩ (fun hHeld => ?_); refine with_tabW sacristanlaw25_turned.tab7 sacristanlaw25_turned.bits7 (fun HT_ HW_ => ?_)
                generalize w14.drew = w15 at HO_5 BK106 BK107 HB hHeld ⊢
                refine pure_ (i := 0) (N := some 26) (v := ?_) (a' := ?_) #[true, false, false, false, false, false, false, false, false, false] rfl rfl (any_of HT_.out (by kernel_rfl)) (fun _ _ _ h => h) (Or.inl ⟨by rfl, ?_⟩) ?_ ?_
                rotate_left
                · intro w'
                  go_simp
                  with_reducible rfl
                rotate_left
                · simp only [Act.put, List.setIfInBounds_toArray, List.set_cons_zero, List.set_cons_succ, i64_w, i32_w]
                  rfl
                refine pure_ (i := 2) (N := some 28) (v := ?_) (a' := ?_) #[true, false, true, false, false, false, false, false, false, false] rfl rfl (any_of HT_.out (by kernel_rfl)) (fun _ _ _ h => h) (Or.inl ⟨by rfl, ?_⟩) ?_ ?_
                rotate_left
                · intro w'
                  go_simp
                  with_reducible rfl
                rotate_left
                · simp only [Act.put, List.setIfInBounds_toArray, List.set_cons_zero, List.set_cons_succ, i64_w, i32_w]
                  rfl
                refine pure_ (i := 3) (N := some 29) (v := ?_) (a' := ?_) #[true, false, true, true, false, false, false, false, false, false] rfl rfl (any_of HT_.out (by kernel_rfl)) (fun _ _ _ h => h) (Or.inl ⟨by rfl, ?_⟩) ?_ ?_
                rotate_left
                · intro w'
                  go_simp
                  with_reducible rfl
                rotate_left
                · simp only [Act.put, List.setIfInBounds_toArray, List.set_cons_zero, List.set_cons_succ, i64_w, i32_w]
                  rfl
                refine pure_ (i := 4) (N := some 30) (v := ?_) (a' := ?_) #[true, false, true, true, true, false, false, false, false, false] rfl rfl (any_of HT_.out (by kernel_rfl)) (fun _ _ _ h => h) (Or.inl ⟨by rfl, ?_⟩) ?_ ?_
                rotate_left
                · intro w'
                  go_simp
                  with_reducible rfl
                rotate_left
                · simp only [Act.put, List.setIfInBounds_toArray, List.set_cons_zero, List.set_cons_succ, i64_w, i32_w]
                  rfl
                refine pure_ (i := 6) (N := some 32) (v := ?_) (a' := ?_) #[true, false, true, true, true, false, true, false, false, false] rfl rfl (any_of HT_.out (by kernel_rfl)) (fun _ _ _ h => h) (Or.inl ⟨by rfl, ?_⟩) ?_ ?_
                rotate_left
                · intro w'
                  go_simp
                  with_reducible rfl
                rotate_left
                · simp only [Act.put, List.setIfInBounds_toArray, List.set_cons_zero, List.set_cons_succ, i64_w, i32_w]
                  rfl
                refine take_ (i := 1) (N := some 27) (v := ?_) (a' := ?_) #[true, true, true, true, true, false, true, false, false, false] rfl rfl (take_ofW HT_.out HW_.out (by kernel_rfl)) (fun _ _ _ h => h) (Or.inl ⟨by rfl, ?_⟩) hHeld ?_ ?_
                rotate_left
                · rintro w' ⟨s0, s1, s2, s3, s4⟩
                  go_simp
                  with_reducible rfl
                rotate_left
                · simp only [Act.put, List.setIfInBounds_toArray, List.set_cons_zero, List.set_cons_succ, i64_w, i32_w]
                  rfl
                refine pure_ (i := 5) (N := some 31) (v := ?_) (a' := ?_) #[true, true, true, true, true, true, true, false, false, false] rfl rfl (any_of HT_.out (by kernel_rfl)) (fun _ _ _ h => h) (Or.inl ⟨by rfl, ?_⟩) ?_ ?_
                rotate_left
                · intro w'
                  go_simp
                  with_reducible rfl
                rotate_left
                · simp only [Act.put, List.setIfInBounds_toArray, List.set_cons_zero, List.set_cons_succ, i64_w, i32_w]
                  rfl
                refine one_ (i := 7) (N := none) #[true, true, true, true, true, true, true, true, false, false] rfl rfl (one_of HT_.out (by kernel_rfl)) (by decide) (fun K hK => ?_)
                have hs16 : w15.cell? ⟨gb107, 0, none⟩ = some (.int .i64 ((rd_T29 l0 (ji5)).f0)) := (blk_cell BK107.out 0).trans rfl
                have hfs16 := blk_frozen BK107.out 0
                have hns16_0 := NB106_107.out
                have hms16_0 := NB107_106.out
                refine skip_ (w1 := ?_) (by rfl) rfl ?_ ?_
                rotate_left
                · go_simp
                  rfl
                refine hK.out _ _ ⟨((cell_far (p := ⟨gb107, _, none⟩) NB106_107.out _).trans (hHeld.1)), ((cell_far (p := ⟨gb107, _, none⟩) NB106_107.out _).trans (hHeld.2.1)), ((cell_far (p := ⟨gb107, _, none⟩) NB106_107.out _).trans (hHeld.2.2.1)), ((cell_far (p := ⟨gb107, _, none⟩) NB106_107.out _).trans (hHeld.2.2.2.1)), ((cell_far (p := ⟨gb107, _, none⟩) NB106_107.out _).trans (hHeld.2.2.2.2))⟩ (fun hHeld => ?_)
                clear hK K
                refine pure_ (i := 8) (N := some 33) (v := ?_) (a' := ?_) #[true, true, true, true, true, true, true, true, true, false] rfl rfl (any_of HT_.out (by kernel_rfl)) (fun _ _ _ h => h) (Or.inl ⟨by rfl, ?_⟩) ?_ ?_
                rotate_left
                · intro w'
                  go_simp
                  with_reducible rfl
                rotate_left
                · simp only [Act.put, List.setIfInBounds_toArray, List.set_cons_zero, List.set_cons_succ, i64_w, i32_w]
                  rfl
                refine one_ (i := 9) (N := none) #[true, true, true, true, true, true, true, true, true, true] rfl rfl (one_of HT_.out (by kernel_rfl)) (by decide) (fun K hK => ?_)
                have hs17 : w15.cell? ⟨gb107, 2, none⟩ = some (.int .i64 ((rd_T29 l0 (ji5)).f2)) := (blk_cell BK107.out 2).trans rfl
                have hfs17 := blk_frozen BK107.out 2
                have hns17_0 := NB106_107.out
                have hms17_0 := NB107_106.out
                refine skip_ (w1 := ?_) (by rfl) rfl ?_ ?_
                rotate_left
                · go_simp
                  rfl
                refine hK.out _ _ ⟨((cell_far (p := ⟨gb107, _, none⟩) NB106_107.out _).trans (hHeld.1)), ((cell_far (p := ⟨gb107, _, none⟩) NB106_107.out _).trans (hHeld.2.1)), ((cell_far (p := ⟨gb107, _, none⟩) NB106_107.out _).trans (hHeld.2.2.1)), ((cell_far (p := ⟨gb107, _, none⟩) NB106_107.out _).trans (hHeld.2.2.2.1)), ((cell_far (p := ⟨gb107, _, none⟩) NB106_107.out _).trans (hHeld.2.2.2.2))⟩ (fun hHeld => ?_)
                clear hK K
                refine done_ (done_of HT_.out (by kernel_rfl)) ?_
                have hcz18_0 : w15.cell? ⟨gb107, 0, none⟩ = some (.int .i64 ((rd_T29 l0 (ji5)).f0)) := (blk_cell BK107.out 0).trans rfl
                have hcz18_1 : w15.cell? ⟨gb107, 1, none⟩ = some (.int .i64 ((rd_T29 l0 (ji5)).f1)) := (blk_cell BK107.out 1).trans rfl
                have hcz18_2 : w15.cell? ⟨gb107, 2, none⟩ = some (.int .i64 ((rd_T29 l0 (ji5)).f2)) := (blk_cell BK107.out 2).trans rfl
                have hcz18_3 : w15.cell? ⟨gb107, 3, none⟩ = some (.int .i64 ((rd_T29 l0 (ji5)).f3)) := (blk_cell BK107.out 3).trans rfl
                have hcz18_4 : w15.cell? ⟨gb107, 4, none⟩ = some (.string ((rd_T29 l0 (ji5)).f4)) := (blk_cell BK107.out 4).trans rfl
                have hfz18_0 := blk_frozen BK107.out 0
                have hfz18_1 := blk_frozen BK107.out 1
                have hfz18_2 := blk_frozen BK107.out 2
                have hfz18_3 := blk_frozen BK107.out 3
                have hfz18_4 := blk_frozen BK107.out 4
                have hcz19_0 : w15.cell? ⟨gb106, 0, none⟩ = some (.int .i64 ((rd_T29 l0 (ji5)).f0)) := (blk_cell BK106.out 0).trans rfl
                have hcz19_1 : w15.cell? ⟨gb106, 1, none⟩ = some (.int .i64 ((rd_T29 l0 (ji5)).f1)) := (blk_cell BK106.out 1).trans rfl
                have hcz19_2 : w15.cell? ⟨gb106, 2, none⟩ = some (.int .i64 ((rd_T29 l0 (ji5)).f2)) := (blk_cell BK106.out 2).trans rfl
                have hcz19_3 : w15.cell? ⟨gb106, 3, none⟩ = some (.int .i64 ((rd_T29 l0 (ji5)).f3)) := (blk_cell BK106.out 3).trans rfl
                have hcz19_4 : w15.cell? ⟨gb106, 4, none⟩ = some (.string ((rd_T29 l0 (ji5)).f4)) := (blk_cell BK106.out 4).trans rfl
                have hfz19_0 := blk_frozen BK106.out 0
                have hfz19_1 := blk_frozen BK106.out 1
                have hfz19_2 := blk_frozen BK106.out 2
                have hfz19_3 := blk_frozen BK106.out 3
                have hfz19_4 := blk_frozen BK106.out 4
                try go_wp2_with (first | ((with_reducible refine gate_dst (N := 37) rfl ?_); refine Kd.R_lit k29 _ 29 ?hg (N := 37) ?hd (xs := ([(⟨8, (rd_T29 l0 (ji5)).f1, wrap64 (((rd_T29 l0 (ji5)).f2) + (wrap64 (Int.tmod a1 3))), (rd_T29 l0 (ji5)).f3, (rd_T29 l0 (ji5)).f4⟩ : S29), (⟨(rd_T29 l0 (ji5)).f0, (rd_T29 l0 (ji5)).f1, (rd_T29 l0 (ji5)).f2, (rd_T29 l0 (ji5)).f3, (rd_T29 l0 (ji5)).f4⟩ : S29)] : List (S29))) (inner := [.int .i64 8, .int .i64 ((rd_T29 l0 (ji5)).f1), .int .i64 (wrap64 (((rd_T29 l0 (ji5)).f2) + (wrap64 (Int.tmod a1 3)))), .int .i64 ((rd_T29 l0 (ji5)).f3), .string ((rd_T29 l0 (ji5)).f4), .int .i64 ((rd_T29 l0 (ji5)).f0), .int .i64 ((rd_T29 l0 (ji5)).f1), .int .i64 ((rd_T29 l0 (ji5)).f2), .int .i64 ((rd_T29 l0 (ji5)).f3), .string ((rd_T29 l0 (ji5)).f4)]) (ok := fun _ => True) (okp := fun _ => True) ?hr ?hp (fun _ hk => hk) trivial (Below.refl _ _) (Nat.le_refl _) (by simp) ?_; (case hd => rfl); (case hg => rfl); (case hr => first | (go_simp; done) | (go_simp; rfl)); (case hp => exact (Reps.c5 (show Kd.M k29 _ _ _ (⟨8, (rd_T29 l0 (ji5)).f1, wrap64 (((rd_T29 l0 (ji5)).f2) + (wrap64 (Int.tmod a1 3))), (rd_T29 l0 (ji5)).f3, (rd_T29 l0 (ji5)).f4⟩ : S29) [.int .i64 8, .int .i64 ((rd_T29 l0 (ji5)).f1), .int .i64 (wrap64 (((rd_T29 l0 (ji5)).f2) + (wrap64 (Int.tmod a1 3)))), .int .i64 ((rd_T29 l0 (ji5)).f3), .string ((rd_T29 l0 (ji5)).f4)] from (k29_mkM _ _ _ (⟨8, (rd_T29 l0 (ji5)).f1, wrap64 (((rd_T29 l0 (ji5)).f2) + (wrap64 (Int.tmod a1 3))), (rd_T29 l0 (ji5)).f3, (rd_T29 l0 (ji5)).f4⟩ : S29) )) (Reps.c5 (show Kd.M k29 _ _ _ (⟨(rd_T29 l0 (ji5)).f0, (rd_T29 l0 (ji5)).f1, (rd_T29 l0 (ji5)).f2, (rd_T29 l0 (ji5)).f3, (rd_T29 l0 (ji5)).f4⟩ : S29) [.int .i64 ((rd_T29 l0 (ji5)).f0), .int .i64 ((rd_T29 l0 (ji5)).f1), .int .i64 ((rd_T29 l0 (ji5)).f2), .int .i64 ((rd_T29 l0 (ji5)).f3), .string ((rd_T29 l0 (ji5)).f4)] from (k29_mkM _ _ _ (⟨(rd_T29 l0 (ji5)).f0, (rd_T29 l0 (ji5)).f1, (rd_T29 l0 (ji5)).f2, (rd_T29 l0 (ji5)).f3, (rd_T29 l0 (ji5)).f4⟩ : S29) )) (Reps.none _ _)))); intro v109 w20 ho21 hb hg_ hnew_; clear hg_ hnew_; (first | rw [← Ny108.out] at ho21 | (simp only [Int.reduceToNat] at ho21; rw [← Ny108.out] at ho21)); have n0_ := Aside0.mk (Kd.R_elder' (by (with_reducible repeat (first | apply Kd.R_alloc | apply Kd.R_drewN | apply Kd.R_drew)); exact (Kd.R_mono (Kd.R_far (p := ⟨gb107, 2, none⟩) (Kd.R_far (p := ⟨gb107, 0, none⟩) (Kd.R_mono HO_5.out (fun k_ hk => (⟨hk, hk.2⟩ : _ ∧ k_ ≠ gb107))) (fun _ hk => hk.2) (.int .i64 8)) (fun _ hk => hk.2) (.int .i64 (wrap64 (((rd_T29 l0 (ji5)).f2) + (wrap64 (Int.tmod a1 3)))))) (fun _ h_ => h_.1))) (Kd.R_base ho21) hb); have n1_ := Aside0.mk (Kd.R_lower (Kd.R_newB (Kd.R_newB (Kd.R_new' ho21 (Kd.R_lt (by (with_reducible repeat (first | apply Kd.R_alloc | apply Kd.R_drewN | apply Kd.R_drew)); exact (Kd.R_mono (Kd.R_far (p := ⟨gb107, 2, none⟩) (Kd.R_far (p := ⟨gb107, 0, none⟩) (Kd.R_mono HO_5.out (fun k_ hk => (⟨hk, hk.2⟩ : _ ∧ k_ ≠ gb107))) (fun _ hk => hk.2) (.int .i64 8)) (fun _ hk => hk.2) (.int .i64 (wrap64 (((rd_T29 l0 (ji5)).f2) + (wrap64 (Int.tmod a1 3)))))) (fun _ h_ => h_.1))))) (g := gb106) (o := .cells #[.int .i64 ((rd_T29 l0 (ji5)).f0), .int .i64 ((rd_T29 l0 (ji5)).f1), .int .i64 ((rd_T29 l0 (ji5)).f2), .int .i64 ((rd_T29 l0 (ji5)).f3), .string ((rd_T29 l0 (ji5)).f4)] 29 (0, 0)) (by (with_reducible repeat (first | refine blk_drewN ?_ _ | refine blk_drew ?_ | refine blk_alloc ?_ _)); refine blk_far ?_ NB106_107.out _; (with_reducible repeat (first | refine blk_drewN ?_ _ | refine blk_drew ?_ | refine blk_alloc ?_ _)); refine blk_far ?_ NB106_107.out _; (with_reducible repeat (first | refine blk_drewN ?_ _ | refine blk_drew ?_ | refine blk_alloc ?_ _)); exact BK106.out)) (g := gb107) (o := .cells #[.int .i64 8, .int .i64 ((rd_T29 l0 (ji5)).f1), .int .i64 (wrap64 (((rd_T29 l0 (ji5)).f2) + (wrap64 (Int.tmod a1 3)))), .int .i64 ((rd_T29 l0 (ji5)).f3), .string ((rd_T29 l0 (ji5)).f4)] 29 (0, 0)) (by (with_reducible repeat (first | refine blk_drewN ?_ _ | refine blk_drew ?_ | refine blk_alloc ?_ _)); refine blk_put (cs := #[.int .i64 8, .int .i64 ((rd_T29 l0 (ji5)).f1), .int .i64 ((rd_T29 l0 (ji5)).f2), .int .i64 ((rd_T29 l0 (ji5)).f3), .string ((rd_T29 l0 (ji5)).f4)]) ?_ 2 _ rfl; (with_reducible repeat (first | refine blk_drewN ?_ _ | refine blk_drew ?_ | refine blk_alloc ?_ _)); refine blk_put (cs := #[.int .i64 ((rd_T29 l0 (ji5)).f0), .int .i64 ((rd_T29 l0 (ji5)).f1), .int .i64 ((rd_T29 l0 (ji5)).f2), .int .i64 ((rd_T29 l0 (ji5)).f3), .string ((rd_T29 l0 (ji5)).f4)]) ?_ 0 _ rfl; (with_reducible repeat (first | refine blk_drewN ?_ _ | refine blk_drew ?_ | refine blk_alloc ?_ _)); exact BK107.out)) (below_size (by repeat (first | (with_reducible first | exact HB.out | apply below_alloc | apply pw_below_drewN | apply below_drew1 | refine below_set ?_ GE106.out | refine below_set ?_ GE107.out) | exact HB.out)))); have n2_ := Aside0.mk (blk_below (g := gb106) (o := .cells #[.int .i64 ((rd_T29 l0 (ji5)).f0), .int .i64 ((rd_T29 l0 (ji5)).f1), .int .i64 ((rd_T29 l0 (ji5)).f2), .int .i64 ((rd_T29 l0 (ji5)).f3), .string ((rd_T29 l0 (ji5)).f4)] 29 (0, 0)) (by (with_reducible repeat (first | refine blk_drewN ?_ _ | refine blk_drew ?_ | refine blk_alloc ?_ _)); refine blk_far ?_ NB106_107.out _; (with_reducible repeat (first | refine blk_drewN ?_ _ | refine blk_drew ?_ | refine blk_alloc ?_ _)); refine blk_far ?_ NB106_107.out _; (with_reducible repeat (first | refine blk_drewN ?_ _ | refine blk_drew ?_ | refine blk_alloc ?_ _)); exact BK106.out) hb); have n3_ := Aside0.mk (blk_below (g := gb107) (o := .cells #[.int .i64 8, .int .i64 ((rd_T29 l0 (ji5)).f1), .int .i64 (wrap64 (((rd_T29 l0 (ji5)).f2) + (wrap64 (Int.tmod a1 3)))), .int .i64 ((rd_T29 l0 (ji5)).f3), .string ((rd_T29 l0 (ji5)).f4)] 29 (0, 0)) (by (with_reducible repeat (first | refine blk_drewN ?_ _ | refine blk_drew ?_ | refine blk_alloc ?_ _)); refine blk_put (cs := #[.int .i64 8, .int .i64 ((rd_T29 l0 (ji5)).f1), .int .i64 ((rd_T29 l0 (ji5)).f2), .int .i64 ((rd_T29 l0 (ji5)).f3), .string ((rd_T29 l0 (ji5)).f4)]) ?_ 2 _ rfl; (with_reducible repeat (first | refine blk_drewN ?_ _ | refine blk_drew ?_ | refine blk_alloc ?_ _)); refine blk_put (cs := #[.int .i64 ((rd_T29 l0 (ji5)).f0), .int .i64 ((rd_T29 l0 (ji5)).f1), .int .i64 ((rd_T29 l0 (ji5)).f2), .int .i64 ((rd_T29 l0 (ji5)).f3), .string ((rd_T29 l0 (ji5)).f4)]) ?_ 0 _ rfl; (with_reducible repeat (first | refine blk_drewN ?_ _ | refine blk_drew ?_ | refine blk_alloc ?_ _)); exact BK107.out) hb); have n4_ := Aside0.mk (below_step (by repeat (first | (with_reducible first | exact HB.out | apply below_alloc | apply pw_below_drewN | apply below_drew1 | refine below_set ?_ GE106.out | refine below_set ?_ GE107.out) | exact HB.out)) hb); clear HO_5; clear BK106; clear BK107; clear HB; have HO_5 := n0_; have HO110 := n1_; have BK106 := n2_; have BK107 := n3_; have HB := n4_; clear n0_ n1_ n2_ n3_ n4_; clear hb ho21; obtain ⟨Ao23, co23, eo23⟩ := Kd.R_slice HO110.out; subst eo23) | ((with_reducible refine gate_builtin (b := .append) (xs := #[.tmp 34, .tmp 37]) rfl ?_); at_builtin; refine Kd.R_append_rows k29 (w0 := w) w.heap.size rfl (.tmp 34) (.tmp 37) 26 29 (.agg #[(.int .i64 0), (.int .i64 0), (.int .i64 0), (.int .i64 0), (.string ⟨#[]⟩)]) 48 rfl Try.underlying26 info29 rfl (by decide) (by omega) u5 x5_1 y108 _ _ _ (fun k_ => some k_ ≠ (.slice Ao23 y108.length co23 : Value).ownBlock ∧ k_ ≠ gb106 ∧ k_ ≠ gb107) (fun _ => False) rfl rfl ?aO ?aR (fun _ _ h => h) (fun _ h => h.elim) ?aF ?aB ?aS ?aL ?_; (case aR => repeat (first | exact (Kd.R_reads' HO110.out).2.2 | (with_reducible refine Kd.C_alloc ?_ _) | (with_reducible refine Kd.C_drewN ?_ _) | (with_reducible refine Kd.C_drew ?_))); (case aB => exact (by repeat (first | (with_reducible first | exact HB.out | apply below_alloc | apply pw_below_drewN | apply below_drew1 | refine below_set ?_ GE106.out | refine below_set ?_ GE107.out) | exact HB.out))); (case aF => exact (fun k_ hk => ⟨Kd.fresh' (Kd.R_lt (by (with_reducible repeat (first | apply Kd.R_alloc | apply Kd.R_drewN | apply Kd.R_drew)); exact HO110.out)) k_ hk, Kd.freshB (g := gb106) (o := .cells #[.int .i64 ((rd_T29 l0 (ji5)).f0), .int .i64 ((rd_T29 l0 (ji5)).f1), .int .i64 ((rd_T29 l0 (ji5)).f2), .int .i64 ((rd_T29 l0 (ji5)).f3), .string ((rd_T29 l0 (ji5)).f4)] 29 (0, 0)) (by (with_reducible repeat (first | refine blk_drewN ?_ _ | refine blk_drew ?_ | refine blk_alloc ?_ _)); exact BK106.out) k_ hk, Kd.freshB (g := gb107) (o := .cells #[.int .i64 8, .int .i64 ((rd_T29 l0 (ji5)).f1), .int .i64 (wrap64 (((rd_T29 l0 (ji5)).f2) + (wrap64 (Int.tmod a1 3)))), .int .i64 ((rd_T29 l0 (ji5)).f3), .string ((rd_T29 l0 (ji5)).f4)] 29 (0, 0)) (by (with_reducible repeat (first | refine blk_drewN ?_ _ | refine blk_drew ?_ | refine blk_alloc ?_ _)); exact BK107.out) k_ hk⟩)); (case aO => exact (by (with_reducible repeat (first | apply Kd.R_alloc | apply Kd.R_drewN | apply Kd.R_drew)); exact Kd.R_mono HO_5.out (fun _ hk => ⟨hk.2, ⟨hk.1.1, hk.1.2⟩⟩))); (case aS => exact (below_size (by repeat (first | (with_reducible first | exact HB.out | apply below_alloc | apply pw_below_drewN | apply below_drew1 | refine below_set ?_ GE106.out | refine below_set ?_ GE107.out) | exact HB.out)))); (case aL => have := LMc8.out; omega); intro v112 w22 ho hb hg hat; rw [← Ny111.out] at ho; have n0_ := Aside0.mk (blk_grown (g := gb106) (o := .cells #[.int .i64 ((rd_T29 l0 (ji5)).f0), .int .i64 ((rd_T29 l0 (ji5)).f1), .int .i64 ((rd_T29 l0 (ji5)).f2), .int .i64 ((rd_T29 l0 (ji5)).f3), .string ((rd_T29 l0 (ji5)).f4)] 29 (0, 0)) (by (with_reducible repeat (first | refine blk_drewN ?_ _ | refine blk_drew ?_ | refine blk_alloc ?_ _)); exact BK106.out) hg (Kd.R_away HO_5.out (fun _ hk => hk.1.1))); have n1_ := Aside0.mk (blk_grown (g := gb107) (o := .cells #[.int .i64 8, .int .i64 ((rd_T29 l0 (ji5)).f1), .int .i64 (wrap64 (((rd_T29 l0 (ji5)).f2) + (wrap64 (Int.tmod a1 3)))), .int .i64 ((rd_T29 l0 (ji5)).f3), .string ((rd_T29 l0 (ji5)).f4)] 29 (0, 0)) (by (with_reducible repeat (first | refine blk_drewN ?_ _ | refine blk_drew ?_ | refine blk_alloc ?_ _)); exact BK107.out) hg (Kd.R_away HO_5.out (fun _ hk => hk.1.2))); have n2_ := Aside0.mk (Kd.R_after (ok := (fun k_ => k_ ≠ gb106 ∧ k_ ≠ gb107)) (by (with_reducible repeat (first | apply Kd.R_alloc | apply Kd.R_drewN | apply Kd.R_drew)); exact Kd.R_mono HO110.out (fun _ hk => ⟨⟨hk.1.2, hk.2⟩, hk.1.1.2⟩)) hg hat); have n3_ := Aside0.mk (hb); have n4_ := Aside0.mk (ho); clear BK106; clear BK107; clear HO110; clear HB; clear HO_5; have BK106 := n0_; have BK107 := n1_; have HO110 := n2_; have HB := n3_; have HO113 := n4_; clear n0_ n1_ n2_ n3_ n4_; clear ho hb hg hat))
                go_roundg k1
                case measure => have := HK1.out; omega
                case rel => exact ⟨(y111), (wrap64 (x6_1 + 1)), (by first | rfl | (simp; done) | (simp [*]; done)), H', ⟨by have := HK1.out; omega⟩, ⟨by (with_reducible repeat (first | apply Kd.R_alloc | apply Kd.R_drewN | apply Kd.R_drew)); exact Kd.R_mono HO113.out (fun _ hk => trivial)⟩, ⟨by repeat (first | (with_reducible first | exact HB.out | apply below_alloc | apply pw_below_drewN | apply below_drew1 | refine below_set ?_ GE106.out | refine below_set ?_ GE107.out) | exact HB.out)⟩⟩
              · rw [if_neg c8] at H
                exact absurd H (by simp)
            · rw [if_neg c7] at H
              exact absurd H (by simp)
          · rw [if_neg c6] at H
            exact absurd H (by simp)
      · rw [if_neg c3] at H
        have c3b0 : decide (x6_1 < (l0.length : Int)) = false := decide_eq_false c3
        clear c3
        obtain rfl := Option.some.inj H
        go_wp2
        go_ret
        exact ⟨_, by first | rfl | (simp [errW_none, errW_some] <;> rfl) | (simp [*, errW_none, errW_some] <;> rfl), by (with_reducible repeat (first | apply Kd.R_alloc | apply Kd.R_drewN | apply Kd.R_drew)); exact HO_5.out, by repeat (first | (with_reducible first | exact HB.out | apply below_alloc | apply pw_below_drewN | apply below_drew1) | exact HB.out)⟩

end Go.Proofs.Ytndfeihlmhhgpaa.PW
