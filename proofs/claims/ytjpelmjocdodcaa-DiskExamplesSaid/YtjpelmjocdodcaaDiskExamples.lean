/- DiskExamples. -/
import Derived.Test.YtjpelmjocdodcaaDkEx
import Derived.Test.YtjpelmjocdodcaaDkNil
namespace Go.Proofs.Ytjpelmjocdodcaa
open Go.RowKit Go.ChangeMaps

theorem S_append3 : (⟨#[98, 98, 98]⟩ : ByteArray) ++ S ((exA.take 80).drop 3) = S exQ := by kernel_rfl
theorem S_append1 : S ((exB.take 79).drop 0) ++ (⟨#[0]⟩ : ByteArray) = S exR := by kernel_rfl
theorem row3 (w : World) (a b c : Int) : (w.alloc (.cells #[.int .i64 a, .int .i64 b, .int .i64 c] 3)).ownsRow 0 3 1 (.slice (some ⟨w.heap.size, 0, none⟩) 3 3) 3 (intsOf [a, b, c]) :=
  ⟨rfl, .inr ⟨w.heap.size, 3, _, rfl, Nat.zero_le _, alloc_new w _, Nat.le_refl _, by unfold maxLen; omega, rfl, rfl⟩⟩
set_option maxRecDepth 100000 in
set_option maxHeartbeats 8000000 in
theorem diskExamples_any (w : World) :
    Calls Try.prog 7 #[] w fun e w' => e = .returned (.bool true) ∧ Below w.heap.size w w' := by
  have HMA : Hid (∀ W : World, Calls Try.prog 28 #[.int .u8 97, .int .i64 80] W fun e w' => e = .returned (.string (S exA)) ∧ Below W.heap.size W w') := fun W => manyd_any 97 80 W (by omega)
  have HMB : Hid (∀ W : World, Calls Try.prog 28 #[.int .u8 98, .int .i64 80] W fun e w' => e = .returned (.string (S exB)) ∧ Below W.heap.size W w') := fun W => manyd_any 98 80 W (by omega)
  have hnew : Calls Try.prog 27 #[.int .i64 2] w fun e w' => ∃ x d f m v r g sb pv, e = .returned (.pointer (some ⟨x, 0, none⟩)) ∧ BothAt w w' x d f m v r g sb pv ex0 .idle ex0 .idle := newboth_ok 2 w (by omega) (by omega)
  go_enter Try.func7, Try.ntmps7
  go_wp2_with (fail)
  refine hnew.mono ?_
  rintro e w1 ⟨x, d, f, m, v, r, g, sb, pv, rfl, hB⟩
  have HB1 := Lib.hid hB
  clear hB hnew
  go_wp2_with (fail)
  refine (HMA.out _).mono ?_
  rintro e w2 ⟨rfl, b⟩
  have HB2 := Lib.hid (HB1.out.below b)
  clear b HB1
  go_wp2_with (fail)
  refine (HMB.out _).mono ?_
  rintro e w3 ⟨rfl, b⟩
  have HB3 := Lib.hid (HB2.out.below b)
  clear b HB2
  go_wp2_with (fail)
  refine (rdzeros_any _).mono ?_
  rintro e w4 ⟨rfl, b⟩
  have HB4 := Lib.hid (HB3.out.below b)
  have cx1 := HB4.out.x1
  clear b HB3
  go_wp2_with (fail)
  clear cx1
  refine (bx_write HB4.out (by decide) ex_w1).mono ?_
  rintro e w5 ⟨rfl, v5, h⟩
  have HB5 := Lib.hid h
  clear h HB4
  go_wp2_with (fail)
  refine (bx_write HB5.out (by decide) ex_w2).mono ?_
  rintro e w6 ⟨rfl, v6, h⟩
  have HB6 := Lib.hid h
  clear h HB5
  go_wp2_with (fail)
  refine (bx_write HB6.out (by decide) ex_w3).mono ?_
  rintro e w7 ⟨rfl, v7, h⟩
  have HB7 := Lib.hid h
  clear h HB6
  go_wp2_with (fail)
  refine (bx_pend HB7.out (by decide) (show pendNs ex3.P = [0, 1, 0] from rfl)).mono ?_
  rintro e w8 ⟨A8, cap8, rfl, o8, h⟩
  have HB8 := Lib.hid h
  have HO8 := Lib.hid o8
  clear h o8 HB7
  go_wp2_with (fail)
  have b9 := alloc_below w8 (.cells #[.int .i64 0, .int .i64 1, .int .i64 0] 3)
  refine (eqInts_same _ _ [0, 1, 0] (by decide) _ (row_keeps (S := fun _ => False) HO8.out (.of_below b9) (fun _ _ => id)) (row3 w8 0 1 0)).mono ?_
  rintro e w9 ⟨rfl, b⟩
  have HB9 := Lib.hid ((HB8.out.below b9).below b)
  clear b b9 HO8 HB8
  go_wp2_with (fail)
  refine (bx_dur HB9.out ex_d3).mono ?_
  rintro e w10 ⟨rfl, h⟩
  have HB10 := Lib.hid h
  clear h HB9
  go_wp2_with (fail)
  refine (bx_read HB10.out ex_r3).mono ?_
  rintro e w11 ⟨rfl, h⟩
  have HB11 := Lib.hid h
  have HA0 := Lib.hid (Hall.start w11)
  clear h HB10
  go_wp2_with (fail)
  refine (fnew_any w11).mono ?_
  rintro e w12 ⟨rfl, rfl⟩
  go_wp2_with (fail)
  refine (bx_copy HB11.out (by decide) HA0.out).mono ?_
  rintro e w13 ⟨dp, fp, mp, vp, rfl, h⟩
  have HA1 := Lib.hid h
  clear h HA0
  go_wp2_with (fail)
  refine (fnew_any w13).mono ?_
  rintro e w14 ⟨rfl, rfl⟩
  go_wp2_with (fail)
  refine (bx_copy HB11.out (by decide) HA1.out).mono ?_
  rintro e w15 ⟨dq, fq, mq, vq, rfl, h⟩
  have HA2 := Lib.hid h
  clear h HA1
  go_wp2_with (fail)
  refine (fnew_any w15).mono ?_
  rintro e w16 ⟨rfl, rfl⟩
  go_wp2_with (fail)
  refine (bx_copy HB11.out (by decide) HA2.out).mono ?_
  rintro e w17 ⟨dr, fr, mr, vr, rfl, h⟩
  have HA3 := Lib.hid h
  clear h HA2
  go_wp2_with (fail)
  refine (hx_crash HA3.out 2 rfl ex_p).mono ?_
  rintro e w18 ⟨rfl, h⟩
  have HA4 := Lib.hid h
  clear h HA3
  go_wp2_with (fail)
  refine (hx_crash HA4.out 1 rfl ex_q).mono ?_
  rintro e w19 ⟨rfl, h⟩
  have HA5 := Lib.hid h
  clear h HA4
  go_wp2_with (fail)
  refine (hx_crash HA5.out 0 rfl ex_r).mono ?_
  rintro e w20 ⟨rfl, h⟩
  have HA6 := Lib.hid h
  clear h HA5
  have hp0 := fun (W : World) (hW : Below w20.heap.size w20 W) => hx_dur (HA6.out.below hW) 2 rfl ex_dp0
  have hp1 := fun (W : World) (hW : Below w20.heap.size w20 W) => hx_dur (HA6.out.below hW) 2 rfl ex_dp1
  have hq0 := fun (W : World) (hW : Below w20.heap.size w20 W) => hx_dur (HA6.out.below hW) 1 rfl ex_dq0
  have hr1 := fun (W : World) (hW : Below w20.heap.size w20 W) => hx_dur (HA6.out.below hW) 0 rfl ex_dr1
  have hpq := fun (W : World) (hW : Below w20.heap.size w20 W) => hx_pend (HA6.out.below hW) 1 rfl (by decide) (show pendNs exq.P = [] from rfl)
  have HP0 := Lib.hid hp0
  have HP1 := Lib.hid hp1
  have HQ0 := Lib.hid hq0
  have HR1 := Lib.hid hr1
  have HPQ := Lib.hid hpq
  have hA : exA.length = 80 := by kernel_rfl
  have hB : exB.length = 80 := by kernel_rfl
  have hQ : (⟨#[98, 98, 98]⟩ : ByteArray) ++ (S exA).extract 3 80 = S exQ := by rw [S_extract]; exact S_append3
  have hR : (S exB).extract 0 79 ++ (⟨#[0]⟩ : ByteArray) = S exR := by rw [S_extract]; exact S_append1
  clear hp0 hp1 hq0 hr1 hpq
  go_upto_region 17 with (fail)
  refine wp_region_noPanic ?_
  go_region_held3 (fun _ => True)
    (trivial)
    (first | (go_at_call 18; refine (HPQ.out _ B4.out).mono ?_; rintro e w25 ⟨A5, cap5, rfl, b5⟩; have B5 := Lib.hid (below_step b5 B4.out (Nat.le_refl _))) | (go_at_call 21; (have hq := b3); clear hq; refine (HR1.out _ B3.out).mono ?_; rintro e w24 ⟨rfl, b4⟩; have B4 := Lib.hid (below_step b4 B3.out (Nat.le_refl _))) | (go_at_call 21; (have hq := b2); clear hq; refine (HQ0.out _ B2.out).mono ?_; rintro e w23 ⟨rfl, b3⟩; have B3 := Lib.hid (below_step b3 B2.out (Nat.le_refl _))) | (go_at_call 21; (have hq := b1); clear hq; refine (HP1.out _ B1.out).mono ?_; rintro e w22 ⟨rfl, b2⟩; have B2 := Lib.hid (below_step b2 B1.out (Nat.le_refl _))) | (go_at_call 21; refine (HP0.out _ (Below.refl _ w20).drew).mono ?_; rintro e w21 ⟨rfl, b1⟩; have B1 := Lib.hid (below_step b1 (Below.refl _ w20).drew (Nat.le_refl _))))
  refine NoPanic.normal ?_
  have HC0 := Lib.hid (HB11.out.below (below_step B5.out HA6.out.bel (Nat.le_refl _)))
  clear b1 b2 b3 b4 b5 B1 B2 B3 B4 B5 HP0 HP1 HQ0 HR1 HPQ HA6 HB11 hA hB hQ hR
  go_wp2_with (fail)
  refine (bx_sync HC0.out ex_s).mono ?_
  rintro e u1 ⟨rfl, y1, h⟩
  have HC1 := Lib.hid (h)
  clear HC0 h
  go_wp2_with (fail)
  refine (bx_pend HC1.out (by decide) (show pendNs ex4.P = [] from rfl)).mono ?_
  rintro e u2 ⟨A1, cap1, rfl, o, h⟩
  have HC2 := Lib.hid (h)
  clear HC1 h o
  go_wp2_with (fail)
  refine (bx_crash HC2.out ex_c4).mono ?_
  rintro e u3 ⟨rfl, h⟩
  have HC3 := Lib.hid (h)
  clear HC2 h
  go_wp2_with (fail)
  refine (bx_read HC3.out ex_r4).mono ?_
  rintro e u4 ⟨rfl, h⟩
  have HC4 := Lib.hid (h)
  clear HC3 h
  go_wp2_with (fail)
  refine (fnew_any _).mono ?_
  rintro e u5 ⟨rfl, rfl⟩
  have HC5 := Lib.hid (HC4.out.below (alloc_below _ Fz.idle.obj))
  clear HC4
  go_wp2_with (fail)
  refine (dnew_range 0 _ _ (by omega)).mono ?_
  rintro e u6 ⟨rfl, rfl⟩
  have HC6 := Lib.hid (HC5.out)
  clear HC5
  go_wp2_with (fail)
  refine (dnew_nofuse _).mono ?_
  rintro e u7 ⟨rfl, rfl⟩
  have HC7 := Lib.hid (HC6.out)
  clear HC6
  go_wp2_with (fail)
  refine (dnew_most _).mono ?_
  rintro e u8 ⟨rfl, rfl⟩
  have HC8 := Lib.hid (HC7.out)
  clear HC7
  go_wp2_with (fail)
  refine (bx_dur HC8.out ex_d4).mono ?_
  rintro e u9 ⟨rfl, h⟩
  have HC9 := Lib.hid (h)
  clear HC8 h
  go_wp2_with (fail)
  refine (bx_write HC9.out (by decide) ex_w4).mono ?_
  rintro e u10 ⟨rfl, y10, h⟩
  have HC10 := Lib.hid (h)
  clear HC9 h
  go_wp2_with (fail)
  refine (bx_write HC10.out (by decide) ex_w5).mono ?_
  rintro e u11 ⟨rfl, y11, h⟩
  have HC11 := Lib.hid (h)
  clear HC10 h
  have cx0 := HC11.out.x0
  go_wp2_with (fail)
  refine (bx_arm HC11.out ex_a (by decide)).mono ?_
  rintro e u12 ⟨rfl, h⟩
  have HC12 := Lib.hid (h)
  clear HC11 h cx0
  go_wp2_with (fail)
  refine (bx_write HC12.out (by decide) ex_w6).mono ?_
  rintro e u13 ⟨rfl, y13, h⟩
  have HC13 := Lib.hid (h)
  clear HC12 h
  go_wp2_with (fail)
  refine (bx_sync HC13.out ex_s6).mono ?_
  rintro e u14 ⟨rfl, y14, h⟩
  have HC14 := Lib.hid (h)
  clear HC13 h
  go_wp2_with (fail)
  refine (bx_write HC14.out (by decide) ex_w7).mono ?_
  rintro e u15 ⟨rfl, y15, h⟩
  have HC15 := Lib.hid (h)
  clear HC14 h
  go_wp2_with (fail)
  refine (bx_read HC15.out ex_r7).mono ?_
  rintro e u16 ⟨rfl, h⟩
  have HC16 := Lib.hid (h)
  clear HC15 h
  go_wp2_with (fail)
  refine (bx_setfull HC16.out true (D' := ex5) rfl).mono ?_
  rintro e u17 ⟨rfl, h⟩
  have HC17 := Lib.hid (h)
  clear HC16 h
  go_wp2_with (fail)
  refine (dcrash_nil 0 0 0 _).mono ?_
  rintro e u18 ⟨rfl, b⟩
  have HC18 := Lib.hid (HC17.out.below b)
  clear HC17 b
  go_wp2_with (fail)
  refine (dsetfull_nil true _).mono ?_
  rintro e u19 ⟨rfl, rfl⟩
  have HC19 := Lib.hid (HC18.out)
  clear HC18
  go_wp2_with (fail)
  refine (dread_nil 0 _).mono ?_
  rintro e u20 ⟨rfl, b⟩
  have HC20 := Lib.hid (HC19.out.below b)
  clear HC19 b
  go_wp2_with (fail)
  refine ((show Calls Try.prog 34 #[.pointer (some ⟨d, 0, none⟩)] _ fun e w' => e = .returned (.bool true) ∧ w' = _ from dfull_any _ _ _ _ _ _ HC20.out.lab.disk)).mono ?_
  rintro e u21 ⟨rfl, rfl⟩
  have HC21 := Lib.hid (HC20.out)
  clear HC20
  go_wp2_with (fail)
  refine (bx_dur HC21.out ex_d5).mono ?_
  rintro e u22 ⟨rfl, h⟩
  have HC22 := Lib.hid (h)
  clear HC21 h
  go_wp2_with (fail)
  refine (dwrite_nil 0 _ _).mono ?_
  rintro e u23 ⟨rfl, rfl⟩
  have HC23 := Lib.hid (HC22.out)
  clear HC22
  go_wp2_with (fail)
  refine (dsync_nil _).mono ?_
  rintro e u24 ⟨rfl, rfl⟩
  have HC24 := Lib.hid (HC23.out)
  clear HC23
  go_wp2_with (fail)
  refine (ddurable_nil 0 _).mono ?_
  rintro e u25 ⟨rfl, rfl⟩
  have HC25 := Lib.hid (HC24.out)
  clear HC24
  go_wp2_with (fail)
  refine (dsectors_nil _).mono ?_
  rintro e u26 ⟨rfl, rfl⟩
  have HC26 := Lib.hid (HC25.out)
  clear HC25
  go_wp2_with (fail)
  refine (dpending_nil _).mono ?_
  rintro e u27 ⟨rfl, rfl⟩
  have HC27 := Lib.hid (HC26.out)
  clear HC26
  go_wp2_with (fail)
  refine (dfull_nil _).mono ?_
  rintro e u28 ⟨rfl, rfl⟩
  have HC28 := Lib.hid (HC27.out)
  clear HC27
  go_wp2_with (fail)
  refine (fnew_any _).mono ?_
  rintro e u29 ⟨rfl, rfl⟩
  have HC29 := Lib.hid (HC28.out.below (alloc_below _ Fz.idle.obj))
  clear HC28
  go_wp2_with (fail)
  refine (dcopy_nil _ _).mono ?_
  rintro e u30 ⟨rfl, rfl⟩
  have HC30 := Lib.hid (HC29.out)
  clear HC29
  go_wp2_with (fail)
  refine (dcopy_nofuse _ _).mono ?_
  rintro e u31 ⟨rfl, rfl⟩
  have HC31 := Lib.hid (HC30.out)
  clear HC30
  go_wp2_with (fail)
  refine ((show Calls Try.prog 35 #[.pointer (some ⟨d, 0, none⟩)] _ fun e w' => e = .returned (.int .i64 2) ∧ w' = _ from dsectors_any _ _ _ _ _ _ HC31.out.lab.disk)).mono ?_
  rintro e u32 ⟨rfl, rfl⟩
  have HC32 := Lib.hid (HC31.out)
  clear HC31
  go_wp2_with (fail)
  go_ret
  exact ⟨rfl, HC32.out.bel⟩
end Go.Proofs.Ytjpelmjocdodcaa
