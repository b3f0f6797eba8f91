/- RecordExamples. -/
import Derived.Test.YtjpelmjocdodcaaRecEx
import Derived.Test.YtjpelmjocdodcaaBoth
import Derived.Test.YtjpelmjocdodcaaTake
namespace Go.Proofs.Ytjpelmjocdodcaa
open Go.RowKit Go.ChangeMaps

def xcells : Array Value := #[.int .i64 0, .int .i64 1, .int .i64 0, .int .i64 44, .int .i64 1, .int .i64 0, .int .i64 45, .int .i64 2, .int .i64 0, .int .i64 4096, .int .i64 94, .int .i64 0, .int .i64 4097, .int .i64 0, .int .i64 5, .int .i64 (-1), .int .i64 0, .int .i64 3]
def xreads : Array Value := #[.int .i64 3, .int .i64 4, .int .i64 5, .int .i64 1, .int .i64 12, .int .i64 4, .int .i64 5, .int .i64 5, .int .i64 1, .int .i64 12, .int .i64 3, .int .i64 5, .int .i64 6, .int .i64 1, .int .i64 12, .int .i64 3, .int .i64 5, .int .i64 5, .int .i64 2, .int .i64 12, .int .i64 5, .int .i64 5, .int .i64 5, .int .i64 1, .int .i64 12,
  .int .i64 5, .int .i64 4, .int .i64 1, .int .i64 1, .int .i64 3, .int .i64 0, .int .i64 999, .int .i64 1, .int .i64 1, .int .i64 3, .int .i64 (-1), .int .i64 5, .int .i64 1, .int .i64 1, .int .i64 3, .int .i64 3, .int .i64 10, .int .i64 5, .int .i64 (-9), .int .i64 0, .int .i64 10, .int .i64 10, .int .i64 5, .int .i64 1, .int .i64 12]
theorem below_set6 {B b : Nat} {a w : World} (h : Below B a w) (hb : B ≤ b) (v0 v1 v2 v3 v4 v5 : Value) : Below B a ((((((w.setCell ⟨b, 0, none⟩ v0).setCell ⟨b, 1, none⟩ v1).setCell ⟨b, 2, none⟩ v2).setCell ⟨b, 3, none⟩ v3).setCell ⟨b, 4, none⟩ v4).setCell ⟨b, 5, none⟩ v5) :=
  (((((h.setCell (p := ⟨b, 0, none⟩) hb v0).setCell (p := ⟨b, 1, none⟩) hb v1).setCell (p := ⟨b, 2, none⟩) hb v2).setCell (p := ⟨b, 3, none⟩) hb v3).setCell (p := ⟨b, 4, none⟩) hb v4).setCell (p := ⟨b, 5, none⟩) hb v5
theorem own_off {d f m gb n : Nat} {v v' : Value} (h : ∀ k, v'.ownBlock = some k → v.ownBlock = some k ∨ n ≤ k) (hG : ¬ Own d f m v gb) (hlt : gb < n) : ¬ Own d f m v' gb := fun ho => by
  rcases own_new h ho with o | o
  · exact hG o
  · omega
theorem keep3w {W w' : World} {S : Nat → Prop} {a b c : Addr} {x y z : Value} (h : W.cell? a = some x ∧ W.cell? b = some y ∧ W.cell? c = some z) (k : Keeps S W w') (ha : ¬ S a.block) (hb : ¬ S b.block) (hc : ¬ S c.block) :
    w'.cell? a = some x ∧ w'.cell? b = some y ∧ w'.cell? c = some z := ⟨k.cell h.1 ha, k.cell h.2.1 hb, k.cell h.2.2 hc⟩
set_option maxRecDepth 100000 in
set_option maxHeartbeats 8000000 in
theorem recordExamples_any (w : World) : Calls Try.prog 13 #[] w fun e w' => e = .returned (.bool true) ∧ Below w.heap.size w w' := by
  have n0 := alloc_new w (.cells xcells 87)
  have b0 := alloc_below w (.cells xcells 87)
  unfold xcells at n0 b0
  go_enter Try.func13, Try.ntmps13
  go_wp2_with (fail)
  obtain ⟨w0, hw0⟩ : ∃ w0, w.alloc (.cells #[.int .i64 0, .int .i64 1, .int .i64 0, .int .i64 44, .int .i64 1, .int .i64 0, .int .i64 45, .int .i64 2, .int .i64 0, .int .i64 4096, .int .i64 94, .int .i64 0, .int .i64 4097, .int .i64 0, .int .i64 5, .int .i64 (-1), .int .i64 0, .int .i64 3] 87) = w0 := ⟨_, rfl⟩
  rw [hw0] at n0 b0 ⊢
  have HB0 := Lib.hid b0
  have HL : Hid (∀ i, i < 6 → ∃ n p e : Int, partsOf n = (p, e) ∧ w0.cell? ⟨w.heap.size, i * 3, none⟩ = some (.int .i64 n) ∧ w0.cell? ⟨w.heap.size, i * 3 + 1, none⟩ = some (.int .i64 p) ∧ w0.cell? ⟨w.heap.size, i * 3 + 2, none⟩ = some (.int .i64 e)) := by
    intro i hi
    rw [cell_of n0, cell_of n0, cell_of n0]
    match i, hi with
    | 0, _ => exact ⟨0, 1, 0, rfl, rfl, rfl, rfl⟩
    | 1, _ => exact ⟨44, 1, 0, rfl, rfl, rfl, rfl⟩
    | 2, _ => exact ⟨45, 2, 0, rfl, rfl, rfl, rfl⟩
    | 3, _ => exact ⟨4096, 94, 0, rfl, rfl, rfl, rfl⟩
    | 4, _ => exact ⟨4097, 0, 5, rfl, rfl, rfl, rfl⟩
    | 5, _ => exact ⟨-1, 0, 3, rfl, rfl, rfl, rfl⟩
  clear n0 b0 hw0
  go_loopw [2] (fun v2 wr => ∃ i : Nat, i ≤ 6 ∧ v2 = .int .i64 i ∧ wr = w0) (fun v2 _ => 6 - (intOf v2).toNat)
  case atStart => exact ⟨0, by omega, rfl, rfl⟩
  case round =>
    obtain ⟨i, hi, rfl, rfl⟩ := hrel
    by_cases hlt : i < 6
    · obtain ⟨n, p, e, hp, c0, c1, c2⟩ := HL.out i hlt
      have c0' : wr.cell? (Addr.add ⟨w.heap.size, 0, none⟩ (i * 3)) = some (.int .i64 n) := by rw [add_eq, Nat.zero_add]; exact c0
      have hpc := parts_any n wr
      rw [hp] at hpc
      dsimp only at hpc
      clear hp
      go_wp2_with (fail)
      refine hpc.mono ?_
      rintro e' w' ⟨rfl, hw'⟩
      subst hw'
      go_wp2_with (fail)
      go_roundw
      case rel => exact ⟨i + 1, by omega, by go_num, by trivial⟩
      case measure => simp [intOf]; omega
    · obtain rfl : i = 6 := by omega
      clear HL
      go_wp2_with (fail)
      obtain ⟨wo, rfl⟩ : ∃ wo : World, wo = wr := ⟨_, rfl⟩
      refine (newboth_ok 10 wo (by omega) (by omega)).mono ?_
      rintro e w1 ⟨x, d, f, m, v, r, g, sb, pv, rfl, hB1⟩
      have HB1 := Lib.hid hB1
      clear hB1
      go_wp2_with (fail)
      refine (many_any 120 50 w1 (by omega)).mono ?_
      rintro e w2 ⟨rfl, b2⟩
      rw [show List.replicate 50 (120 : UInt8) = xdata from rfl]
      have HB2 := Lib.hid (HB1.out.below b2)
      clear b2 HB1
      have hs := secs_any 1 5 2 (by decide) xdata w2
      rw [x_secs] at hs
      go_wp2_with (fail)
      refine hs.mono ?_
      rintro e w3 ⟨A, cap, rfl, hr3, b3, hf3⟩
      obtain ⟨gb, rfl, -, -⟩ := rstr_at (i := 0) hr3 rfl (by decide)
      have hgb := hf3 gb rfl
      have HX := Lib.hid HB2.out.xo
      have HG : Hid (¬ Own d f m v gb) := fun ho => by have := HB2.out.lab.lt ho; omega
      have HB3 := Lib.hid (HB2.out.below b3)
      clear hf3 hgb
      have HR3 := Lib.hid hr3
      clear b3 hr3 hs HB2
      have hs := secs_any 0 5 2 (by decide) xdata w3
      rw [x_bad] at hs
      go_wp2_with (fail)
      refine hs.mono ?_
      rintro e w4 ⟨A4, cap4, rfl, -, b4, -⟩
      have HB4 := Lib.hid (HB3.out.below b4)
      have HR4 := Lib.hid (row_keeps (S := fun _ => False) HR3.out (.of_below b4) (fun _ _ => id))
      clear b4 hs HB3 HR3
      go_wp2_with (fail)
      refine (many_any 120 4097 w4 (by omega)).mono ?_
      rintro e w5 ⟨rfl, b5⟩
      have hs := secs_any 0 5 2 (by decide) (List.replicate 4097 120) w5
      rw [x_long] at hs
      obtain ⟨BIG, hBIG⟩ : ∃ BIG, List.replicate 4097 (120 : UInt8) = BIG := ⟨_, rfl⟩
      rw [hBIG] at hs ⊢
      go_wp2_with (fail)
      refine hs.mono ?_
      rintro e w6 ⟨A6, cap6, rfl, -, b6, -⟩
      have b56 := below_step b6 b5 (Nat.le_refl _)
      have HB6 := Lib.hid (HB4.out.below b56)
      have HR6 := Lib.hid (row_keeps (S := fun _ => False) HR4.out (.of_below b56) (fun _ _ => id))
      clear b5 b6 b56 hs HB4 HR4 hBIG
      obtain ⟨X0, hX0⟩ : ∃ X0, xs0 = X0 := ⟨_, rfl⟩
      obtain ⟨X1, hX1⟩ : ∃ X1, xs1 = X1 := ⟨_, rfl⟩
      have hl0 := xs0_len
      have hl1 := xs1_len
      rw [hX0] at hl0
      rw [hX1] at hl1
      have hr6 := HR6.out
      rw [hX0, hX1] at hr6
      obtain ⟨g0, e0, -, c0⟩ := rstr_at (i := 0) hr6 rfl (by simp)
      obtain ⟨g1, e1, -, c1⟩ := rstr_at (i := 1) hr6 rfl (by simp)
      obtain rfl : gb = g0 := by simpa using e0
      obtain rfl : gb = g1 := by simpa using e1
      have HC : Hid (w6.drew.cell? ⟨x, 1, none⟩ = some (.pointer (some ⟨d, 0, none⟩)) ∧ w6.drew.cell? ⟨gb, 0, none⟩ = some (.string (S X0)) ∧ w6.drew.cell? ⟨gb, 1, none⟩ = some (.string (S X1))) := ⟨HB6.out.x1, c0, c1⟩
      have HD := Lib.hid (HB6.out.below (Below.refl _ w6).drew)
      have HGL := Lib.hid (World.block_lt_of_cell? _ _ HC.out.2.1)
      have HXL := Lib.hid (World.block_lt_of_cell? _ _ HC.out.1)
      have hw0 := dwrite_any d f m v (Dk.new 10) .idle 3 X0 w6.drew HD.out.lab.disk HD.out.lab.fuse (by decide)
      rw [show doWrite (Dk.new 10) .idle 3 X0 = (0, (Dk.new 10).write 3 X0, .idle) from doWrite_ok (i := 3) (by decide) hl0] at hw0
      dsimp only at hw0
      have hw1 : ∀ (W : World) (u : Value), Lab W d f m u ((Dk.new 10).write 3 X0) .idle → Calls Try.prog 19 #[.pointer (some ⟨d, 0, none⟩), .int .i64 4, .string (S X1)] W fun e w' => e = .returned (.int .i64 0) ∧ DAfter W w' d f m u (((Dk.new 10).write 3 X0).write 4 X1) .idle := fun W u h => by
        have := dwrite_any d f m u ((Dk.new 10).write 3 X0) .idle 4 X1 W h.disk h.fuse (by show ([] ++ [(3, X0)] : List (Nat × List UInt8)).length ≤ 1000000; simp)
        rw [show doWrite ((Dk.new 10).write 3 X0) .idle 4 X1 = (0, ((Dk.new 10).write 3 X0).write 4 X1, .idle) from doWrite_ok (i := 4) (by show 4 < (List.replicate 10 Z80).length; rw [List.length_replicate]; decide) hl1] at this
        exact this
      have HW0 := Lib.hid hw0
      have HW1 := Lib.hid hw1
      clear hw0 hw1
      have HL0 := Lib.hid hl0
      have HL1 := Lib.hid hl1
      have HX0 := Lib.hid hX0
      have HX1 := Lib.hid hX1
      clear hl0 hl1 hX0 hX1 hr6 c0 c1 e0 e1 HR6 HB6
      go_upto_region 13 with (fail)
      refine wp_region_noPanic ?_
      go_region_held3 (fun w' => w'.cell? ⟨x, 1, none⟩ = some (.pointer (some ⟨d, 0, none⟩)) ∧ w'.cell? ⟨gb, 0, none⟩ = some (.string (S X0)) ∧ w'.cell? ⟨gb, 1, none⟩ = some (.string (S X1))) (first | exact HC.out | exact keep3w (by assumption) k7 HX.out HG.out HG.out | exact keep3w (by assumption) k8 (own_off n7 HX.out HXL.out) (own_off n7 HG.out HGL.out) (own_off n7 HG.out HGL.out))
        (first | (go_at_call 19; refine (HW1.out _ _ h7).mono ?_; rintro e w8 ⟨rfl, ha8⟩; obtain ⟨v8, h8, k8, n8⟩ := ha8.lab) | (go_at_call 19; refine HW0.out.mono ?_; rintro e w7 ⟨rfl, ha⟩; obtain ⟨v7, h7, k7, n7⟩ := ha.lab))
      refine NoPanic.normal ?_
      have HB8 : Hid (BothAt wo w8 x d f m v8 r g sb pv xD .idle (Dk.new 10) .idle) := by
        have := (HD.out.dchange h7 k7 (fun _ hk => hk) n7).dchange h8 k8 (fun _ hk => hk) n8
        rw [← HX0.out, ← HX1.out] at this
        exact this
      have hrd := read_any d f m v8 xD .idle 3 5 5 1 w8 HB8.out.lab
      rw [x_found (by decide) (by decide) (by decide)] at hrd
      have cx1 := HB8.out.x1
      clear h7 h8 k7 k8 n7 n8 ha ha8 HD HX0 HX1 HC HGL HXL HG HX HW0 HW1 HL0 HL1
      obtain ⟨XD, hXD⟩ : ∃ XD, xdata = XD := ⟨_, rfl⟩
      have hXl : XD.length = 50 := by rw [← hXD]; exact x_len
      rw [hXD] at hrd ⊢
      have HXD := Lib.hid hXD
      clear hXD
      go_wp2_with (fail)
      refine hrd.mono ?_
      rintro e w9 ⟨rfl, b9⟩
      have q9 := alloc_new w9 (.cells #[.int .i64 1, .int .i64 5, .int .i64 0, .int .i64 2, .int .u8 2, .string (S XD)] 77)
      have B9 := alloc_below w9 (.cells #[.int .i64 1, .int .i64 5, .int .i64 0, .int .i64 2, .int .u8 2, .string (S XD)] 77)
      have S9 := alloc_size w9 (.cells #[.int .i64 1, .int .i64 5, .int .i64 0, .int .i64 2, .int .u8 2, .string (S XD)] 77)
      have i0 := (cell_of q9 0).trans rfl
      have i1 := (cell_of q9 1).trans rfl
      have i2 := (cell_of q9 2).trans rfl
      have i3 := (cell_of q9 3).trans rfl
      have i4 := (cell_of q9 4).trans rfl
      have i5 := (cell_of q9 5).trans rfl
      have b99 := below_step B9 b9 (Nat.le_refl _)
      go_upto_region 18 with (fail)
      clear i0 i1 i2 i3 i4 i5 q9 hrd cx1 b9 B9
      obtain ⟨wa, hwa⟩ : ∃ wa, w9.alloc (.cells #[.int .i64 1, .int .i64 5, .int .i64 0, .int .i64 2, .int .u8 2, .string (S XD)] 77) = wa := ⟨_, rfl⟩
      rw [hwa] at b99 S9 ⊢
      have HBa := Lib.hid (HB8.out.below b99)
      clear hwa S9 b99 HB8
      have n10 := alloc_new wa (.cells xreads 89)
      have b10 := alloc_below wa (.cells xreads 89)
      unfold xreads at n10 b10
      go_wp2_with (fail)
      obtain ⟨w10, hw10⟩ : ∃ w10, wa.alloc (.cells xreads 89) = w10 := ⟨_, rfl⟩
      unfold xreads at hw10
      rw [hw10] at n10 b10 ⊢
      have HL2 : Hid (∀ i, i < 10 → ∃ (a c l b e : Int) (F : Value), (F = zfrm ∨ F = .agg #[.int .i64 1, .int .i64 5, .int .i64 0, .int .i64 2, .int .u8 2, .string (S XD)]) ∧ readVal xD .idle a c l b = .tuple #[F, .int .i64 e] ∧ w10.cell? ⟨wa.heap.size, i * 5, none⟩ = some (.int .i64 a) ∧ w10.cell? ⟨wa.heap.size, i * 5 + 1, none⟩ = some (.int .i64 c) ∧ w10.cell? ⟨wa.heap.size, i * 5 + 2, none⟩ = some (.int .i64 l) ∧ w10.cell? ⟨wa.heap.size, i * 5 + 3, none⟩ = some (.int .i64 b) ∧ w10.cell? ⟨wa.heap.size, i * 5 + 4, none⟩ = some (.int .i64 e)) := by
        intro i hi
        rw [cell_of n10, cell_of n10, cell_of n10, cell_of n10, cell_of n10]
        match i, hi with
        | 0, _ => exact ⟨3, 4, 5, 1, 12, zfrm, .inl rfl, x0, rfl, rfl, rfl, rfl, rfl⟩
        | 1, _ => exact ⟨4, 5, 5, 1, 12, zfrm, .inl rfl, x1, rfl, rfl, rfl, rfl, rfl⟩
        | 2, _ => exact ⟨3, 5, 6, 1, 12, zfrm, .inl rfl, x2, rfl, rfl, rfl, rfl, rfl⟩
        | 3, _ => exact ⟨3, 5, 5, 2, 12, zfrm, .inl rfl, x3, rfl, rfl, rfl, rfl, rfl⟩
        | 4, _ => exact ⟨5, 5, 5, 1, 12, zfrm, .inl rfl, x4, rfl, rfl, rfl, rfl, rfl⟩
        | 5, _ => exact ⟨5, 4, 1, 1, 3, zfrm, .inl rfl, x5, rfl, rfl, rfl, rfl, rfl⟩
        | 6, _ => exact ⟨0, 999, 1, 1, 3, zfrm, .inl rfl, x6, rfl, rfl, rfl, rfl, rfl⟩
        | 7, _ => exact ⟨-1, 5, 1, 1, 3, zfrm, .inl rfl, x7, rfl, rfl, rfl, rfl, rfl⟩
        | 8, _ => exact ⟨3, 10, 5, -9, 0, _, .inr rfl, by rw [← HXD.out]; exact x_found (by decide) (by decide) (by decide), rfl, rfl, rfl, rfl, rfl⟩
        | 9, _ => exact ⟨10, 10, 5, 1, 12, zfrm, .inl rfl, x9, rfl, rfl, rfl, rfl, rfl⟩
      have HB10 := Lib.hid (HBa.out.below b10)
      clear n10 b10 hw10 HBa
      go_loopw [15] (fun v15 w' => ∃ i : Nat, i ≤ 10 ∧ v15 = .int .i64 i ∧ Hid (Below w10.heap.size w10 w')) (fun v15 _ => 10 - (intOf v15).toNat)
      case atStart => exact ⟨0, Nat.zero_le _, rfl, .refl _ _⟩
      case round =>
        obtain ⟨i, hi, rfl, hb⟩ := hrel
        by_cases hlt : i < 10
        · obtain ⟨a, c, l, b, e, F, hF, hv, k0, k1, k2, k3, k4⟩ := HL2.out i hlt
          have hBr := HB10.out.below hb.out
          have HRD : Hid (∀ W, Below wr.heap.size wr W → Calls Try.prog 46 #[.pointer (some ⟨d, 0, none⟩), .int .i64 a, .int .i64 c, .int .i64 l, .int .i64 b] W fun e' w' => e' = .returned (.tuple #[F, .int .i64 e]) ∧ Below W.heap.size W w') := fun W hW => by
            have := read_any d f m v8 xD .idle a c l b W (hBr.below hW).lab
            rw [hv] at this
            exact this
          have c1 := below_cell hb.out k1
          have c2 := below_cell hb.out k2
          have c3 := below_cell hb.out k3
          have c4 := below_cell hb.out k4
          have c5 := below_cell hb.out k0
          have c0 : wr.cell? (Addr.add ⟨wa.heap.size, 0, none⟩ (i * 5)) = some (.int .i64 a) := by rw [add_eq, Nat.zero_add]; exact c5
          have cx := hBr.x1
          clear hv k0 k1 k2 k3 k4 hBr
          go_upto_region 22 with (fail)
          refine wp_region_noPanic ?_
          refine wp_region_held_drew (S := fun w' => w'.cell? ⟨x, 1, none⟩ = some (.pointer (some ⟨d, 0, none⟩)) ∧ w'.cell? (Addr.add ⟨wa.heap.size, 0, none⟩ (i * 5)) = some (.int .i64 a) ∧ w'.cell? ⟨wa.heap.size, i * 5, none⟩ = some (.int .i64 a) ∧ w'.cell? ⟨wa.heap.size, i * 5 + 1, none⟩ = some (.int .i64 c) ∧ w'.cell? ⟨wa.heap.size, i * 5 + 2, none⟩ = some (.int .i64 l) ∧ w'.cell? ⟨wa.heap.size, i * 5 + 3, none⟩ = some (.int .i64 b) ∧ True) (by kernel_rfl) (⟨cx, c0, c5, c1, c2, c3, trivial⟩) (fun hHeld => ?_)
          refine take_w 0 (some 148) ?_ rfl rfl (by kernel_rfl) (by kernel_rfl) (by kernel_rfl) (fun _ _ _ h => h) (by rfl) ?_ (by assumption) ?_
          rotate_left
          · intro w hSw
            (try dsimp only at hSw)
            (try obtain ⟨z0, z1, z2, z3, z4, z5, z6⟩ := hSw)
            go_simp <;> with_reducible rfl
          (try simp only [Act.put, List.setIfInBounds_toArray, List.set_cons_zero, List.set_cons_succ])
          refine take_w 1 (some 149) ?_ rfl rfl (by kernel_rfl) (by kernel_rfl) (by kernel_rfl) (fun _ _ _ h => h) (by rfl) ?_ (by assumption) ?_
          rotate_left
          · intro w hSw
            (try dsimp only at hSw)
            (try obtain ⟨z0, z1, z2, z3, z4, z5, z6⟩ := hSw)
            go_simp <;> with_reducible rfl
          (try simp only [Act.put, List.setIfInBounds_toArray, List.set_cons_zero, List.set_cons_succ])
          refine take_w 2 (some 150) ?_ rfl rfl (by kernel_rfl) (by kernel_rfl) (by kernel_rfl) (fun _ _ _ h => h) (by rfl) ?_ (by assumption) ?_
          rotate_left
          · intro w hSw
            (try dsimp only at hSw)
            (try obtain ⟨z0, z1, z2, z3, z4, z5, z6⟩ := hSw)
            go_simp <;> with_reducible rfl
          (try simp only [Act.put, List.setIfInBounds_toArray, List.set_cons_zero, List.set_cons_succ])
          refine take_w 3 (some 151) ?_ rfl rfl (by kernel_rfl) (by kernel_rfl) (by kernel_rfl) (fun _ _ _ h => h) (by rfl) ?_ (by assumption) ?_
          rotate_left
          · intro w hSw
            (try dsimp only at hSw)
            (try obtain ⟨z0, z1, z2, z3, z4, z5, z6⟩ := hSw)
            go_simp <;> with_reducible rfl
          (try simp only [Act.put, List.setIfInBounds_toArray, List.set_cons_zero, List.set_cons_succ])
          refine take_w 4 (some 152) ?_ rfl rfl (by kernel_rfl) (by kernel_rfl) (by kernel_rfl) (fun _ _ _ h => h) (by rfl) ?_ (by assumption) ?_
          rotate_left
          · intro w hSw
            (try dsimp only at hSw)
            (try obtain ⟨z0, z1, z2, z3, z4, z5, z6⟩ := hSw)
            go_simp <;> with_reducible rfl
          (try simp only [Act.put, List.setIfInBounds_toArray, List.set_cons_zero, List.set_cons_succ])
          refine take_w 5 (some 153) ?_ rfl rfl (by kernel_rfl) (by kernel_rfl) (by kernel_rfl) (fun _ _ _ h => h) (by rfl) ?_ (by assumption) ?_
          rotate_left
          · intro w hSw
            (try dsimp only at hSw)
            (try obtain ⟨z0, z1, z2, z3, z4, z5, z6⟩ := hSw)
            go_simp <;> with_reducible rfl
          (try simp only [Act.put, List.setIfInBounds_toArray, List.set_cons_zero, List.set_cons_succ])
          refine take_w 6 (some 154) ?_ rfl rfl (by kernel_rfl) (by kernel_rfl) (by kernel_rfl) (fun _ _ _ h => h) (by rfl) ?_ (by assumption) ?_
          rotate_left
          · intro w hSw
            (try dsimp only at hSw)
            (try obtain ⟨z0, z1, z2, z3, z4, z5, z6⟩ := hSw)
            go_simp <;> with_reducible rfl
          (try simp only [Act.put, List.setIfInBounds_toArray, List.set_cons_zero, List.set_cons_succ])
          refine take_w 7 (some 155) ?_ rfl rfl (by kernel_rfl) (by kernel_rfl) (by kernel_rfl) (fun _ _ _ h => h) (by rfl) ?_ (by assumption) ?_
          rotate_left
          · intro w hSw
            (try dsimp only at hSw)
            (try obtain ⟨z0, z1, z2, z3, z4, z5, z6⟩ := hSw)
            go_simp <;> with_reducible rfl
          (try simp only [Act.put, List.setIfInBounds_toArray, List.set_cons_zero, List.set_cons_succ])
          refine take_w 8 (some 156) ?_ rfl rfl (by kernel_rfl) (by kernel_rfl) (by kernel_rfl) (fun _ _ _ h => h) (by rfl) ?_ (by assumption) ?_
          rotate_left
          · intro w hSw
            (try dsimp only at hSw)
            (try obtain ⟨z0, z1, z2, z3, z4, z5, z6⟩ := hSw)
            go_simp <;> with_reducible rfl
          (try simp only [Act.put, List.setIfInBounds_toArray, List.set_cons_zero, List.set_cons_succ])
          refine take_w 9 (some 157) ?_ rfl rfl (by kernel_rfl) (by kernel_rfl) (by kernel_rfl) (fun _ _ _ h => h) (by rfl) ?_ (by assumption) ?_
          rotate_left
          · intro w hSw
            (try dsimp only at hSw)
            (try obtain ⟨z0, z1, z2, z3, z4, z5, z6⟩ := hSw)
            go_simp <;> with_reducible rfl
          (try simp only [Act.put, List.setIfInBounds_toArray, List.set_cons_zero, List.set_cons_succ])
          refine take_w 10 (some 158) ?_ rfl rfl (by kernel_rfl) (by kernel_rfl) (by kernel_rfl) (fun _ _ _ h => h) (by rfl) ?_ (by assumption) ?_
          rotate_left
          · intro w hSw
            (try dsimp only at hSw)
            (try obtain ⟨z0, z1, z2, z3, z4, z5, z6⟩ := hSw)
            go_simp <;> with_reducible rfl
          (try simp only [Act.put, List.setIfInBounds_toArray, List.set_cons_zero, List.set_cons_succ])
          refine take_w 11 (some 159) ?_ rfl rfl (by kernel_rfl) (by kernel_rfl) (by kernel_rfl) (fun _ _ _ h => h) (by rfl) ?_ (by assumption) ?_
          rotate_left
          · intro w hSw
            (try dsimp only at hSw)
            (try obtain ⟨z0, z1, z2, z3, z4, z5, z6⟩ := hSw)
            go_simp <;> with_reducible rfl
          (try simp only [Act.put, List.setIfInBounds_toArray, List.set_cons_zero, List.set_cons_succ])
          refine take_w 12 (some 160) ?_ rfl rfl (by kernel_rfl) (by kernel_rfl) (by kernel_rfl) (fun _ _ _ h => h) (by rfl) ?_ (by assumption) ?_
          rotate_left
          · intro w hSw
            (try dsimp only at hSw)
            (try obtain ⟨z0, z1, z2, z3, z4, z5, z6⟩ := hSw)
            go_simp <;> with_reducible rfl
          (try simp only [Act.put, List.setIfInBounds_toArray, List.set_cons_zero, List.set_cons_succ])
          refine take_w 13 (some 161) ?_ rfl rfl (by kernel_rfl) (by kernel_rfl) (by kernel_rfl) (fun _ _ _ h => h) (by rfl) ?_ (by assumption) ?_
          rotate_left
          · intro w hSw
            (try dsimp only at hSw)
            (try obtain ⟨z0, z1, z2, z3, z4, z5, z6⟩ := hSw)
            go_simp <;> with_reducible rfl
          (try simp only [Act.put, List.setIfInBounds_toArray, List.set_cons_zero, List.set_cons_succ])
          refine take_w 14 (some 162) ?_ rfl rfl (by kernel_rfl) (by kernel_rfl) (by kernel_rfl) (fun _ _ _ h => h) (by rfl) ?_ (by assumption) ?_
          rotate_left
          · intro w hSw
            (try dsimp only at hSw)
            (try obtain ⟨z0, z1, z2, z3, z4, z5, z6⟩ := hSw)
            go_simp <;> with_reducible rfl
          (try simp only [Act.put, List.setIfInBounds_toArray, List.set_cons_zero, List.set_cons_succ])
          refine take_w 15 (some 163) ?_ rfl rfl (by kernel_rfl) (by kernel_rfl) (by kernel_rfl) (fun _ _ _ h => h) (by rfl) ?_ (by assumption) ?_
          rotate_left
          · intro w hSw
            (try dsimp only at hSw)
            (try obtain ⟨z0, z1, z2, z3, z4, z5, z6⟩ := hSw)
            go_simp <;> with_reducible rfl
          (try simp only [Act.put, List.setIfInBounds_toArray, List.set_cons_zero, List.set_cons_succ])
          refine take_w 16 (some 164) ?_ rfl rfl (by kernel_rfl) (by kernel_rfl) (by kernel_rfl) (fun _ _ _ h => h) (by rfl) ?_ (by assumption) ?_
          rotate_left
          · intro w hSw
            (try dsimp only at hSw)
            (try obtain ⟨z0, z1, z2, z3, z4, z5, z6⟩ := hSw)
            go_simp <;> with_reducible rfl
          (try simp only [Act.put, List.setIfInBounds_toArray, List.set_cons_zero, List.set_cons_succ])
          refine take_w 17 (some 165) ?_ rfl rfl (by kernel_rfl) (by kernel_rfl) (by kernel_rfl) (fun _ _ _ h => h) (by rfl) ?_ (by assumption) ?_
          rotate_left
          · intro w hSw
            (try dsimp only at hSw)
            (try obtain ⟨z0, z1, z2, z3, z4, z5, z6⟩ := hSw)
            go_simp <;> with_reducible rfl
          (try simp only [Act.put, List.setIfInBounds_toArray, List.set_cons_zero, List.set_cons_succ])
          refine take_w 18 (some 166) ?_ rfl rfl (by kernel_rfl) (by kernel_rfl) (by kernel_rfl) (fun _ _ _ h => h) (by rfl) ?_ (by assumption) ?_
          rotate_left
          · intro w hSw
            (try dsimp only at hSw)
            (try obtain ⟨z0, z1, z2, z3, z4, z5, z6⟩ := hSw)
            go_simp <;> with_reducible rfl
          (try simp only [Act.put, List.setIfInBounds_toArray, List.set_cons_zero, List.set_cons_succ])
          refine take_w 19 (some 167) ?_ rfl rfl (by kernel_rfl) (by kernel_rfl) (by kernel_rfl) (fun _ _ _ h => h) (by rfl) ?_ (by assumption) ?_
          rotate_left
          · intro w hSw
            (try dsimp only at hSw)
            (try obtain ⟨z0, z1, z2, z3, z4, z5, z6⟩ := hSw)
            go_simp <;> with_reducible rfl
          (try simp only [Act.put, List.setIfInBounds_toArray, List.set_cons_zero, List.set_cons_succ])
          refine take_w 20 (some 168) ?_ rfl rfl (by kernel_rfl) (by kernel_rfl) (by kernel_rfl) (fun _ _ _ h => h) (by rfl) ?_ (by assumption) ?_
          rotate_left
          · intro w hSw
            (try dsimp only at hSw)
            (try obtain ⟨z0, z1, z2, z3, z4, z5, z6⟩ := hSw)
            go_simp <;> with_reducible rfl
          (try simp only [Act.put, List.setIfInBounds_toArray, List.set_cons_zero, List.set_cons_succ])
          refine take_w 21 (some 169) ?_ rfl rfl (by kernel_rfl) (by kernel_rfl) (by kernel_rfl) (fun _ _ _ h => h) (by rfl) ?_ (by assumption) ?_
          rotate_left
          · intro w hSw
            (try dsimp only at hSw)
            (try obtain ⟨z0, z1, z2, z3, z4, z5, z6⟩ := hSw)
            go_simp <;> with_reducible rfl
          (try simp only [Act.put, List.setIfInBounds_toArray, List.set_cons_zero, List.set_cons_succ])
          refine take_w 22 (some 170) ?_ rfl rfl (by kernel_rfl) (by kernel_rfl) (by kernel_rfl) (fun _ _ _ h => h) (by rfl) ?_ (by assumption) ?_
          rotate_left
          · intro w hSw
            (try dsimp only at hSw)
            (try obtain ⟨z0, z1, z2, z3, z4, z5, z6⟩ := hSw)
            go_simp <;> with_reducible rfl
          (try simp only [Act.put, List.setIfInBounds_toArray, List.set_cons_zero, List.set_cons_succ])
          refine take_w 23 (some 171) ?_ rfl rfl (by kernel_rfl) (by kernel_rfl) (by kernel_rfl) (fun _ _ _ h => h) (by rfl) ?_ (by assumption) ?_
          rotate_left
          · intro w hSw
            (try dsimp only at hSw)
            (try obtain ⟨z0, z1, z2, z3, z4, z5, z6⟩ := hSw)
            go_simp <;> with_reducible rfl
          (try simp only [Act.put, List.setIfInBounds_toArray, List.set_cons_zero, List.set_cons_succ])
          have HSA : Hid (∀ W : World, Below wr.heap.size wr W → W.cell? ⟨x, 1, none⟩ = some (.pointer (some ⟨d, 0, none⟩)) ∧ W.cell? (Addr.add ⟨wa.heap.size, 0, none⟩ (i * 5)) = some (.int .i64 a) ∧ W.cell? ⟨wa.heap.size, i * 5, none⟩ = some (.int .i64 a) ∧ W.cell? ⟨wa.heap.size, i * 5 + 1, none⟩ = some (.int .i64 c) ∧ W.cell? ⟨wa.heap.size, i * 5 + 2, none⟩ = some (.int .i64 l) ∧ W.cell? ⟨wa.heap.size, i * 5 + 3, none⟩ = some (.int .i64 b) ∧ True) := fun W hW => ⟨below_cell hW cx, below_cell hW c0, below_cell hW c5, below_cell hW c1, below_cell hW c2, below_cell hW c3, trivial⟩
          refine wpAnyH_ready (rs := [24, 28]) (by kernel_rfl) (by simp) ?_
          refine AllReadyH.cons rfl (fun K hK => ?_) ?_
          · clear hHeld
            go_simp
            refine (HRD.out _ (Below.refl _ wr).drew).mono ?_
            rintro e' w11 ⟨rfl, b11⟩
            have bA : Below wr.heap.size wr w11 := below_step b11 (Below.refl _ wr).drew (Nat.le_refl _)
            dsimp only
            refine hK.out _ _ (HSA.out _ bA) (fun hHeld => ?_)
            clear hK K
            (try simp only [Act.put, List.setIfInBounds_toArray, List.set_cons_zero, List.set_cons_succ])
            refine take_w 25 (some 147) ?_ rfl rfl (by kernel_rfl) (by kernel_rfl) (by kernel_rfl) (fun _ _ _ h => h) (by rfl) ?_ (by assumption) ?_
            rotate_left
            · intro w hSw
              go_simp <;> with_reducible rfl
            (try simp only [Act.put, List.setIfInBounds_toArray, List.set_cons_zero, List.set_cons_succ])
            refine take_w 26 (some 173) ?_ rfl rfl (by kernel_rfl) (by kernel_rfl) (by kernel_rfl) (fun _ _ _ h => h) (by rfl) ?_ (by assumption) ?_
            rotate_left
            · intro w hSw
              go_simp <;> with_reducible rfl
            (try simp only [Act.put, List.setIfInBounds_toArray, List.set_cons_zero, List.set_cons_succ])
            refine take_w 27 (some 174) ?_ rfl rfl (by kernel_rfl) (by kernel_rfl) (by kernel_rfl) (fun _ _ _ h => h) (by rfl) ?_ (by assumption) ?_
            rotate_left
            · intro w hSw
              go_simp <;> with_reducible rfl
            (try simp only [Act.put, List.setIfInBounds_toArray, List.set_cons_zero, List.set_cons_succ])
            refine wpAnyH_ready (rs := [28]) (by kernel_rfl) (by simp) ?_
            refine AllReadyH.cons rfl (fun K hK => ?_) AllReadyH.nil
            go_simp
            have bB : Below wr.heap.size wr (w11.alloc (.cells zcells 77)) := below_step (alloc_below w11 (.cells zcells 77)) bA (Nat.le_refl _)
            have bF : Below wr.heap.size wr (w11.alloc (.cells #[.int .i64 1, .int .i64 5, .int .i64 0, .int .i64 2, .int .u8 2, .string (S XD)] 77)) := below_step (alloc_below w11 (.cells #[.int .i64 1, .int .i64 5, .int .i64 0, .int .i64 2, .int .u8 2, .string (S XD)] 77)) bA (Nat.le_refl _)
            refine hK.out _ _ (HSA.out _ bB) (fun hHeld => ?_)
            clear hK K
            (try simp only [Act.put, List.setIfInBounds_toArray, List.set_cons_zero, List.set_cons_succ])
            refine wpAnyH_ready (rs := [29]) (by kernel_rfl) (by simp) ?_
            rcases hF with rfl | rfl
            · refine AllReadyH.cons rfl (fun K hK => ?_) AllReadyH.nil
              unfold zfrm
              go_simp
              clear hHeld
              refine hK.out _ _ (HSA.out _ bB) (fun hHeld => ?_)
              clear hK K
              (try simp only [Act.put, List.setIfInBounds_toArray, List.set_cons_zero, List.set_cons_succ])
              refine take_w 30 (some 17) ?_ rfl rfl (by kernel_rfl) (by kernel_rfl) (by kernel_rfl) (fun _ _ _ h => h) (by rfl) ?_ (by assumption) ?_
              rotate_left
              · intro w hSw
                go_simp <;> with_reducible rfl
              (try simp only [Act.put, List.setIfInBounds_toArray, List.set_cons_zero, List.set_cons_succ])
              refine wpAnyH_done (by kernel_rfl) ?_ _
              refine NoPanic.normal ?_
              have HBF := Lib.hid (below_step bB hb.out (Nat.le_refl _))
              have c9 := below_cell bB c4
              clear hHeld HSA HRD c0 c1 c2 c3 c4 c5 cx bA
              go_wp2_with (fail)
              go_roundw
              case rel => exact ⟨i + 1, hlt, by go_num, HBF.out⟩
              case measure => simp [intOf]; omega
            · refine AllReadyH.cons rfl (fun K hK => ?_) AllReadyH.nil
              go_simp
              clear hHeld
              refine hK.out _ _ (HSA.out _ bF) (fun hHeld => ?_)
              clear hK K
              (try simp only [Act.put, List.setIfInBounds_toArray, List.set_cons_zero, List.set_cons_succ])
              refine take_w 30 (some 17) ?_ rfl rfl (by kernel_rfl) (by kernel_rfl) (by kernel_rfl) (fun _ _ _ h => h) (by rfl) ?_ (by assumption) ?_
              rotate_left
              · intro w hSw
                go_simp <;> with_reducible rfl
              (try simp only [Act.put, List.setIfInBounds_toArray, List.set_cons_zero, List.set_cons_succ])
              refine wpAnyH_done (by kernel_rfl) ?_ _
              refine NoPanic.normal ?_
              have HBF := Lib.hid (below_step bF hb.out (Nat.le_refl _))
              have c9 := below_cell bF c4
              clear hHeld HSA HRD c0 c1 c2 c3 c4 c5 cx bA
              go_wp2_with (fail)
              go_roundw
              case rel => exact ⟨i + 1, hlt, by go_num, HBF.out⟩
              case measure => simp [intOf]; omega
          · clear hHeld
            refine AllReadyH.cons rfl (fun K hK => ?_) AllReadyH.nil
            go_simp
            have bA : Below wr.heap.size wr (wr.alloc (.cells zcells 77)).drew := (alloc_below wr (.cells zcells 77)).drew
            refine hK.out _ _ (HSA.out _ bA) (fun hHeld => ?_)
            clear hK K
            (try simp only [Act.put, List.setIfInBounds_toArray, List.set_cons_zero, List.set_cons_succ])
            refine wpAnyH_ready (rs := [24]) (by kernel_rfl) (by simp) ?_
            refine AllReadyH.cons rfl (fun K hK => ?_) AllReadyH.nil
            go_simp
            refine (HRD.out _ bA).mono ?_
            rintro e' w11 ⟨rfl, b11⟩
            have bB : Below wr.heap.size wr w11 := below_step b11 bA (Nat.le_refl _)
            have q11 : w11.heap[wr.heap.size]? = some (.cells zcells 77 (0, 0)) := (b11.block _ (by show wr.heap.size < (wr.alloc (.cells zcells 77)).heap.size; rw [alloc_size]; exact Nat.lt_succ_self _)).trans (alloc_new wr (.cells zcells 77))
            dsimp only
            clear hHeld
            refine hK.out _ _ (HSA.out _ bB) (fun hHeld => ?_)
            clear hK K
            (try simp only [Act.put, List.setIfInBounds_toArray, List.set_cons_zero, List.set_cons_succ])
            refine take_w 25 (some 147) ?_ rfl rfl (by kernel_rfl) (by kernel_rfl) (by kernel_rfl) (fun _ _ _ h => h) (by rfl) ?_ (by assumption) ?_
            rotate_left
            · intro w hSw
              go_simp <;> with_reducible rfl
            (try simp only [Act.put, List.setIfInBounds_toArray, List.set_cons_zero, List.set_cons_succ])
            refine take_w 26 (some 173) ?_ rfl rfl (by kernel_rfl) (by kernel_rfl) (by kernel_rfl) (fun _ _ _ h => h) (by rfl) ?_ (by assumption) ?_
            rotate_left
            · intro w hSw
              go_simp <;> with_reducible rfl
            (try simp only [Act.put, List.setIfInBounds_toArray, List.set_cons_zero, List.set_cons_succ])
            refine take_w 27 (some 174) ?_ rfl rfl (by kernel_rfl) (by kernel_rfl) (by kernel_rfl) (fun _ _ _ h => h) (by rfl) ?_ (by assumption) ?_
            rotate_left
            · intro w hSw
              go_simp <;> with_reducible rfl
            (try simp only [Act.put, List.setIfInBounds_toArray, List.set_cons_zero, List.set_cons_succ])
            have y0 := (cell_of q11 0).trans rfl
            have y1 := (cell_of q11 1).trans rfl
            have y2 := (cell_of q11 2).trans rfl
            have y3 := (cell_of q11 3).trans rfl
            have y4 := (cell_of q11 4).trans rfl
            have y5 := (cell_of q11 5).trans rfl
            have f0 := free_of q11 0
            have f1 := free_of q11 1
            have f2 := free_of q11 2
            have f3 := free_of q11 3
            have f4 := free_of q11 4
            have f5 := free_of q11 5
            refine wpAnyH_ready (rs := [29]) (by kernel_rfl) (by simp) ?_
            rcases hF with rfl | rfl
            · refine AllReadyH.cons rfl (fun K hK => ?_) AllReadyH.nil
              unfold zfrm
              go_simp
              have bC := below_set6 bB (Nat.le_refl _) (.int .i64 0) (.int .i64 0) (.int .i64 0) (.int .i64 0) (.int .u8 0) (.string ⟨#[]⟩)
              obtain ⟨w12, hw12⟩ : ∃ w12, (((((w11.setCell ⟨wr.heap.size, 0, none⟩ (.int .i64 0)).setCell ⟨wr.heap.size, 1, none⟩ (.int .i64 0)).setCell ⟨wr.heap.size, 2, none⟩ (.int .i64 0)).setCell ⟨wr.heap.size, 3, none⟩ (.int .i64 0)).setCell ⟨wr.heap.size, 4, none⟩ (.int .u8 0)).setCell ⟨wr.heap.size, 5, none⟩ (.string ⟨#[]⟩) = w12 := ⟨_, rfl⟩
              rw [hw12] at bC ⊢
              clear hHeld hw12 y0 y1 y2 y3 y4 y5 f0 f1 f2 f3 f4 f5 q11 b11
              refine hK.out _ _ (HSA.out _ bC) (fun hHeld => ?_)
              clear hK K
              (try simp only [Act.put, List.setIfInBounds_toArray, List.set_cons_zero, List.set_cons_succ])
              refine take_w 30 (some 17) ?_ rfl rfl (by kernel_rfl) (by kernel_rfl) (by kernel_rfl) (fun _ _ _ h => h) (by rfl) ?_ (by assumption) ?_
              rotate_left
              · intro w hSw
                go_simp <;> with_reducible rfl
              (try simp only [Act.put, List.setIfInBounds_toArray, List.set_cons_zero, List.set_cons_succ])
              refine wpAnyH_done (by kernel_rfl) ?_ _
              refine NoPanic.normal ?_
              have HBF := Lib.hid (below_step bC hb.out (Nat.le_refl _))
              have c9 := below_cell bC c4
              clear hHeld HSA HRD c0 c1 c2 c3 c4 c5 cx bA
              go_wp2_with (fail)
              go_roundw
              case rel => exact ⟨i + 1, hlt, by go_num, HBF.out⟩
              case measure => simp [intOf]; omega
            · refine AllReadyH.cons rfl (fun K hK => ?_) AllReadyH.nil
              go_simp
              have bC := below_set6 bB (Nat.le_refl _) (.int .i64 1) (.int .i64 5) (.int .i64 0) (.int .i64 2) (.int .u8 2) (.string (S XD))
              obtain ⟨w12, hw12⟩ : ∃ w12, (((((w11.setCell ⟨wr.heap.size, 0, none⟩ (.int .i64 1)).setCell ⟨wr.heap.size, 1, none⟩ (.int .i64 5)).setCell ⟨wr.heap.size, 2, none⟩ (.int .i64 0)).setCell ⟨wr.heap.size, 3, none⟩ (.int .i64 2)).setCell ⟨wr.heap.size, 4, none⟩ (.int .u8 2)).setCell ⟨wr.heap.size, 5, none⟩ (.string (S XD)) = w12 := ⟨_, rfl⟩
              rw [hw12] at bC ⊢
              clear hHeld hw12 y0 y1 y2 y3 y4 y5 f0 f1 f2 f3 f4 f5 q11 b11
              refine hK.out _ _ (HSA.out _ bC) (fun hHeld => ?_)
              clear hK K
              (try simp only [Act.put, List.setIfInBounds_toArray, List.set_cons_zero, List.set_cons_succ])
              refine take_w 30 (some 17) ?_ rfl rfl (by kernel_rfl) (by kernel_rfl) (by kernel_rfl) (fun _ _ _ h => h) (by rfl) ?_ (by assumption) ?_
              rotate_left
              · intro w hSw
                go_simp <;> with_reducible rfl
              (try simp only [Act.put, List.setIfInBounds_toArray, List.set_cons_zero, List.set_cons_succ])
              refine wpAnyH_done (by kernel_rfl) ?_ _
              refine NoPanic.normal ?_
              have HBF := Lib.hid (below_step bC hb.out (Nat.le_refl _))
              have c9 := below_cell bC c4
              clear hHeld HSA HRD c0 c1 c2 c3 c4 c5 cx bA
              go_wp2_with (fail)
              go_roundw
              case rel => exact ⟨i + 1, hlt, by go_num, HBF.out⟩
              case measure => simp [intOf]; omega
        · obtain rfl : i = 10 := by omega
          have HBr := Lib.hid (HB10.out.below hb.out)
          clear hb HB10 HL2
          go_wp2_with (fail)
          refine (read_nil 0 0 1 1 wr).mono ?_
          unfold zfrm
          rintro e' w12 ⟨rfl, b12⟩
          have HB12 := Lib.hid (HBr.out.below b12)
          have cx0 := HB12.out.x0
          clear b12 HBr
          go_wp2_with (fail)
          refine (farm_any f .idle 0 w12 HB12.out.lab.fuse).mono ?_
          rintro e' w13 ⟨rfl, hw13⟩
          have h13 := HB12.out.dfuse (z' := .armed 0) (by decide)
          rw [show setBlock w12 f (Fz.armed 0).obj = w13 from hw13.symm] at h13
          have HB13 := Lib.hid h13
          have cx1 := HB13.out.x0
          clear h13 hw13 cx0 HB12
          go_wp2_with (fail)
          refine (fburn_any f (.armed 0) w13 HB13.out.lab.fuse).mono ?_
          rintro e' w14 ⟨rfl, hw14⟩
          have h14 := HB13.out.dfuse (z' := .blown) (by decide)
          rw [show setBlock w13 f Fz.blown.obj = w14 from hw14.symm] at h14
          have HB14 := Lib.hid h14
          have cx2 := HB14.out.x1
          have hrd := read_any d f m v8 xD .blown 3 5 5 1 w14 HB14.out.lab
          rw [x_dead] at hrd
          clear h14 hw14 cx1 HB13
          go_wp2_with (fail)
          refine hrd.mono ?_
          unfold zfrm
          rintro e' w15 ⟨rfl, b15⟩
          have HB15 := Lib.hid (below_step (HB14.out.below b15).bel HB0.out (Nat.le_refl _))
          go_wp2
          go_ret
          exact ⟨rfl, HB15.out⟩
theorem recordExamples_row (W : World) : Calls Try.prog 13 #[] W fun e w' => e = .returned (.bool true) ∧ Below W.heap.size W w' := recordExamples_any W
end Go.Proofs.Ytjpelmjocdodcaa
