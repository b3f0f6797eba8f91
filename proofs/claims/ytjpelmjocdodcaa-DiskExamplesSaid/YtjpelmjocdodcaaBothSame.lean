/- sacristanlaw04: Both.Same, Both.Arm. -/
import Derived.Test.YtjpelmjocdodcaaBoth
namespace Go.Proofs.Ytjpelmjocdodcaa
open Go.RowKit Go.ChangeMaps

set_option maxRecDepth 100000 in
set_option maxHeartbeats 8000000 in
theorem same_any (w0 w : World) (x d f m : Nat) (v : Value) (r g sb : Nat) (pv : Value) (D : Dk) (z : Fz) (h : BothAt w0 w x d f m v r g sb pv D z D z) (hP : D.P.length ≤ 1000000) :
    Calls Try.prog 37 #[.pointer (some ⟨x, 0, none⟩)] w fun e w' => e = .returned (.bool true) ∧ Below w.heap.size w w' := by
  have HH := Lib.hid h
  have HS : Hid (∀ W : World, Below w.heap.size w W → W.cell? ⟨x, 1, none⟩ = some (.pointer (some ⟨d, 0, none⟩)) ∧ W.cell? ⟨x, 3, none⟩ = some (.pointer (some ⟨r, 0, none⟩)) ∧ W.cell? ⟨r, 0, none⟩ = some (.slice (some ⟨sb, 0, none⟩) D.S.length D.S.length) ∧ W.cell? ⟨r, 3, none⟩ = some (.bool D.full)) := fun W hW => ⟨(HH.out.below hW).x1, (HH.out.below hW).x3, (HH.out.below hW).rat.c0, (HH.out.below hW).rat.c3⟩
  have HSEC : Hid (∀ W, Below w.heap.size w W → Calls Try.prog 35 #[.pointer (some ⟨d, 0, none⟩)] W fun e w' => e = .returned (.int .i64 D.S.length) ∧ w' = W) := fun W hW => dsectors_any d f m v D W (HH.out.below hW).lab.disk
  have HPD : Hid (∀ W, Below w.heap.size w W → Calls Try.prog 18 #[.pointer (some ⟨d, 0, none⟩)] W (SomeInts W (pendNs D.P))) := fun W hW => dpending_any d f m v D W (HH.out.below hW).lab.disk hP
  have HPR : Hid (∀ W, Below w.heap.size w W → Calls Try.prog 66 #[.pointer (some ⟨r, 0, none⟩)] W (SomeInts W (pendNs D.P))) := fun W hW => rdpending_any r g sb pv D W (HH.out.below hW).rat hP
  have HEQ : Hid (∀ (u u2 : Value) (W : World), W.ownsRow 0 3 1 u (pendNs D.P).length (intsOf (pendNs D.P)) → W.ownsRow 0 3 1 u2 (pendNs D.P).length (intsOf (pendNs D.P)) → Calls Try.prog 30 #[u, u2] W fun e w' => e = .returned (.bool true) ∧ Below W.heap.size W w') := fun u u2 W h1 h2 => eqInts_same u u2 _ (by simp [pendNs]; omega) W h1 h2
  have HFU : Hid (∀ W, Below w.heap.size w W → Calls Try.prog 34 #[.pointer (some ⟨d, 0, none⟩)] W fun e w' => e = .returned (.bool D.full) ∧ w' = W) := fun W hW => dfull_any d f m v D W (HH.out.below hW).lab.disk
  have hok := h.lab.disk.ok
  unfold Dk.Ok at hok
  obtain ⟨hl1, hl2, -, -⟩ := hok
  clear h hP
  go_enter Try.func37, Try.ntmps37
  go_upto_region 1 with (fail)
  refine wp_region_noPanic ?_
  go_region_held3 (fun w' => w'.cell? ⟨x, 1, none⟩ = some (.pointer (some ⟨d, 0, none⟩)) ∧ w'.cell? ⟨x, 3, none⟩ = some (.pointer (some ⟨r, 0, none⟩)) ∧ w'.cell? ⟨r, 0, none⟩ = some (.slice (some ⟨sb, 0, none⟩) D.S.length D.S.length) ∧ w'.cell? ⟨r, 3, none⟩ = some (.bool D.full))
    (first | exact HS.out _ (Below.refl _ w).drew | exact HS.out _ (below_step b1 (Below.refl _ w).drew (Nat.le_refl _)) | exact HS.out _ (below_step b2 (Below.refl _ w).drew (Nat.le_refl _)) | exact HS.out _ (below_step b2 (below_step b1 (Below.refl _ w).drew (Nat.le_refl _)) (Nat.le_refl _)) | exact HS.out _ (below_step b1 (below_step b2 (Below.refl _ w).drew (Nat.le_refl _)) (Nat.le_refl _)) | exact HS.out _ bT)
    (first | (go_at_call 35; refine (HSEC.out _ (Below.refl _ w).drew).mono ?_; rintro e w' ⟨rfl, rfl⟩) | (go_at_call 18; (have hq := b2); clear hq; refine (HPD.out _ (below_step b2 (Below.refl _ w).drew (Nat.le_refl _))).mono ?_; rintro e w11 ⟨u1, rfl, o1, -, b1⟩) | (go_at_call 18; refine (HPD.out _ (Below.refl _ w).drew).mono ?_; rintro e w11 ⟨u1, rfl, o1, -, b1⟩) | (go_at_call 66; (have hq := b1); clear hq; refine (HPR.out _ (below_step b1 (Below.refl _ w).drew (Nat.le_refl _))).mono ?_; rintro e w12 ⟨u2, rfl, o2, -, b2⟩) | (go_at_call 66; refine (HPR.out _ (Below.refl _ w).drew).mono ?_; rintro e w12 ⟨u2, rfl, o2, -, b2⟩) | (go_at_call 30; refine (HEQ.out _ _ _ (row_keeps (S := fun _ => False) o1 (.of_below b2) (fun _ _ => id)) o2).mono ?_; rintro e w13 ⟨rfl, b3⟩; have bT := below_step b3 (below_step b2 (below_step b1 (Below.refl _ w).drew (Nat.le_refl _)) (Nat.le_refl _)) (Nat.le_refl _)) | (go_at_call 30; refine (HEQ.out _ _ _ o1 (row_keeps (S := fun _ => False) o2 (.of_below b1) (fun _ _ => id))).mono ?_; rintro e w13 ⟨rfl, b3⟩; have bT := below_step b3 (below_step b1 (below_step b2 (Below.refl _ w).drew (Nat.le_refl _)) (Nat.le_refl _)) (Nat.le_refl _)) | (go_at_call 34; refine (HFU.out _ bT).mono ?_; rintro e w' ⟨rfl, rfl⟩))
  refine NoPanic.normal ?_
  have HB1 := Lib.hid bT
  clear o1 o2 b1 b2 b3 bT HSEC HPD HPR HEQ HFU
  obtain ⟨wo, rfl⟩ : ∃ wo : World, wo = w' := ⟨_, rfl⟩
  go_wp2_with (fail)
  go_loopw [3] (fun v3 wr => ∃ i : Nat, i ≤ D.S.length ∧ v3 = .int .i64 i ∧ Hid (Below w.heap.size w wr)) (fun v3 _ => D.S.length - (intOf v3).toNat)
  case atStart => exact ⟨0, Nat.zero_le _, rfl, HB1.out⟩
  case round =>
    obtain ⟨i, hi, rfl, hB⟩ := hrel
    obtain ⟨cx1, cx3, cr0, -⟩ := HS.out _ hB.out
    by_cases hlt : i < D.S.length
    · have hrd := dread_any d f m v D z i wr (HH.out.below hB.out).lab.disk (HH.out.below hB.out).lab.fuse
      have hrr : ∀ W, Below w.heap.size w W → Calls Try.prog 59 #[.pointer (some ⟨r, 0, none⟩), .int .i64 (i : Int)] W fun e w' => e = .returned (.tuple #[.string (S (doRead D z i).1), .int .i64 (doRead D z i).2]) ∧ w' = W := fun W hW => rdread_any r g sb pv D z i W (HH.out.below hW).rat (HH.out.below hW).rfz
      obtain ⟨⟨s1, e1⟩, hse⟩ : ∃ p, doRead D z i = p := ⟨_, rfl⟩
      rw [hse] at hrd hrr
      dsimp only at hrd hrr
      have HRR := Lib.hid hrr
      have HDU : Hid (∀ W, Below w.heap.size w W → Calls Try.prog 21 #[.pointer (some ⟨d, 0, none⟩), .int .i64 (i : Int)] W fun e w' => e = .returned (.string (S (secAt D.S i))) ∧ Below W.heap.size W w') := fun W hW => by
        have := ddurable_any d f m v D i W (HH.out.below hW).lab.disk
        rw [show doDurable D i = secAt D.S i by unfold doDurable hasE; rw [if_pos (if_pos ⟨by omega, by omega⟩), Int.toNat_natCast]] at this
        exact this
      clear hrr hse
      go_wp2_with (fail)
      refine hrd.mono ?_
      rintro e w3 ⟨rfl, b3⟩
      have hB3 : Hid (Below w.heap.size w w3) := below_step b3 hB.out (Nat.le_refl _)
      clear b3 hrd cx1 cx3 cr0 hB
      obtain ⟨cx1, cx3, cr0, -⟩ := HS.out _ hB3.out
      go_wp2_with (fail)
      refine (HRR.out _ hB3.out).mono ?_
      rintro e w4 ⟨rfl, rfl⟩
      have HSL : Hid (∀ W : World, Below w.heap.size w W → W.cell? ⟨x, 1, none⟩ = some (.pointer (some ⟨d, 0, none⟩)) ∧ W.cell? ⟨x, 3, none⟩ = some (.pointer (some ⟨r, 0, none⟩)) ∧ W.cell? ⟨r, 0, none⟩ = some (.slice (some ⟨sb, 0, none⟩) D.S.length D.S.length) ∧ W.cell? (Addr.add ⟨sb, 0, none⟩ i) = some (.string (S (secAt D.S i))) ∧ W.cell? ⟨sb, i, none⟩ = some (.string (S (secAt D.S i)))) := fun W hW => by
        have hs := (HH.out.below hW).rat.sec_at hlt
        exact ⟨(HH.out.below hW).x1, (HH.out.below hW).x3, (HH.out.below hW).rat.c0, by rw [add_eq, Nat.zero_add]; exact hs, hs⟩
      clear cx1 cx3 cr0 HRR
      go_upto_region 8 with (fail)
      refine wp_region_noPanic ?_
      go_region_held3 (fun w' => w'.cell? ⟨x, 1, none⟩ = some (.pointer (some ⟨d, 0, none⟩)) ∧ w'.cell? ⟨x, 3, none⟩ = some (.pointer (some ⟨r, 0, none⟩)) ∧ w'.cell? ⟨r, 0, none⟩ = some (.slice (some ⟨sb, 0, none⟩) D.S.length D.S.length) ∧ w'.cell? (Addr.add ⟨sb, 0, none⟩ i) = some (.string (S (secAt D.S i))) ∧ w'.cell? ⟨sb, i, none⟩ = some (.string (S (secAt D.S i))))
        (first | exact HSL.out _ hB3.out.drew | exact HSL.out _ (below_step b5 hB3.out.drew (Nat.le_refl _)))
        (first | (go_at_call 21; refine (HDU.out _ hB3.out.drew).mono ?_; rintro e w5 ⟨rfl, b5⟩))
      refine NoPanic.normal ?_
      have HB5 := Lib.hid (below_step b5 hB3.out.drew (Nat.le_refl _))
      clear b5 hB3 HSL HDU
      go_wp2_with (fail)
      go_roundw
      case rel => exact ⟨i + 1, hlt, by go_num, HB5.out⟩
      case measure => simp [intOf]; omega
    · obtain rfl : i = D.S.length := by omega
      go_wp2
      go_ret
      exact ⟨rfl, hB.out⟩
theorem arm_left {z : Fz} {k : Int} (hz : z.left ≤ 9223372036854775807) (hk : k ≤ 9223372036854775807) : (z.arm k).2.left ≤ 9223372036854775807 := by
  unfold Fz.arm
  split
  · exact hz
  · split
    · exact hz
    · show k.toNat ≤ _; omega
theorem k2same {W w' : World} {S : Nat → Prop} {x y : Addr} {u v : Value} (h : W.cell? x = some u ∧ W.cell? y = some v) (k : Keeps S W w') (hx : ¬ S x.block) (hy : ¬ S y.block) : w'.cell? x = some u ∧ w'.cell? y = some v := ⟨k.cell h.1 hx, k.cell h.2 hy⟩
set_option maxRecDepth 100000 in
set_option maxHeartbeats 4000000 in
theorem botharm_any (w0 w : World) (x d f m : Nat) (v : Value) (r g sb : Nat) (pv : Value) (D : Dk) (z : Fz) (E : Dk) (k : Int) (h : BothAt w0 w x d f m v r g sb pv D z E z) (hk : k ≤ 9223372036854775807) :
    Calls Try.prog 64 #[.pointer (some ⟨x, 0, none⟩), .int .i64 k] w fun e w' => e = .returned (.bool true) ∧ BothAt w0 w' x d f m v r g sb pv D (z.arm k).2 E (z.arm k).2 := by
  have HA : Hid (∀ W y', BothAt w0 W x d f m v r g sb pv D z E y' → Calls Try.prog 32 #[.pointer (some ⟨f, 0, none⟩), .int .i64 k] W fun e w' => e = .returned (.int .i64 (z.arm k).1) ∧ BothAt w0 w' x d f m v r g sb pv D (z.arm k).2 E y' ∧ Keeps (fun j => j = f) W w') := fun W y' hW => by
    refine (farm_any f z k W hW.lab.fuse).mono ?_
    rintro e w' ⟨rfl, rfl⟩
    exact ⟨rfl, hW.dfuse (arm_left hW.lab.fuse.2 hk), Keeps.setBlock (S := fun j => j = f) (.refl _ _) (fun _ => rfl) _⟩
  have HR : Hid (∀ W z', BothAt w0 W x d f m v r g sb pv D z' E z → Calls Try.prog 83 #[.pointer (some ⟨g, 0, none⟩), .int .i64 k] W fun e w' => e = .returned (.int .i64 (z.arm k).1) ∧ BothAt w0 w' x d f m v r g sb pv D z' E (z.arm k).2 ∧ Keeps (fun j => j = g) W w') := fun W z' hW => by
    refine (rfarm_any g z k W hW.rfz).mono ?_
    rintro e w' ⟨rfl, rfl⟩
    exact ⟨rfl, hW.rfuse (arm_left hW.rfz.2 hk), Keeps.setBlock (S := fun j => j = g) (.refl _ _) (fun _ => rfl) _⟩
  have hd := h.below (Below.refl _ w).drew
  have HD := Lib.hid hd
  have HC : Hid (w.drew.cell? ⟨x, 0, none⟩ = some (.pointer (some ⟨f, 0, none⟩)) ∧ w.drew.cell? ⟨x, 2, none⟩ = some (.pointer (some ⟨g, 0, none⟩))) := ⟨hd.x0, hd.x2⟩
  have HXF : Hid (¬ x = f) := fun e => hd.xo (.inr (.inl e))
  have HXG : Hid (¬ x = g) := fun e => hd.xr (.inr (.inl e))
  obtain ⟨ar, har⟩ : ∃ ar, (z.arm k).1 = ar := ⟨_, rfl⟩
  rw [har] at HA HR
  clear h hd har
  go_enter Try.func64, Try.ntmps64
  go_upto_region 1 with (fail)
  refine wp_region_noPanic ?_
  go_region_held3 (fun w' => w'.cell? ⟨x, 0, none⟩ = some (.pointer (some ⟨f, 0, none⟩)) ∧ w'.cell? ⟨x, 2, none⟩ = some (.pointer (some ⟨g, 0, none⟩)))
    (first | exact HC.out | exact k2same (by assumption) k1 HXF.out HXF.out | exact k2same (by assumption) k2 HXG.out HXG.out)
    (first | (go_at_call 32; (have hq := h2); clear hq; refine (HA.out _ _ h2).mono ?_; rintro e w1 ⟨rfl, h1, k1⟩) | (go_at_call 32; refine (HA.out _ _ HD.out).mono ?_; rintro e w1 ⟨rfl, h1, k1⟩) | (go_at_call 83; (have hq := h1); clear hq; refine (HR.out _ _ h1).mono ?_; rintro e w2 ⟨rfl, h2, k2⟩) | (go_at_call 83; refine (HR.out _ _ HD.out).mono ?_; rintro e w2 ⟨rfl, h2, k2⟩))
  all_goals refine NoPanic.normal ?_
  all_goals go_wp2
  all_goals go_ret
  all_goals first | exact ⟨by simp, h2⟩ | exact ⟨by simp, h1⟩
end Go.Proofs.Ytjpelmjocdodcaa
