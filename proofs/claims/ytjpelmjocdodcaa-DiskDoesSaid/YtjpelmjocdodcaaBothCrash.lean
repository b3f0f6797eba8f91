/- sacristanlaw04: Both.Crash. -/
import Derived.Test.YtjpelmjocdodcaaBoth
namespace Go.Proofs.Ytjpelmjocdodcaa
open Go.RowKit Go.ChangeMaps

theorem keep4w {W w' : World} {S : Nat → Prop} {a b c d : Addr} {x y z u : Value} (h : W.cell? a = some x ∧ W.cell? b = some y ∧ W.cell? c = some z ∧ W.cell? d = some u) (k : Keeps S W w') (ha : ¬ S a.block) (hb : ¬ S b.block) (hc : ¬ S c.block) (hd : ¬ S d.block) :
    w'.cell? a = some x ∧ w'.cell? b = some y ∧ w'.cell? c = some z ∧ w'.cell? d = some u := ⟨k.cell h.1 ha, k.cell h.2.1 hb, k.cell h.2.2.1 hc, k.cell h.2.2.2 hd⟩
set_option maxRecDepth 100000 in
set_option maxHeartbeats 4000000 in
theorem bothcrash_any (w0 w : World) (x d f m : Nat) (v : Value) (r g sb : Nat) (pv : Value) (D : Dk) (z : Fz) (E : Dk) (y : Fz) (keep torn bytes : Int) (h : BothAt w0 w x d f m v r g sb pv D z E y) :
    Calls Try.prog 63 #[.pointer (some ⟨x, 0, none⟩), .agg #[.int .u64 keep, .int .i64 torn, .int .i64 bytes]] w fun e w' => e = .returned (.tuple #[]) ∧
      BothAt w0 w' x d f m (.slice none 0 0) r g sb (.slice none 0 0) (D.crash keep torn bytes) .idle (E.crash keep torn bytes) .idle ∧ Keeps (fun k => Own d f m v k ∨ ROwn r g sb pv k) w w' := by
  have m1 := alloc_new w (.cells #[.int .u64 keep, .int .i64 torn, .int .i64 bytes] 39)
  have b1 := alloc_below w (.cells #[.int .u64 keep, .int .i64 torn, .int .i64 bytes] 39)
  have hdm : ¬ (w.heap.size = d ∨ w.heap.size = m) := fun e => by
    rcases e with e | e
    · have := h.lab.lt (.inl rfl); omega
    · have := h.lab.lt (.inr (.inr (.inl rfl))); omega
  have hrs : ¬ (w.heap.size = r ∨ w.heap.size = sb) := fun e => by
    rcases e with e | e
    · have := h.rat.rlt h.rfz (.inl rfl); omega
    · have := h.rat.rlt h.rfz (.inr (.inr (.inl rfl))); omega
  have HH := Lib.hid h
  clear h
  go_enter Try.func63, Try.ntmps63
  obtain ⟨w1, hw1⟩ : ∃ w1, w.alloc (.cells #[.int .u64 keep, .int .i64 torn, .int .i64 bytes] 39) = w1 := ⟨_, rfl⟩
  rw [hw1] at m1 b1
  have H1 := Lib.hid (HH.out.below b1)
  have HK1 : Hid (Keeps (fun k => Own d f m v k ∨ ROwn r g sb pv k) w w1.drew) := (Keeps.of_below b1).drew
  have M1 := Lib.hid m1
  have H1d := Lib.hid (H1.out.below (Below.refl _ w1).drew)
  have K1 : Hid (w1.drew.cell? ⟨x, 1, none⟩ = some (.pointer (some ⟨d, 0, none⟩)) ∧ w1.drew.cell? ⟨w.heap.size, 0, none⟩ = some (.int .u64 keep) ∧ w1.drew.cell? ⟨w.heap.size, 1, none⟩ = some (.int .i64 torn) ∧ w1.drew.cell? ⟨w.heap.size, 2, none⟩ = some (.int .i64 bytes)) :=
    ⟨H1d.out.x1, (cell_of (w := w1.drew) m1 0).trans rfl, (cell_of (w := w1.drew) m1 1).trans rfl, (cell_of (w := w1.drew) m1 2).trans rfl⟩
  have hxd : ¬ (x = d ∨ x = m) := fun e => HH.out.xo (by rcases e with e | e; exact .inl e; exact .inr (.inr (.inl e)))
  have hxr : ¬ (x = r ∨ x = sb) := fun e => HH.out.xr (by rcases e with e | e; exact .inl e; exact .inr (.inr (.inl e)))
  have HXD := Lib.hid hxd
  have HXR := Lib.hid hxr
  have HDM := Lib.hid hdm
  have HRS := Lib.hid hrs
  clear m1 b1 hxd hxr hdm hrs HH
  go_wp2_with (fail)
  refine wp_region_noPanic ?_
  go_region_held3 (fun w' => w'.cell? ⟨x, 1, none⟩ = some (.pointer (some ⟨d, 0, none⟩)) ∧ w'.cell? ⟨w.heap.size, 0, none⟩ = some (.int .u64 keep) ∧ w'.cell? ⟨w.heap.size, 1, none⟩ = some (.int .i64 torn) ∧ w'.cell? ⟨w.heap.size, 2, none⟩ = some (.int .i64 bytes)) (first | exact K1.out | exact keep4w (by assumption) k2 HXD.out HDM.out HDM.out HDM.out)
    (first | (go_at_call 23; refine (dcrash_any d f m v D keep torn bytes _ H1d.out.lab.disk).mono ?_; rintro e w2 ⟨rfl, hd2, k2⟩))
  refine NoPanic.normal ?_
  have H2 := Lib.hid (H1d.out.dcrash hd2 k2)
  have HK2 : Hid (Keeps (fun k => Own d f m v k ∨ ROwn r g sb pv k) w w2.drew) := (HK1.out.trans (k2.mono (fun k _ h => .inl (by rcases h with rfl | rfl; exact .inl rfl; exact .inr (.inr (.inl rfl)))))).drew
  have M2 := Lib.hid ((k2.block w.heap.size (Array.getElem?_eq_some_iff.1 M1.out).1 HDM.out).trans M1.out)
  clear hd2 k2 K1 M1 H1 H1d
  have H2d := Lib.hid (H2.out.below (Below.refl _ w2).drew)
  have K2 : Hid (w2.drew.cell? ⟨x, 3, none⟩ = some (.pointer (some ⟨r, 0, none⟩)) ∧ w2.drew.cell? ⟨w.heap.size, 0, none⟩ = some (.int .u64 keep) ∧ w2.drew.cell? ⟨w.heap.size, 1, none⟩ = some (.int .i64 torn) ∧ w2.drew.cell? ⟨w.heap.size, 2, none⟩ = some (.int .i64 bytes)) :=
    ⟨H2d.out.x3, (cell_of (w := w2.drew) M2.out 0).trans rfl, (cell_of (w := w2.drew) M2.out 1).trans rfl, (cell_of (w := w2.drew) M2.out 2).trans rfl⟩
  go_wp2_with (fail)
  refine wp_region_noPanic ?_
  go_region_held3 (fun w' => w'.cell? ⟨x, 3, none⟩ = some (.pointer (some ⟨r, 0, none⟩)) ∧ w'.cell? ⟨w.heap.size, 0, none⟩ = some (.int .u64 keep) ∧ w'.cell? ⟨w.heap.size, 1, none⟩ = some (.int .i64 torn) ∧ w'.cell? ⟨w.heap.size, 2, none⟩ = some (.int .i64 bytes)) (first | exact K2.out | exact keep4w (by assumption) k3 HXR.out HRS.out HRS.out HRS.out)
    (first | (go_at_call 80; refine (rdcrash_any r g sb pv E keep torn bytes _ H2d.out.rat).mono ?_; rintro e w3 ⟨rfl, hr3, k3⟩))
  refine NoPanic.normal ?_
  have H3 := Lib.hid (H2d.out.rcrash hr3 k3)
  have HK3 : Hid (Keeps (fun k => Own d f m v k ∨ ROwn r g sb pv k) w w3) := HK2.out.trans (k3.mono (fun k _ h => .inr (by rcases h with rfl | rfl; exact .inl rfl; exact .inr (.inr (.inl rfl)))))
  clear hr3 k3 K2 M2 H2 H2d
  have x0 := H3.out.x0
  go_wp2_with (fail)
  refine (freset_any f z w3 H3.out.lab.fuse).mono ?_
  rintro e w4 ⟨rfl, rfl⟩
  have H4 := Lib.hid (H3.out.dfuse (z' := .idle) (by show 0 ≤ 9223372036854775807; omega))
  have HK4 : Hid (Keeps (fun k => Own d f m v k ∨ ROwn r g sb pv k) w (setBlock w3 f Fz.idle.obj)) := Keeps.setBlock (S := fun k => Own d f m v k ∨ ROwn r g sb pv k) HK3.out (fun _ => .inl (.inr (.inl rfl))) _
  clear x0 H3
  generalize setBlock w3 f Fz.idle.obj = w4 at H4 HK4 ⊢
  have x2 := H4.out.x2
  go_wp2_with (fail)
  refine (rfreset_any g y w4 H4.out.rfz).mono ?_
  rintro e w5 ⟨rfl, rfl⟩
  have H5 := Lib.hid (H4.out.rfuse (y' := .idle) (by show 0 ≤ 9223372036854775807; omega))
  have HK5 : Hid (Keeps (fun k => Own d f m v k ∨ ROwn r g sb pv k) w (setBlock w4 g Fz.idle.robj)) := Keeps.setBlock (S := fun k => Own d f m v k ∨ ROwn r g sb pv k) HK4.out (fun _ => .inr (.inr (.inl rfl))) _
  clear x2 H4
  go_wp2_with (fail)
  go_end0
  exact ⟨rfl, H5.out, HK5.out⟩
end Go.Proofs.Ytjpelmjocdodcaa
