/- SlotsExamples. -/
import Derived.Test.YtgnhpbolmfbngaaSltEx
namespace Go.Proofs.Ytgnhpbolmfbngaa
open Go.RowKit Go.ChangeMaps

theorem k2w {W w' : World} {S : Nat → Prop} {x y : Addr} {u v : Value} (h : W.cell? x = some u ∧ W.cell? y = some v) (k : Keeps S W w') (hx : ¬ S x.block) (hy : ¬ S y.block) : w'.cell? x = some u ∧ w'.cell? y = some v := ⟨k.cell h.1 hx, k.cell h.2 hy⟩
theorem k2b {W w' : World} {x y : Addr} {u v : Value} (h : W.cell? x = some u ∧ W.cell? y = some v) (b : Below W.heap.size W w') : w'.cell? x = some u ∧ w'.cell? y = some v := ⟨below_cell b h.1, below_cell b h.2⟩
theorem BothAt.other {w0 w w' : World} {x d f m : Nat} {v : Value} {r g sb : Nat} {pv : Value} {D : Dk} {z : Fz} {E : Dk} {y : Fz} (h : BothAt w0 w x d f m v r g sb pv D z E y) {S : Nat → Prop} (k : Keeps S w w') (h1 : ∀ j, S j → ¬ Own d f m v j) (h2 : ∀ j, S j → ¬ ROwn r g sb pv j) (h3 : ¬ S x) (h4 : ∀ j, j < w0.heap.size → ¬ S j) :
    BothAt w0 w' x d f m v r g sb pv D z E y :=
  ⟨(k.block x h.xlt h3).trans h.xb, h.lab.keeps k (fun j hj e => h1 j e hj), h.rat.keeps k (fun e => h2 _ e (.inl rfl)) (fun e => h2 _ e (.inr (.inr (.inl rfl)))) (fun _ hj e => h2 _ e (.inr (.inr (.inr hj)))), h.rfz.keeps k (fun e => h2 _ e (.inr (.inl rfl))), h.apart, h.xo, h.xr, h.frm,
    k.belowOf h.bel h.bel.size (fun j hj e => h4 j hj e)⟩
theorem BothAt.rebase {w00 w0 w : World} {x d f m : Nat} {v : Value} {r g sb : Nat} {pv : Value} {D : Dk} {z : Fz} {E : Dk} {y : Fz} (h : BothAt w0 w x d f m v r g sb pv D z E y) (b : Below w00.heap.size w00 w0) : BothAt w00 w x d f m v r g sb pv D z E y :=
  ⟨h.xb, h.lab, h.rat, h.rfz, h.apart, h.xo, h.xr, fun k hk => Nat.le_trans b.size (h.frm k hk), below_step h.bel b (Nat.le_refl _)⟩
theorem own_off {d f m gb n : Nat} {v v' : Value} (h : ∀ k, v'.ownBlock = some k → v.ownBlock = some k ∨ n ≤ k) (hG : ¬ Own d f m v gb) (hlt : gb < n) : ¬ Own d f m v' gb := fun ho => by
  rcases own_new h ho with o | o
  · exact hG o
  · omega
abbrev hc11 : Array Value := #[.int .i64 1, .int .i64 1, .int .i64 0, .int .i64 1, .int .i64 0]
abbrev hc00 : Array Value := #[.int .i64 0, .int .i64 0, .int .i64 0, .int .i64 0, .int .i64 0]
theorem set1h {w : World} {b : Nat} {C : Array Value} {t : TypeId} {fr : Nat × Nat} (h : w.heap[b]? = some (Obj.cells C t fr)) (o : Nat) (v : Value) : (w.setCell ⟨b, o, none⟩ v).heap[b]? = some (Obj.cells (C.setIfInBounds o v) t fr) := by
  rw [setCell_block h]
  exact setBlock_same (Array.getElem?_eq_some_iff.1 h).1 _
theorem set5h {w w0 : World} {b B : Nat} {t : TypeId} (hB : Below B w0 w) (hb : B ≤ b) (h : w.heap[b]? = some (Obj.cells hc11 t (0, 0))) :
    (((((w.setCell ⟨b, 0, none⟩ (.int .i64 1)).setCell ⟨b, 1, none⟩ (.int .i64 1)).setCell ⟨b, 2, none⟩ (.int .i64 0)).setCell ⟨b, 3, none⟩ (.int .i64 1)).setCell ⟨b, 4, none⟩ (.int .i64 0)).heap[b]? = some (Obj.cells hc11 t (0, 0)) ∧
    Below B w0 (((((w.setCell ⟨b, 0, none⟩ (.int .i64 1)).setCell ⟨b, 1, none⟩ (.int .i64 1)).setCell ⟨b, 2, none⟩ (.int .i64 0)).setCell ⟨b, 3, none⟩ (.int .i64 1)).setCell ⟨b, 4, none⟩ (.int .i64 0)) := by
  have h1 := set1h (set1h (set1h (set1h (set1h h 0 (.int .i64 1)) 1 (.int .i64 1)) 2 (.int .i64 0)) 3 (.int .i64 1)) 4 (.int .i64 0)
  exact ⟨h1, ((((hB.setCell (p := ⟨b, 0, none⟩) hb _).setCell (p := ⟨b, 1, none⟩) hb _).setCell (p := ⟨b, 2, none⟩) hb _).setCell (p := ⟨b, 3, none⟩) hb _).setCell (p := ⟨b, 4, none⟩) hb _⟩
set_option maxRecDepth 100000 in
set_option maxHeartbeats 8000000 in
theorem slotsExamples_any (w : World) : Calls Try.prog 10 #[] w fun e w' => e = .returned (.bool true) ∧ Below w.heap.size w w' := by
  go_enter Try.func10, Try.ntmps10
  go_wp2_with (fail)
  refine (newboth_ok 2 w (by omega) (by omega)).mono ?_
  rintro e w1 ⟨x, d, f, m, v, r, g, sb, pv, rfl, hB1⟩
  have HB1 := Lib.hid hB1
  have cx := hB1.x1
  clear hB1
  go_wp2_with (fail)
  refine (sLoad_any d f m v (Dk.new 2) .idle w1 (by show 2 ≤ 2; omega) HB1.out.lab.disk HB1.out.lab.fuse rfl).mono ?_
  rw [e_load0]
  unfold zhead hval
  rintro e w2 ⟨rfl, b2⟩
  go_upto_region 5 with (fail)
  have b3 := below_step (alloc_below w2 (.cells hc00 40)) b2 (Nat.le_refl _)
  obtain ⟨w3, hw3⟩ : ∃ w3, w2.alloc (.cells hc00 40) = w3 := ⟨_, rfl⟩
  rw [hw3] at b3 ⊢
  have HB3 := Lib.hid (HB1.out.below b3)
  have C3 : Hid (w3.drew.cell? ⟨x, 1, none⟩ = some (.pointer (some ⟨d, 0, none⟩))) := HB3.out.x1
  have HSV : Hid (∀ W, Below w3.heap.size w3 W → Calls Try.prog 26 #[.pointer (some ⟨d, 0, none⟩), .agg #[.int .i64 1, .int .i64 1, .int .i64 0, .int .i64 1, .int .i64 0]] W fun e w' => e = .returned (.int .i64 0) ∧ DAfter W w' d f m v eD1 .idle) := fun W hW => by
    have := sSave_ok d f m v (Dk.new 2) .idle h11 W h11_ok (by show 2 ≤ 2; omega) (HB3.out.below hW).lab.disk (HB3.out.below hW).lab.fuse (by show 0 ≤ 999999; omega)
    rw [e_save1, h11_val] at this
    exact this
  clear b2 b3 hw3 cx HB1
  refine wp_region_noPanic ?_
  go_region_held3 (fun w' => w'.cell? ⟨x, 1, none⟩ = some (.pointer (some ⟨d, 0, none⟩))) (first | exact C3.out | exact below_cell b4 (by assumption) | exact keep1w (by assumption) k5 HB3.out.xo)
    (first | (go_at_call 30; refine (head_any 1 1 _).mono ?_; unfold hval; rintro e w4 ⟨rfl, b4⟩) | (go_at_call 26; refine (HSV.out _ (below_step b4 (Below.refl _ w3).drew (Nat.le_refl _))).mono ?_; rintro e w5 ⟨rfl, ha5⟩; obtain ⟨v5, h5, k5, n5⟩ := ha5.lab))
  refine NoPanic.normal ?_
  have HB5 := Lib.hid ((HB3.out.below (below_step b4 (Below.refl _ w3).drew (Nat.le_refl _))).dchange h5 k5 (fun _ h => h) n5)
  clear ha5 h5 k5 n5 b4 HSV C3 HB3
  have cx := HB5.out.x1
  go_wp2_with (fail)
  refine (sLoad_any d f m v5 eD1 .idle w5 (by show 2 ≤ 2; omega) HB5.out.lab.disk HB5.out.lab.fuse rfl).mono ?_
  rw [e_load1]
  unfold hval
  rintro e w6 ⟨rfl, b6⟩
  have n7 := alloc_new w6 (.cells hc11 40)
  have b7 := below_step (alloc_below w6 (.cells hc11 40)) b6 (Nat.le_refl _)
  have s7 := alloc_size w6 (.cells hc11 40)
  go_upto_region 7 with (fail)
  obtain ⟨w7, hw7⟩ : ∃ w7, w6.alloc (.cells hc11 40) = w7 := ⟨_, rfl⟩
  rw [hw7] at n7 b7 s7 ⊢
  have HB7 := Lib.hid (HB5.out.below b7)
  have N7 := Lib.hid n7
  have HS7 : Hid (∀ W : World, Below w7.heap.size w7 W → W.cell? ⟨x, 1, none⟩ = some (.pointer (some ⟨d, 0, none⟩)) ∧ W.cell? ⟨w6.heap.size, 0, none⟩ = some (.int .i64 1) ∧ W.cell? ⟨w6.heap.size, 1, none⟩ = some (.int .i64 1) ∧ W.cell? ⟨w6.heap.size, 2, none⟩ = some (.int .i64 0) ∧ W.cell? ⟨w6.heap.size, 3, none⟩ = some (.int .i64 1) ∧ W.cell? ⟨w6.heap.size, 4, none⟩ = some (.int .i64 0)) := fun W hW =>
    ⟨below_cell hW HB7.out.x1, below_cell hW ((cell_of N7.out 0).trans rfl), below_cell hW ((cell_of N7.out 1).trans rfl), below_cell hW ((cell_of N7.out 2).trans rfl), below_cell hW ((cell_of N7.out 3).trans rfl), below_cell hW ((cell_of N7.out 4).trans rfl)⟩
  have HPD : Hid (∀ W, Below w7.heap.size w7 W → Calls Try.prog 36 #[.pointer (some ⟨d, 0, none⟩)] W fun e w' => ∃ A cap, e = .returned (.slice A 0 cap) ∧ Below W.heap.size W w') := fun W hW => by
    refine (dpending_any d f m v5 eD1 W (HB7.out.below hW).lab.disk (by show 0 ≤ 1000000; omega)).mono ?_
    rintro e w' ⟨u, rfl, ho, -, hb⟩
    obtain ⟨A, cap, rfl⟩ := ownsRow_is ho
    exact ⟨A, cap, rfl, hb⟩
  have HOFF : Hid (¬ Own d f m v5 w6.heap.size) := fun ho => by have := (HB5.out.below b6).lab.lt ho; omega
  have HROFF : Hid (¬ ROwn r g sb pv w6.heap.size) := fun ho => by have := (HB5.out.below b6).rat.rlt (HB5.out.below b6).rfz ho; omega
  have HLE : Hid (w.heap.size ≤ w6.heap.size) := (HB5.out.below b6).bel.size
  have HSZ : Hid (w6.heap.size < w7.heap.size) := by unfold Hid; omega
  clear b6 b7 n7 hw7 cx HB5 s7
  refine wp_region_noPanic ?_
  go_region_held3 (fun w' => w'.cell? ⟨x, 1, none⟩ = some (.pointer (some ⟨d, 0, none⟩)) ∧ w'.cell? ⟨w6.heap.size, 0, none⟩ = some (.int .i64 1) ∧ w'.cell? ⟨w6.heap.size, 1, none⟩ = some (.int .i64 1) ∧ w'.cell? ⟨w6.heap.size, 2, none⟩ = some (.int .i64 0) ∧ w'.cell? ⟨w6.heap.size, 3, none⟩ = some (.int .i64 1) ∧ w'.cell? ⟨w6.heap.size, 4, none⟩ = some (.int .i64 0))
    (first | exact HS7.out _ (Below.refl _ w7).drew | exact HS7.out _ (below_step b8 (Below.refl _ w7).drew (Nat.le_refl _)) | exact HS7.out _ (below_step b9 (below_step b8 (Below.refl _ w7).drew (Nat.le_refl _)) (Nat.le_refl _)))
    (first | (go_at_call 30; refine (head_any 1 1 _).mono ?_; unfold hval; rintro e w8 ⟨rfl, b8⟩) | (go_at_call 36; refine (HPD.out _ (below_step b8 (Below.refl _ w7).drew (Nat.le_refl _))).mono ?_; rintro e w9 ⟨A9, cap9, rfl, b9⟩))
  refine NoPanic.normal ?_
  have b79 : Below w7.heap.size w7 w9 := below_step b9 (below_step b8 (Below.refl _ w7).drew (Nat.le_refl _)) (Nat.le_refl _)
  have HB9 := Lib.hid (HB7.out.below b79)
  have N9 := Lib.hid ((b79.block _ HSZ.out).trans N7.out)
  clear b8 b9 b79 HS7 HPD HB7 N7 HSZ
  have HXF : Hid (¬ x = f) := fun e => HB9.out.xo (.inr (.inl e))
  have hB9d := HB9.out.below (Below.refl _ w9).drew
  have HAR : Hid (Calls Try.prog 32 #[.pointer (some ⟨f, 0, none⟩), .int .i64 1] w9.drew fun e w' => e = .returned (.int .i64 0) ∧ BothAt w w' x d f m v5 r g sb pv eD1 (.armed 1) (Dk.new 2) .idle ∧ Keeps (fun k => k = f) w9.drew w') := by
    refine (farm_any f .idle 1 w9.drew hB9d.lab.fuse).mono ?_
    rintro e w' ⟨rfl, rfl⟩
    exact ⟨rfl, hB9d.dfuse (z' := .armed 1) (by decide), Keeps.setBlock (S := fun k => k = f) (.refl _ _) (fun _ => rfl) _⟩
  have HSV2 : Hid (∀ W, BothAt w W x d f m v5 r g sb pv eD1 (.armed 1) (Dk.new 2) .idle → Calls Try.prog 26 #[.pointer (some ⟨d, 0, none⟩), .agg #[.int .i64 2, .int .i64 2, .int .i64 0, .int .i64 1, .int .i64 0]] W fun e w' => e = .returned (.int .i64 10) ∧ DAfter W w' d f m v5 eD2 .blown) := fun W hW => by
    have := sSave_ok d f m v5 eD1 (.armed 1) h22 W h22_ok (by show 2 ≤ 2; omega) hW.lab.disk hW.lab.fuse (by show 0 ≤ 999999; omega)
    rw [e_save2, h22_val] at this
    exact this
  have C9 : Hid (w9.drew.cell? ⟨x, 0, none⟩ = some (.pointer (some ⟨f, 0, none⟩)) ∧ w9.drew.cell? ⟨x, 1, none⟩ = some (.pointer (some ⟨d, 0, none⟩))) := ⟨hB9d.x0, hB9d.x1⟩
  clear hB9d
  go_upto_region 9 with (fail)
  refine wp_region_noPanic ?_
  go_region_held3 (fun w' => w'.cell? ⟨x, 0, none⟩ = some (.pointer (some ⟨f, 0, none⟩)) ∧ w'.cell? ⟨x, 1, none⟩ = some (.pointer (some ⟨d, 0, none⟩)))
    (first | exact C9.out | exact k2w (by assumption) k10 HXF.out HXF.out | exact k2b (by assumption) b11 | exact k2w (by assumption) k12 HB9.out.xo HB9.out.xo)
    (first | (go_at_call 32; refine HAR.out.mono ?_; rintro e w10 ⟨rfl, h10, k10⟩) | (go_at_call 30; refine (head_any 2 2 _).mono ?_; unfold hval; rintro e w11 ⟨rfl, b11⟩) | (go_at_call 26; refine (HSV2.out _ (h10.below b11)).mono ?_; rintro e w12 ⟨rfl, ha12⟩; obtain ⟨v12, h12, k12, n12⟩ := ha12.lab))
  refine NoPanic.normal ?_
  have hl9 := (Array.getElem?_eq_some_iff.1 N9.out).1
  have n10 := (k10.block w6.heap.size hl9 (fun e => HOFF.out (.inr (.inl e)))).trans N9.out
  have hl10 := (Array.getElem?_eq_some_iff.1 n10).1
  have n11 := (b11.block _ hl10).trans n10
  have hl11 := (Array.getElem?_eq_some_iff.1 n11).1
  have n12' := (k12.block _ hl11 HOFF.out).trans n11
  have HOFF2 : Hid (¬ Own d f m v12 w6.heap.size) := own_off n12 HOFF.out hl11
  have HB12 := Lib.hid ((h10.below b11).dchange h12 k12 (fun _ h => h) n12)
  have N12 := Lib.hid n12'
  clear hl9 n10 hl10 n11 hl11 n12' h12 k12 n12 h10 k10 b11 ha12 HAR HSV2 C9 HXF HB9 N9 HOFF
  have cx := HB12.out.x1
  go_wp2_with (fail)
  refine (sLoad_dead d f m v12 eD2 .blown w12 (by show 2 ≤ 2; omega) HB12.out.lab.disk HB12.out.lab.fuse rfl).mono ?_
  unfold zhead hval
  rintro e w13 ⟨rfl, b13⟩
  have HB13 := Lib.hid (HB12.out.below b13)
  have N13 := Lib.hid ((b13.block _ (Array.getElem?_eq_some_iff.1 N12.out).1).trans N12.out)
  clear b13 cx HB12 N12
  go_wp2_with (fail)
  refine (bothcrash_any w w13 x d f m v12 r g sb pv eD2 .blown (Dk.new 2) .idle 0 0 60 HB13.out).mono ?_
  rintro e w14 ⟨rfl, h14, k14⟩
  have HB14 : Hid (BothAt w w14 x d f m (.slice none 0 0) r g sb (.slice none 0 0) eD3 .idle ((Dk.new 2).crash 0 0 60) .idle) := h14
  have N14 := Lib.hid ((k14.block _ (Array.getElem?_eq_some_iff.1 N13.out).1 (fun e => by rcases e with e | e; exact HOFF2.out e; exact HROFF.out e)).trans N13.out)
  clear h14 k14 HB13 N13
  have cx := HB14.out.x1
  go_wp2_with (fail)
  refine (sLoad_any d f m _ eD3 .idle w14 (by show 2 ≤ 2; omega) HB14.out.lab.disk HB14.out.lab.fuse rfl).mono ?_
  rw [e_load3]
  unfold hval
  rintro e w15 ⟨rfl, b15⟩
  have n15 := (b15.block _ (Array.getElem?_eq_some_iff.1 N14.out).1).trans N14.out
  have y0 := (cell_of n15 0).trans rfl
  have y1 := (cell_of n15 1).trans rfl
  have y2 := (cell_of n15 2).trans rfl
  have y3 := (cell_of n15 3).trans rfl
  have y4 := (cell_of n15 4).trans rfl
  have f0 := free_of n15 0
  have f1 := free_of n15 1
  have f2 := free_of n15 2
  have f3 := free_of n15 3
  have f4 := free_of n15 4
  have HB15 := Lib.hid (HB14.out.below b15).bel
  go_upto_region 14 with (fail)
  obtain ⟨q16, bb16⟩ := set5h HB15.out HLE.out n15
  obtain ⟨w16, hw16⟩ : ∃ w16, ((((w15.setCell ⟨w6.heap.size, 0, none⟩ (.int .i64 1)).setCell ⟨w6.heap.size, 1, none⟩ (.int .i64 1)).setCell ⟨w6.heap.size, 2, none⟩ (.int .i64 0)).setCell ⟨w6.heap.size, 3, none⟩ (.int .i64 1)).setCell ⟨w6.heap.size, 4, none⟩ (.int .i64 0) = w16 := ⟨_, rfl⟩
  rw [hw16] at q16 bb16 ⊢
  have HB16 := Lib.hid bb16
  have N16 := Lib.hid q16
  have HS16 : Hid (∀ W : World, Below w16.heap.size w16 W → W.cell? ⟨w6.heap.size, 0, none⟩ = some (.int .i64 1) ∧ W.cell? ⟨w6.heap.size, 1, none⟩ = some (.int .i64 1) ∧ W.cell? ⟨w6.heap.size, 2, none⟩ = some (.int .i64 0) ∧ W.cell? ⟨w6.heap.size, 3, none⟩ = some (.int .i64 1) ∧ W.cell? ⟨w6.heap.size, 4, none⟩ = some (.int .i64 0)) := fun W hW =>
    ⟨below_cell hW ((cell_of N16.out 0).trans rfl), below_cell hW ((cell_of N16.out 1).trans rfl), below_cell hW ((cell_of N16.out 2).trans rfl), below_cell hW ((cell_of N16.out 3).trans rfl), below_cell hW ((cell_of N16.out 4).trans rfl)⟩
  clear q16 bb16 hw16 n15 y0 y1 y2 y3 y4 f0 f1 f2 f3 f4 b15 cx HB14 N14 HB15
  refine wp_region_noPanic ?_
  go_region_held3 (fun w' => w'.cell? ⟨w6.heap.size, 0, none⟩ = some (.int .i64 1) ∧ w'.cell? ⟨w6.heap.size, 1, none⟩ = some (.int .i64 1) ∧ w'.cell? ⟨w6.heap.size, 2, none⟩ = some (.int .i64 0) ∧ w'.cell? ⟨w6.heap.size, 3, none⟩ = some (.int .i64 1) ∧ w'.cell? ⟨w6.heap.size, 4, none⟩ = some (.int .i64 0))
    (first | exact HS16.out _ (Below.refl _ w16).drew | exact HS16.out _ (below_step b17 (Below.refl _ w16).drew (Nat.le_refl _)))
    (first | (go_at_call 30; refine (head_any 1 1 _).mono ?_; unfold hval; rintro e w17 ⟨rfl, b17⟩))
  refine NoPanic.normal ?_
  have HB17 := Lib.hid (below_step (below_step b17 (Below.refl _ w16).drew (Nat.le_refl _)) HB16.out (Nat.le_refl _))
  clear b17 HS16 N16 HB16
  go_wp2_with (fail)
  refine (head_any 0 1 w17).mono ?_
  unfold hval
  rintro e w18 ⟨rfl, b18⟩
  have HB18 := Lib.hid (below_step b18 HB17.out (Nat.le_refl _))
  clear b18 HB17
  have hen := sEncode_arg 0 1 0 1 0 w18 e_bad0
  unfold hval at hen
  go_wp2_with (fail)
  refine hen.mono ?_
  rintro e w19 ⟨rfl, b19⟩
  have HB19 := Lib.hid (below_step b19 HB18.out (Nat.le_refl _))
  clear b19 HB18 hen
  have hen := sEncode_arg 1 1 2 1 0 w19 e_bad2
  unfold hval at hen
  go_wp2_with (fail)
  refine hen.mono ?_
  rintro e w20 ⟨rfl, b20⟩
  have HB20 := Lib.hid (below_step b20 HB19.out (Nat.le_refl _))
  clear b20 HB19 hen
  obtain ⟨w21, b21, hmk, hcv⟩ := make_zeros' w20 80 (by omega)
  rw [show List.replicate 80 (0 : UInt8) = Z80 from rfl] at hcv
  have hde := sDecode_any Z80 w21
  rw [hdecVal_none hd_zero] at hde
  unfold zhead hval at hde
  obtain ⟨ZZ, hZZ⟩ : ∃ ZZ, Z80 = ZZ := ⟨_, rfl⟩
  rw [hZZ] at hcv hde
  have hmk' : (Instr.makeSlice 54 (.int .i64 80) (.int .i64 80)).run Try.prog w20 = .ok (.slice (some ⟨w20.heap.size, 0, none⟩) 80 80) w21 := hmk
  clear hmk hZZ
  go_wp2_with (fail)
  refine hde.mono ?_
  rintro e w22 ⟨rfl, b22⟩
  have HB22 := Lib.hid (below_step b22 (below_step b21 HB20.out (Nat.le_refl _)) (Nat.le_refl _))
  clear b21 b22 HB20 hcv hde hmk'
  have hen := sEncode_arg 1 1 0 1 65536 w22 e_bads
  unfold hval at hen
  go_wp2_with (fail)
  refine hen.mono ?_
  rintro e w23 ⟨rfl, b23⟩
  have HB23 := Lib.hid (below_step b23 HB22.out (Nat.le_refl _))
  clear b23 HB22 hen
  go_wp2_with (fail)
  refine (newboth_ok 2 w23 (by omega) (by omega)).mono ?_
  rintro e w24 ⟨x4, d4, f4, m4, v4, r4, g4, sb4, pv4, rfl, hY⟩
  have HY := Lib.hid hY
  have HYL0 : Hid (∀ j, Own d4 f4 m4 v4 j → j < w24.heap.size) := fun j hj => hY.lab.lt hj
  clear hY
  go_wp2_with (fail)
  refine (newboth_ok 1 w24 (by omega) (by omega)).mono ?_
  rintro e w25 ⟨x5, d5, f5, m5, v5', r5, g5, sb5, pv5, rfl, hZ⟩
  have HZFR : Hid (∀ j, (j = x5 ∨ Own d5 f5 m5 v5' j ∨ ROwn r5 g5 sb5 pv5 j) → w24.heap.size ≤ j) := hZ.frm
  have HZ := Lib.hid (hZ.rebase HY.out.bel)
  have HY5 := Lib.hid (HY.out.below (show Below w24.heap.size w24 w25 from hZ.bel))
  clear hZ HY
  have HYL : Hid (∀ j, Own d4 f4 m4 v4 j → j < w24.heap.size) := HYL0.out
  clear HYL0
  go_wp2_with (fail)
  refine (head_any 1 1 w25).mono ?_
  unfold hval
  rintro e w26 ⟨rfl, b26⟩
  have HY6 := Lib.hid (HY5.out.below b26)
  have HZ6 := Lib.hid (HZ.out.below b26)
  clear b26 HY5 HZ
  have hen := sEncode_ok h11 w26 h11_ok
  rw [h11_val] at hen
  have hwr : doWrite (Dk.new 2) .idle 0 h11.sec = (0, yD, .idle) := by
    have := doWrite_at (D := Dk.new 2) (z := .idle) (i := 0) (s := h11.sec) (by decide) h11.sec_length
    exact this
  obtain ⟨XS, hXS⟩ : ∃ XS, h11.sec = XS := ⟨_, rfl⟩
  rw [hXS] at hen hwr
  clear hXS
  go_wp2_with (fail)
  refine hen.mono ?_
  rintro e w27 ⟨rfl, b27⟩
  have HY7 := Lib.hid (HY6.out.below b27)
  have HZ7 := Lib.hid (HZ6.out.below b27)
  clear b27 HY6 HZ6 hen
  have cy := HY7.out.x1
  have hdw := dwrite_any d4 f4 m4 v4 (Dk.new 2) .idle 0 XS w27 HY7.out.lab.disk HY7.out.lab.fuse (by decide)
  rw [hwr] at hdw
  dsimp only at hdw
  go_wp2_with (fail)
  refine hdw.mono ?_
  rintro e w28 ⟨rfl, ha⟩
  obtain ⟨v28, h28, k28, n28⟩ := ha.lab
  have HY8 := Lib.hid (HY7.out.dchange h28 k28 (fun _ h => h) n28)
  have HZ8 := Lib.hid (HZ7.out.other k28 (fun j hj e => by have h1 := HYL.out j hj; have h2 := HZFR.out j (.inr (.inl e)); omega) (fun j hj e => by have h1 := HYL.out j hj; have h2 := HZFR.out j (.inr (.inr e)); omega) (fun e => by have h1 := HYL.out _ e; have h2 := HZFR.out x5 (.inl rfl); omega) (fun j hj e => by have := HY7.out.frm j (.inr (.inl e)); omega))
  clear h28 k28 n28 ha hdw hwr cy HY7 HZ7 HYL
  have cy := HY8.out.x1
  go_wp2_with (fail)
  refine (sLoad_any d4 f4 m4 v28 yD .idle w28 (by show 2 ≤ 2; omega) HY8.out.lab.disk HY8.out.lab.fuse rfl).mono ?_
  rw [y_load]
  unfold zhead hval
  rintro e w29 ⟨rfl, b29⟩
  have HZ9 := Lib.hid (HZ8.out.below b29)
  have HBW9 := Lib.hid (HY8.out.below b29).bel
  clear b29 cy HY8 HZ8
  have cz := HZ9.out.x1
  go_wp2_with (fail)
  refine (sLoad_range d5 f5 m5 v5' (Dk.new 1) w29 (by show 1 < 2; omega) HZ9.out.lab.disk).mono ?_
  unfold zhead hval
  rintro e w30 ⟨rfl, b30⟩
  have HZ0 := Lib.hid (HZ9.out.below b30)
  have HBW0 := Lib.hid (below_step b30 HBW9.out (Nat.le_refl _))
  clear b30 cz HZ9 HBW9
  go_wp2_with (fail)
  refine (sLoad_nil w30).mono ?_
  unfold zhead hval
  rintro e w31 ⟨rfl, b31⟩
  have HZ1 := Lib.hid (HZ0.out.below b31)
  have HBW1 := Lib.hid (below_step (below_step b31 HBW0.out (Nat.le_refl _)) HB23.out (Nat.le_refl _))
  clear b31 HZ0 HBW0 HB23
  have C31 : Hid (w31.drew.cell? ⟨x5, 1, none⟩ = some (.pointer (some ⟨d5, 0, none⟩))) := HZ1.out.x1
  have HS1 : Hid (∀ W, Below w31.heap.size w31 W → Calls Try.prog 26 #[.pointer (some ⟨d5, 0, none⟩), .agg #[.int .i64 1, .int .i64 1, .int .i64 0, .int .i64 1, .int .i64 0]] W fun e w' => e = .returned (.int .i64 3) ∧ Below W.heap.size W w') := fun W hW => by
    have := sSave_range d5 f5 m5 v5' (Dk.new 1) h11 W h11_ok (by show 1 < 2; omega) (HZ1.out.below hW).lab.disk
    rw [h11_val] at this
    exact this
  have HS2 : Hid (∀ W, Calls Try.prog 26 #[.pointer (some ⟨d5, 0, none⟩), .agg #[.int .i64 0, .int .i64 1, .int .i64 0, .int .i64 1, .int .i64 0]] W fun e w' => e = .returned (.int .i64 2) ∧ Below W.heap.size W w') := fun W => sSave_arg d5 0 1 0 1 0 W e_bad0
  have HS3 : Hid (∀ W, Calls Try.prog 26 #[.pointer none, .agg #[.int .i64 0, .int .i64 1, .int .i64 0, .int .i64 1, .int .i64 0]] W fun e w' => e = .returned (.int .i64 1) ∧ Below W.heap.size W w') := fun W => sSave_nil 0 1 0 1 0 W
  go_upto_region 29 with (fail)
  refine wp_region_noPanic ?_
  go_region_held3 (fun w' => w'.cell? ⟨x5, 1, none⟩ = some (.pointer (some ⟨d5, 0, none⟩)))
    (first | exact C31.out | exact below_cell b32 (by assumption) | exact below_cell b33 (by assumption) | exact below_cell b34 (by assumption) | exact below_cell b35 (by assumption) | exact below_cell b36 (by assumption) | exact below_cell b37 (by assumption))
    (first | (go_at_call 30; (have hq := b35); clear hq; refine (head_any 0 1 _).mono ?_; unfold hval; rintro e w36 ⟨rfl, b36⟩) | (go_at_call 30; (have hq := b33); clear hq; refine (head_any 0 1 _).mono ?_; unfold hval; rintro e w34 ⟨rfl, b34⟩) | (go_at_call 30; refine (head_any 1 1 _).mono ?_; unfold hval; rintro e w32 ⟨rfl, b32⟩) | (go_at_call 26; (have hq := b36); clear hq; refine (HS3.out _).mono ?_; rintro e w37 ⟨rfl, b37⟩) | (go_at_call 26; (have hq := b34); clear hq; refine (HS2.out _).mono ?_; rintro e w35 ⟨rfl, b35⟩) | (go_at_call 26; refine (HS1.out _ (below_step b32 (Below.refl _ w31).drew (Nat.le_refl _))).mono ?_; rintro e w33 ⟨rfl, b33⟩))
  refine NoPanic.normal ?_
  have HF := Lib.hid (below_step (below_step b37 (below_step b36 (below_step b35 (below_step b34 (below_step b33 (below_step b32 (Below.refl _ w31).drew (Nat.le_refl _)) (Nat.le_refl _)) (Nat.le_refl _)) (Nat.le_refl _)) (Nat.le_refl _)) (Nat.le_refl _)) HBW1.out (Nat.le_refl _))
  clear b32 b33 b34 b35 b36 b37
  go_wp2
  go_ret
  exact ⟨rfl, HF.out⟩
theorem slotsExamples_row (W : World) : Calls Try.prog 10 #[] W fun e w' => e = .returned (.bool true) ∧ Below W.heap.size W w' := slotsExamples_any W
end Go.Proofs.Ytgnhpbolmfbngaa
