/- sacristanlaw04: Both.act. -/
import Derived.Test.YtjpelmjocdodcaaCopy
import Derived.Test.YtjpelmjocdodcaaBothCrash
namespace Go.Proofs.Ytjpelmjocdodcaa
open Go.RowKit Go.ChangeMaps
set_option linter.unusedVariables false

theorem doWrite_len4 (D : Dk) (z : Fz) (i : Int) (s : List UInt8) : (doWrite D z i s).2.1.P.length ≤ D.P.length + 1 := by
  unfold doWrite
  split
  · split
    · split
      · show (D.P ++ [_]).length ≤ _; simp
      · exact Nat.le_succ _
    · exact Nat.le_succ _
  · exact Nat.le_succ _
theorem doSync_len4 (D : Dk) (z : Fz) : (doSync D z).2.1.P.length ≤ D.P.length + 1 := by
  unfold doSync
  split
  · exact Nat.zero_le _
  · exact Nat.le_succ _
theorem RefAt.full {w : World} {r g sb : Nat} {pv : Value} {D : Dk} (h : RefAt w r g sb pv D) (b : Bool) : RefAt (w.setCell ⟨r, 3, none⟩ (.bool b)) r g sb pv ⟨D.S, D.P, b⟩ ∧ Keeps (fun k => k = r) w (w.setCell ⟨r, 3, none⟩ (.bool b)) := by
  have k : Keeps (fun k => k = r) w (w.setCell ⟨r, 3, none⟩ (.bool b)) := (Keeps.refl (fun k => k = r) w).setCell (p := ⟨r, 3, none⟩) (fun _ => rfl) _
  refine ⟨⟨?_, (k.block sb (Array.getElem?_eq_some_iff.1 h.sec).1 (fun e => h.rs e.symm)).trans h.sec, row_keeps h.row k (fun j hj e => (h.pn j hj).1 e), h.ok, h.rs, h.rg, h.sg, h.pn⟩, k⟩
  rw [setCell_block h.blk]
  exact setBlock_same (Array.getElem?_eq_some_iff.1 h.blk).1 _
theorem two_set4 {w : World} {b : Nat} {v0 v1 v2 v3 : Value} {t : TypeId} (h : w.heap[b]? = some (.cells #[v0, v1, v2, v3] t (0, 0))) (a0 a1 : Value) :
    (w.setCell ⟨b, 0, none⟩ a0).setCell ⟨b, 1, none⟩ a1 = setBlock w b (.cells #[a0, a1, v2, v3] t (0, 0)) := by
  have hlt := (Array.getElem?_eq_some_iff.1 h).1
  rw [setCell_block h, setCell_block (setBlock_same hlt _), setBlock_twice]
  rfl
/-- Another disk takes the place of the old one. -/
theorem BothAt.swap {w0 w : World} {x d f m : Nat} {v : Value} {r g sb : Nat} {pv : Value} {D : Dk} {z : Fz} {E : Dk} {y : Fz} (h : BothAt w0 w x d f m v r g sb pv D z E y) {B d' f' m' : Nat} {v' : Value} {D' : Dk} {z' : Fz} (hx : x < B) (hr : ∀ k, ROwn r g sb pv k → k < B) (h0 : w0.heap.size ≤ B) (l : Lab w d' f' m' v' D' z') (hb : From B d' f' m' v') :
    BothAt w0 (setBlock w x (.cells #[.pointer (some ⟨f', 0, none⟩), .pointer (some ⟨d', 0, none⟩), .pointer (some ⟨g, 0, none⟩), .pointer (some ⟨r, 0, none⟩)] 59 (0, 0))) x d' f' m' v' r g sb pv D' z' E y := by
  have k : Keeps (fun k => k = x) w (setBlock w x (.cells #[.pointer (some ⟨f', 0, none⟩), .pointer (some ⟨d', 0, none⟩), .pointer (some ⟨g, 0, none⟩), .pointer (some ⟨r, 0, none⟩)] 59 (0, 0))) := Keeps.setBlock (S := fun k => k = x) (.refl _ _) (fun _ => rfl) _
  have hne : ∀ j, Own d' f' m' v' j → ¬ j = x := fun j hj e => by have := hb j hj; omega
  exact ⟨setBlock_same h.xlt _, l.keeps k (fun j hj e => hne j hj e), h.rat.keeps k (fun e => h.xr (e ▸ .inl rfl)) (fun e => h.xr (e ▸ .inr (.inr (.inl rfl)))) (fun j hj e => h.xr (e ▸ .inr (.inr (.inr hj)))), h.rfz.keeps k (fun e => h.xr (e ▸ .inr (.inl rfl))),
    fun j hj hj2 => by have h1 := hb j hj; have h2 := hr j hj2; omega, fun hj => by have := hb x hj; omega, h.xr, fun j hj => by
      rcases hj with e | e | e
      · exact h.frm j (.inl e)
      · have := hb j e; omega
      · exact h.frm j (.inr (.inr e)), k.belowOf h.bel h.bel.size (fun j hj e => by have := h.frm x (.inl rfl); omega)⟩
/-- What a call of act leaves. -/
def ActR (w0 : World) (x r g sb n : Nat) (e : Ending) (w' : World) : Prop :=
  e = .returned (.bool true) ∧ ∃ d f m v pv D z, BothAt w0 w' x d f m v r g sb pv D z D z ∧ D.P.length ≤ n + 1
set_option maxRecDepth 100000 in
set_option maxHeartbeats 8000000 in
theorem act0_any (w0 w : World) (x d f m : Nat) (v : Value) (r g sb : Nat) (pv : Value) (D : Dk) (z : Fz) (h : BothAt w0 w x d f m v r g sb pv D z D z) (hP : D.P.length ≤ 1000) (a : Nat) (i : Int) (b : Nat) (keep torn bytes : Int) (hm : (a : Int) % 8 = 0) (hi : i ≤ 9223372036854775807) (hb : b < 256) :
    Calls Try.prog 36 #[.pointer (some ⟨x, 0, none⟩), .agg #[.int .u8 (a : Int), .int .i64 i, .int .u8 (b : Int), .int .u64 keep, .int .i64 torn, .int .i64 bytes]] w (ActR w0 x r g sb D.P.length) := by
  have n1 := alloc_new w (.cells #[.int .u8 (a : Int), .int .i64 i, .int .u8 (b : Int), .int .u64 keep, .int .i64 torn, .int .i64 bytes] 68)
  have b1 := alloc_below w (.cells #[.int .u8 (a : Int), .int .i64 i, .int .u8 (b : Int), .int .u64 keep, .int .i64 torn, .int .i64 bytes] 68)
  have HB0 := Lib.hid h
  have HOW : Hid (¬ Own d f m v w.heap.size ∧ ¬ ROwn r g sb pv w.heap.size) := ⟨fun ho => by have := h.lab.lt ho; omega, fun ho => by have := h.rat.rlt h.rfz ho; omega⟩
  have HOFF : Hid (¬ Own d f m v w.heap.size) := HOW.out.1
  have HROFF : Hid (¬ ROwn r g sb pv w.heap.size) := HOW.out.2
  clear h
  go_enter Try.func36, Try.ntmps36
  go_upto_region 1 with (fail)
  obtain ⟨w2, hw2⟩ : ∃ w2, w.alloc (.cells #[.int .u8 (a : Int), .int .i64 i, .int .u8 (b : Int), .int .u64 keep, .int .i64 torn, .int .i64 bytes] 68) = w2 := ⟨_, rfl⟩
  rw [hw2] at n1 b1 ⊢
  obtain ⟨bx, hbx⟩ : ∃ bx, w.heap.size = bx := ⟨_, rfl⟩
  rw [hbx] at HOFF HROFF n1
  have HB2 := Lib.hid (HB0.out.below b1)
  have N2 := Lib.hid n1
  have e0 := (cell_of n1 0).trans rfl
  clear HOW HB0 b1 n1 hw2
  go_upto_region 10 with (fail)
  clear e0
  have HS : Hid (∀ W, Below w2.heap.size w2 W → W.cell? ⟨x, 1, none⟩ = some (.pointer (some ⟨d, 0, none⟩)) ∧ W.cell? ⟨x, 3, none⟩ = some (.pointer (some ⟨r, 0, none⟩)) ∧ W.cell? ⟨bx, 1, none⟩ = some (.int .i64 i)) := fun W hW => ⟨(HB2.out.below hW).x1, (HB2.out.below hW).x3, (cell_of ((hW.block _ (Array.getElem?_eq_some_iff.1 N2.out).1).trans N2.out) 1).trans rfl⟩
  have hrd := fun (W : World) (hW : Below w2.heap.size w2 W) => dread_any d f m v D z i W (HB2.out.below hW).lab.disk (HB2.out.below hW).lab.fuse
  have hrr := fun (W : World) (hW : Below w2.heap.size w2 W) => rdread_any r g sb pv D z i W (HB2.out.below hW).rat (HB2.out.below hW).rfz
  have hdu := fun (W : World) (hW : Below w2.heap.size w2 W) => ddurable_any d f m v D i W (HB2.out.below hW).lab.disk
  have hru := fun (W : World) (hW : Below w2.heap.size w2 W) => rdurable_any r g sb pv D i W (HB2.out.below hW).rat
  obtain ⟨⟨s1, e1⟩, hse⟩ : ∃ p, doRead D z i = p := ⟨_, rfl⟩
  obtain ⟨t1, ht1⟩ : ∃ t, doDurable D i = t := ⟨_, rfl⟩
  rw [hse] at hrd hrr
  rw [ht1] at hdu hru
  dsimp only at hrd hrr
  have HRD := Lib.hid hrd
  have HRR := Lib.hid hrr
  have HDU := Lib.hid hdu
  have HRU := Lib.hid hru
  clear hrd hrr hdu hru hse ht1
  refine wp_region_noPanic ?_
  go_region_held3 (fun W => W.cell? ⟨x, 1, none⟩ = some (.pointer (some ⟨d, 0, none⟩)) ∧ W.cell? ⟨x, 3, none⟩ = some (.pointer (some ⟨r, 0, none⟩)) ∧ W.cell? ⟨bx, 1, none⟩ = some (.int .i64 i))
    (first | exact HS.out _ (Below.refl _ w2).drew | exact HS.out _ B3.out)
    (first | (go_at_call 22; refine (HRD.out _ (Below.refl _ w2).drew).mono ?_; rintro e w3 ⟨rfl, b3⟩; have B3 := Lib.hid (below_step b3 (Below.refl _ w2).drew (Nat.le_refl _))))
  refine NoPanic.normal ?_
  clear b3
  go_upto_region 11 with (fail)
  refine wp_region_noPanic ?_
  go_region_held3 (fun W => W.cell? ⟨x, 1, none⟩ = some (.pointer (some ⟨d, 0, none⟩)) ∧ W.cell? ⟨x, 3, none⟩ = some (.pointer (some ⟨r, 0, none⟩)) ∧ W.cell? ⟨bx, 1, none⟩ = some (.int .i64 i))
    (first | exact HS.out _ B3.out.drew)
    (first | (go_at_call 59; refine (HRR.out _ B3.out.drew).mono ?_; rintro e w4 ⟨rfl, rfl⟩))
  refine NoPanic.normal ?_
  go_upto_region 12 with (fail)
  refine wp_region_noPanic ?_
  go_region_held3 (fun W => W.cell? ⟨x, 1, none⟩ = some (.pointer (some ⟨d, 0, none⟩)) ∧ W.cell? ⟨x, 3, none⟩ = some (.pointer (some ⟨r, 0, none⟩)) ∧ W.cell? ⟨bx, 1, none⟩ = some (.int .i64 i))
    (first | exact HS.out _ B3.out.drew.drew | exact HS.out _ B5.out)
    (first | (go_at_call 21; refine (HDU.out _ B3.out.drew.drew).mono ?_; rintro e w5 ⟨rfl, b5⟩; have B5 := Lib.hid (below_step b5 B3.out.drew.drew (Nat.le_refl _))) | (go_at_call 60; refine (HRU.out _ B5.out).mono ?_; rintro e w6 ⟨rfl, rfl⟩))
  refine NoPanic.normal ?_
  have HE := Lib.hid (HB2.out.below B5.out)
  clear b5 HS HRD HRR HDU HRU
  go_wp2_with (fail)
  go_ret
  exact ⟨rfl, _, _, _, _, _, _, _, HE.out, Nat.le_succ _⟩
set_option maxRecDepth 100000 in
set_option maxHeartbeats 8000000 in
theorem act1_any (w0 w : World) (x d f m : Nat) (v : Value) (r g sb : Nat) (pv : Value) (D : Dk) (z : Fz) (h : BothAt w0 w x d f m v r g sb pv D z D z) (hP : D.P.length ≤ 1000) (a : Nat) (i : Int) (b : Nat) (keep torn bytes : Int) (hm : (a : Int) % 8 = 1) (hi : i ≤ 9223372036854775807) (hb : b < 256) :
    Calls Try.prog 36 #[.pointer (some ⟨x, 0, none⟩), .agg #[.int .u8 (a : Int), .int .i64 i, .int .u8 (b : Int), .int .u64 keep, .int .i64 torn, .int .i64 bytes]] w (ActR w0 x r g sb D.P.length) := by
  have n1 := alloc_new w (.cells #[.int .u8 (a : Int), .int .i64 i, .int .u8 (b : Int), .int .u64 keep, .int .i64 torn, .int .i64 bytes] 68)
  have b1 := alloc_below w (.cells #[.int .u8 (a : Int), .int .i64 i, .int .u8 (b : Int), .int .u64 keep, .int .i64 torn, .int .i64 bytes] 68)
  have HB0 := Lib.hid h
  have HOW : Hid (¬ Own d f m v w.heap.size ∧ ¬ ROwn r g sb pv w.heap.size) := ⟨fun ho => by have := h.lab.lt ho; omega, fun ho => by have := h.rat.rlt h.rfz ho; omega⟩
  have HOFF : Hid (¬ Own d f m v w.heap.size) := HOW.out.1
  have HROFF : Hid (¬ ROwn r g sb pv w.heap.size) := HOW.out.2
  clear h
  go_enter Try.func36, Try.ntmps36
  go_upto_region 1 with (fail)
  obtain ⟨w2, hw2⟩ : ∃ w2, w.alloc (.cells #[.int .u8 (a : Int), .int .i64 i, .int .u8 (b : Int), .int .u64 keep, .int .i64 torn, .int .i64 bytes] 68) = w2 := ⟨_, rfl⟩
  rw [hw2] at n1 b1 ⊢
  obtain ⟨bx, hbx⟩ : ∃ bx, w.heap.size = bx := ⟨_, rfl⟩
  rw [hbx] at HOFF HROFF n1
  have HB2 := Lib.hid (HB0.out.below b1)
  have N2 := Lib.hid n1
  have e0 := (cell_of n1 0).trans rfl
  clear HOW HB0 b1 n1 hw2
  go_upto_region 14 with (fail)
  clear e0
  have HS : Hid (∀ (W : World) (v' pv' : Value) (D' : Dk) (z' : Fz) (E' : Dk) (y' : Fz), BothAt w0 W x d f m v' r g sb pv' D' z' E' y' → W.heap[bx]? = some (.cells #[.int .u8 (a : Int), .int .i64 i, .int .u8 (b : Int), .int .u64 keep, .int .i64 torn, .int .i64 bytes] 68 (0, 0)) → W.cell? ⟨x, 1, none⟩ = some (.pointer (some ⟨d, 0, none⟩)) ∧ W.cell? ⟨x, 3, none⟩ = some (.pointer (some ⟨r, 0, none⟩)) ∧ W.cell? ⟨bx, 1, none⟩ = some (.int .i64 i) ∧ W.cell? ⟨bx, 2, none⟩ = some (.int .u8 (b : Int))) := fun W v' pv' D' z' E' y' h hn => ⟨h.x1, h.x3, (cell_of hn 1).trans rfl, (cell_of hn 2).trans rfl⟩
  have HSE : Hid (∀ W : World, Calls Try.prog 20 #[.int .u8 (b : Int)] W fun e w' => e = .returned (.string (S (sectorOf b))) ∧ Below W.heap.size W w') := fun W => sector_any b hb W
  obtain ⟨s, hs⟩ : ∃ s, sectorOf b = s := ⟨_, rfl⟩
  rw [hs] at HSE
  have hw1 : ∀ W, BothAt w0 W x d f m v r g sb pv D z D z → Calls Try.prog 19 #[.pointer (some ⟨d, 0, none⟩), .int .i64 i, .string (S s)] W fun e w' => e = .returned (.int .i64 (doWrite D z i s).1) ∧ DAfter W w' d f m v (doWrite D z i s).2.1 (doWrite D z i s).2.2 := fun W h => dwrite_any d f m v D z i s W h.lab.disk h.lab.fuse (by omega)
  have hw2 : ∀ W v' D' z', BothAt w0 W x d f m v' r g sb pv D' z' D z → Calls Try.prog 61 #[.pointer (some ⟨r, 0, none⟩), .int .i64 i, .string (S s)] W fun e w' => e = .returned (.int .i64 (doWrite D z i s).1) ∧ RAfter W w' r g sb pv (doWrite D z i s).2.1 (doWrite D z i s).2.2 := fun W v' D' z' h => rdwrite_any r g sb pv D z i s W h.rat h.rfz (by omega)
  have hlen := doWrite_len4 D z i s
  obtain ⟨⟨s1, D1, z1⟩, hsv⟩ : ∃ p, doWrite D z i s = p := ⟨_, rfl⟩
  rw [hsv] at hw1 hw2 hlen
  dsimp only at hw1 hw2 hlen
  have HS1 := Lib.hid hw1
  have HS2 := Lib.hid hw2
  have HBd := Lib.hid (HB2.out.below (Below.refl _ w2).drew)
  have N2d : Hid (w2.drew.heap[bx]? = some (.cells #[.int .u8 (a : Int), .int .i64 i, .int .u8 (b : Int), .int .u64 keep, .int .i64 torn, .int .i64 bytes] 68 (0, 0))) := N2.out
  clear hw1 hw2 hsv hs
  refine wp_region_noPanic ?_
  go_region_held3 (fun W => W.cell? ⟨x, 1, none⟩ = some (.pointer (some ⟨d, 0, none⟩)) ∧ W.cell? ⟨x, 3, none⟩ = some (.pointer (some ⟨r, 0, none⟩)) ∧ W.cell? ⟨bx, 1, none⟩ = some (.int .i64 i) ∧ W.cell? ⟨bx, 2, none⟩ = some (.int .u8 (b : Int)))
    (first | exact HS.out _ _ _ _ _ _ _ HBd.out N2d.out | exact HS.out _ _ _ _ _ _ _ HB3.out N3.out | exact HS.out _ _ _ _ _ _ _ HB4.out N4.out | exact HS.out _ _ _ _ _ _ _ HB5.out N5.out | exact HS.out _ _ _ _ _ _ _ (HB5.out.rchange h6 z6 k6 (fun _ h => h) n6) ((k6.block _ (Array.getElem?_eq_some_iff.1 N5.out).1 HROFF.out).trans N5.out))
    (first | (go_at_call 20; (have hq := k4); clear hq; refine (HSE.out _).mono ?_; rintro e w5 ⟨rfl, b5⟩; have HB5 := Lib.hid (HB4.out.below b5); have N5 := Lib.hid ((b5.block _ (Array.getElem?_eq_some_iff.1 N4.out).1).trans N4.out)) | (go_at_call 20; refine (HSE.out _).mono ?_; rintro e w3 ⟨rfl, b3⟩; have HB3 := Lib.hid (HBd.out.below b3); have N3 := Lib.hid ((b3.block _ (Array.getElem?_eq_some_iff.1 N2d.out).1).trans N2d.out)) | (go_at_call 19; refine (HS1.out _ HB3.out).mono ?_; rintro e w4 ⟨rfl, ha4⟩; obtain ⟨v4, h4, k4, n4⟩ := ha4.lab; have HB4 := Lib.hid (HB3.out.dchange h4 k4 (fun _ h => h) n4); have N4 := Lib.hid ((k4.block _ (Array.getElem?_eq_some_iff.1 N3.out).1 HOFF.out).trans N3.out)) | (go_at_call 61; refine (HS2.out _ _ _ _ HB5.out).mono ?_; rintro e w6 ⟨rfl, ha6⟩; obtain ⟨pv6, h6, z6, k6, n6⟩ := ha6))
  refine NoPanic.normal ?_
  have HE := Lib.hid (HB5.out.rchange h6 z6 k6 (fun _ h => h) n6)
  clear b3 b5 h4 k4 n4 h6 z6 k6 n6 ha4 HS HSE HS1 HS2 HB3 HB4 HB5 N3 N4 N5 HBd N2d
  go_wp2_with (fail)
  go_ret
  exact ⟨rfl, _, _, _, _, _, _, _, HE.out, hlen⟩
set_option maxRecDepth 100000 in
set_option maxHeartbeats 8000000 in
theorem act2_any (w0 w : World) (x d f m : Nat) (v : Value) (r g sb : Nat) (pv : Value) (D : Dk) (z : Fz) (h : BothAt w0 w x d f m v r g sb pv D z D z) (hP : D.P.length ≤ 1000) (a : Nat) (i : Int) (b : Nat) (keep torn bytes : Int) (hm : (a : Int) % 8 = 2) (hi : i ≤ 9223372036854775807) (hb : b < 256) :
    Calls Try.prog 36 #[.pointer (some ⟨x, 0, none⟩), .agg #[.int .u8 (a : Int), .int .i64 i, .int .u8 (b : Int), .int .u64 keep, .int .i64 torn, .int .i64 bytes]] w (ActR w0 x r g sb D.P.length) := by
  have n1 := alloc_new w (.cells #[.int .u8 (a : Int), .int .i64 i, .int .u8 (b : Int), .int .u64 keep, .int .i64 torn, .int .i64 bytes] 68)
  have b1 := alloc_below w (.cells #[.int .u8 (a : Int), .int .i64 i, .int .u8 (b : Int), .int .u64 keep, .int .i64 torn, .int .i64 bytes] 68)
  have HB0 := Lib.hid h
  have HOW : Hid (¬ Own d f m v w.heap.size ∧ ¬ ROwn r g sb pv w.heap.size) := ⟨fun ho => by have := h.lab.lt ho; omega, fun ho => by have := h.rat.rlt h.rfz ho; omega⟩
  have HOFF : Hid (¬ Own d f m v w.heap.size) := HOW.out.1
  have HROFF : Hid (¬ ROwn r g sb pv w.heap.size) := HOW.out.2
  clear h
  go_enter Try.func36, Try.ntmps36
  go_upto_region 1 with (fail)
  obtain ⟨w2, hw2⟩ : ∃ w2, w.alloc (.cells #[.int .u8 (a : Int), .int .i64 i, .int .u8 (b : Int), .int .u64 keep, .int .i64 torn, .int .i64 bytes] 68) = w2 := ⟨_, rfl⟩
  rw [hw2] at n1 b1 ⊢
  obtain ⟨bx, hbx⟩ : ∃ bx, w.heap.size = bx := ⟨_, rfl⟩
  rw [hbx] at HOFF HROFF n1
  have HB2 := Lib.hid (HB0.out.below b1)
  have N2 := Lib.hid n1
  have e0 := (cell_of n1 0).trans rfl
  clear HOW HB0 b1 n1 hw2
  go_upto_region 16 with (fail)
  clear e0
  have HS : Hid (∀ (W : World) (v' pv' : Value) (D' : Dk) (z' : Fz) (E' : Dk) (y' : Fz), BothAt w0 W x d f m v' r g sb pv' D' z' E' y' → W.heap[bx]? = some (.cells #[.int .u8 (a : Int), .int .i64 i, .int .u8 (b : Int), .int .u64 keep, .int .i64 torn, .int .i64 bytes] 68 (0, 0)) → W.cell? ⟨x, 1, none⟩ = some (.pointer (some ⟨d, 0, none⟩)) ∧ W.cell? ⟨x, 3, none⟩ = some (.pointer (some ⟨r, 0, none⟩))) := fun W v' pv' D' z' E' y' h hn => ⟨h.x1, h.x3⟩
  have hw1 : ∀ W, BothAt w0 W x d f m v r g sb pv D z D z → Calls Try.prog 26 #[.pointer (some ⟨d, 0, none⟩)] W fun e w' => e = .returned (.int .i64 (doSync D z).1) ∧ DAfter W w' d f m v (doSync D z).2.1 (doSync D z).2.2 := fun W h => dsync_any d f m v D z W h.lab.disk h.lab.fuse
  have hw2 : ∀ W v' D' z', BothAt w0 W x d f m v' r g sb pv D' z' D z → Calls Try.prog 62 #[.pointer (some ⟨r, 0, none⟩)] W fun e w' => e = .returned (.int .i64 (doSync D z).1) ∧ RAfter W w' r g sb pv (doSync D z).2.1 (doSync D z).2.2 := fun W v' D' z' h => rdsync_any r g sb pv D z W h.rat h.rfz
  have hlen := doSync_len4 D z
  obtain ⟨⟨s1, D1, z1⟩, hsv⟩ : ∃ p, doSync D z = p := ⟨_, rfl⟩
  rw [hsv] at hw1 hw2 hlen
  dsimp only at hw1 hw2 hlen
  have HS1 := Lib.hid hw1
  have HS2 := Lib.hid hw2
  have HBd := Lib.hid (HB2.out.below (Below.refl _ w2).drew)
  have N2d : Hid (w2.drew.heap[bx]? = some (.cells #[.int .u8 (a : Int), .int .i64 i, .int .u8 (b : Int), .int .u64 keep, .int .i64 torn, .int .i64 bytes] 68 (0, 0))) := N2.out
  clear hw1 hw2 hsv
  refine wp_region_noPanic ?_
  go_region_held3 (fun W => W.cell? ⟨x, 1, none⟩ = some (.pointer (some ⟨d, 0, none⟩)) ∧ W.cell? ⟨x, 3, none⟩ = some (.pointer (some ⟨r, 0, none⟩)))
    (first | exact HS.out _ _ _ _ _ _ _ HBd.out N2d.out | exact HS.out _ _ _ _ _ _ _ HB4.out N4.out | exact HS.out _ _ _ _ _ _ _ (HB4.out.rchange h6 z6 k6 (fun _ h => h) n6) ((k6.block _ (Array.getElem?_eq_some_iff.1 N4.out).1 HROFF.out).trans N4.out))
    (first | (go_at_call 26; refine (HS1.out _ HBd.out).mono ?_; rintro e w4 ⟨rfl, ha4⟩; obtain ⟨v4, h4, k4, n4⟩ := ha4.lab; have HB4 := Lib.hid (HBd.out.dchange h4 k4 (fun _ h => h) n4); have N4 := Lib.hid ((k4.block _ (Array.getElem?_eq_some_iff.1 N2d.out).1 HOFF.out).trans N2d.out)) | (go_at_call 62; refine (HS2.out _ _ _ _ HB4.out).mono ?_; rintro e w6 ⟨rfl, ha6⟩; obtain ⟨pv6, h6, z6, k6, n6⟩ := ha6))
  refine NoPanic.normal ?_
  have HE := Lib.hid (HB4.out.rchange h6 z6 k6 (fun _ h => h) n6)
  clear h4 k4 n4 h6 z6 k6 n6 ha4 HS HS1 HS2 HB4 N4 HBd N2d
  go_wp2_with (fail)
  go_ret
  exact ⟨rfl, _, _, _, _, _, _, _, HE.out, hlen⟩
set_option maxRecDepth 100000 in
set_option maxHeartbeats 8000000 in
theorem act3_any (w0 w : World) (x d f m : Nat) (v : Value) (r g sb : Nat) (pv : Value) (D : Dk) (z : Fz) (h : BothAt w0 w x d f m v r g sb pv D z D z) (hP : D.P.length ≤ 1000) (a : Nat) (i : Int) (b : Nat) (keep torn bytes : Int) (hm : (a : Int) % 8 = 3) (hi : i ≤ 9223372036854775807) (hb : b < 256) :
    Calls Try.prog 36 #[.pointer (some ⟨x, 0, none⟩), .agg #[.int .u8 (a : Int), .int .i64 i, .int .u8 (b : Int), .int .u64 keep, .int .i64 torn, .int .i64 bytes]] w (ActR w0 x r g sb D.P.length) := by
  have n1 := alloc_new w (.cells #[.int .u8 (a : Int), .int .i64 i, .int .u8 (b : Int), .int .u64 keep, .int .i64 torn, .int .i64 bytes] 68)
  have b1 := alloc_below w (.cells #[.int .u8 (a : Int), .int .i64 i, .int .u8 (b : Int), .int .u64 keep, .int .i64 torn, .int .i64 bytes] 68)
  have HB0 := Lib.hid h
  have HOW : Hid (¬ Own d f m v w.heap.size ∧ ¬ ROwn r g sb pv w.heap.size) := ⟨fun ho => by have := h.lab.lt ho; omega, fun ho => by have := h.rat.rlt h.rfz ho; omega⟩
  have HOFF : Hid (¬ Own d f m v w.heap.size) := HOW.out.1
  have HROFF : Hid (¬ ROwn r g sb pv w.heap.size) := HOW.out.2
  clear h
  go_enter Try.func36, Try.ntmps36
  go_upto_region 1 with (fail)
  obtain ⟨w2, hw2⟩ : ∃ w2, w.alloc (.cells #[.int .u8 (a : Int), .int .i64 i, .int .u8 (b : Int), .int .u64 keep, .int .i64 torn, .int .i64 bytes] 68) = w2 := ⟨_, rfl⟩
  rw [hw2] at n1 b1 ⊢
  obtain ⟨bx, hbx⟩ : ∃ bx, w.heap.size = bx := ⟨_, rfl⟩
  rw [hbx] at HOFF HROFF n1
  have HB2 := Lib.hid (HB0.out.below b1)
  have N2 := Lib.hid n1
  have e0 := (cell_of n1 0).trans rfl
  clear HOW HB0 b1 n1 hw2
  go_upto_region 18 with (fail)
  clear e0
  have e3 := (cell_of N2.out 3).trans rfl
  have e4 := (cell_of N2.out 4).trans rfl
  have e5 := (cell_of N2.out 5).trans rfl
  go_wp2_with (fail)
  refine (bothcrash_any w0 w2 x d f m v r g sb pv D z D z keep torn bytes HB2.out).mono ?_
  rintro e w3 ⟨rfl, hB, -⟩
  have HE := Lib.hid hB
  clear hB e3 e4 e5 HB2 N2
  go_wp2_with (fail)
  go_ret
  exact ⟨rfl, _, _, _, _, _, _, _, HE.out, Nat.zero_le _⟩
set_option maxRecDepth 100000 in
set_option maxHeartbeats 8000000 in
theorem act4_any (w0 w : World) (x d f m : Nat) (v : Value) (r g sb : Nat) (pv : Value) (D : Dk) (z : Fz) (h : BothAt w0 w x d f m v r g sb pv D z D z) (hP : D.P.length ≤ 1000) (a : Nat) (i : Int) (b : Nat) (keep torn bytes : Int) (hm : (a : Int) % 8 = 4) (hi : i ≤ 9223372036854775807) (hb : b < 256) :
    Calls Try.prog 36 #[.pointer (some ⟨x, 0, none⟩), .agg #[.int .u8 (a : Int), .int .i64 i, .int .u8 (b : Int), .int .u64 keep, .int .i64 torn, .int .i64 bytes]] w (ActR w0 x r g sb D.P.length) := by
  have n1 := alloc_new w (.cells #[.int .u8 (a : Int), .int .i64 i, .int .u8 (b : Int), .int .u64 keep, .int .i64 torn, .int .i64 bytes] 68)
  have b1 := alloc_below w (.cells #[.int .u8 (a : Int), .int .i64 i, .int .u8 (b : Int), .int .u64 keep, .int .i64 torn, .int .i64 bytes] 68)
  have HB0 := Lib.hid h
  have HOW : Hid (¬ Own d f m v w.heap.size ∧ ¬ ROwn r g sb pv w.heap.size) := ⟨fun ho => by have := h.lab.lt ho; omega, fun ho => by have := h.rat.rlt h.rfz ho; omega⟩
  have HOFF : Hid (¬ Own d f m v w.heap.size) := HOW.out.1
  have HROFF : Hid (¬ ROwn r g sb pv w.heap.size) := HOW.out.2
  clear h
  go_enter Try.func36, Try.ntmps36
  go_upto_region 1 with (fail)
  obtain ⟨w2, hw2⟩ : ∃ w2, w.alloc (.cells #[.int .u8 (a : Int), .int .i64 i, .int .u8 (b : Int), .int .u64 keep, .int .i64 torn, .int .i64 bytes] 68) = w2 := ⟨_, rfl⟩
  rw [hw2] at n1 b1 ⊢
  obtain ⟨bx, hbx⟩ : ∃ bx, w.heap.size = bx := ⟨_, rfl⟩
  rw [hbx] at HOFF HROFF n1
  have HB2 := Lib.hid (HB0.out.below b1)
  have N2 := Lib.hid n1
  have e0 := (cell_of n1 0).trans rfl
  clear HOW HB0 b1 n1 hw2
  go_upto_region 20 with (fail)
  clear e0
  have e1 := (cell_of N2.out 1).trans rfl
  go_wp2_with (fail)
  refine (botharm_any w0 w2 x d f m v r g sb pv D z D i HB2.out hi).mono ?_
  rintro e w3 ⟨rfl, hB⟩
  have HE := Lib.hid hB
  clear hB e1 HB2 N2
  go_wp2_with (fail)
  go_ret
  exact ⟨rfl, _, _, _, _, _, _, _, HE.out, Nat.le_succ _⟩
set_option maxRecDepth 100000 in
set_option maxHeartbeats 8000000 in
theorem act5_any (w0 w : World) (x d f m : Nat) (v : Value) (r g sb : Nat) (pv : Value) (D : Dk) (z : Fz) (h : BothAt w0 w x d f m v r g sb pv D z D z) (hP : D.P.length ≤ 1000) (a : Nat) (i : Int) (b : Nat) (keep torn bytes : Int) (hm : (a : Int) % 8 = 5) (hi : i ≤ 9223372036854775807) (hb : b < 256) :
    Calls Try.prog 36 #[.pointer (some ⟨x, 0, none⟩), .agg #[.int .u8 (a : Int), .int .i64 i, .int .u8 (b : Int), .int .u64 keep, .int .i64 torn, .int .i64 bytes]] w (ActR w0 x r g sb D.P.length) := by
  have n1 := alloc_new w (.cells #[.int .u8 (a : Int), .int .i64 i, .int .u8 (b : Int), .int .u64 keep, .int .i64 torn, .int .i64 bytes] 68)
  have b1 := alloc_below w (.cells #[.int .u8 (a : Int), .int .i64 i, .int .u8 (b : Int), .int .u64 keep, .int .i64 torn, .int .i64 bytes] 68)
  have HB0 := Lib.hid h
  have HOW : Hid (¬ Own d f m v w.heap.size ∧ ¬ ROwn r g sb pv w.heap.size) := ⟨fun ho => by have := h.lab.lt ho; omega, fun ho => by have := h.rat.rlt h.rfz ho; omega⟩
  have HOFF : Hid (¬ Own d f m v w.heap.size) := HOW.out.1
  have HROFF : Hid (¬ ROwn r g sb pv w.heap.size) := HOW.out.2
  clear h
  go_enter Try.func36, Try.ntmps36
  go_upto_region 1 with (fail)
  obtain ⟨w2, hw2⟩ : ∃ w2, w.alloc (.cells #[.int .u8 (a : Int), .int .i64 i, .int .u8 (b : Int), .int .u64 keep, .int .i64 torn, .int .i64 bytes] 68) = w2 := ⟨_, rfl⟩
  rw [hw2] at n1 b1 ⊢
  obtain ⟨bx, hbx⟩ : ∃ bx, w.heap.size = bx := ⟨_, rfl⟩
  rw [hbx] at HOFF HROFF n1
  have HB2 := Lib.hid (HB0.out.below b1)
  have N2 := Lib.hid n1
  have e0 := (cell_of n1 0).trans rfl
  clear HOW HB0 b1 n1 hw2
  go_upto_region 22 with (fail)
  clear e0
  have HS : Hid (∀ (W : World) (v' pv' : Value) (D' : Dk) (z' : Fz) (E' : Dk) (y' : Fz), BothAt w0 W x d f m v' r g sb pv' D' z' E' y' → W.heap[bx]? = some (.cells #[.int .u8 (a : Int), .int .i64 i, .int .u8 (b : Int), .int .u64 keep, .int .i64 torn, .int .i64 bytes] 68 (0, 0)) → W.cell? ⟨x, 1, none⟩ = some (.pointer (some ⟨d, 0, none⟩)) ∧ W.cell? ⟨bx, 2, none⟩ = some (.int .u8 (b : Int))) := fun W v' pv' D' z' E' y' h hn => ⟨h.x1, (cell_of hn 2).trans rfl⟩
  by_cases hb2 : b % 2 = 1
  · have hbm : (b : Int) % 2 = 1 := by omega
    have hbt : (b : Int).tmod 2 = 1 := by rw [Int.tmod_eq_emod_of_nonneg (by omega)]; omega
    have HBd := Lib.hid (HB2.out.below (Below.refl _ w2).drew)
    have N2d : Hid (w2.drew.heap[bx]? = some (.cells #[.int .u8 (a : Int), .int .i64 i, .int .u8 (b : Int), .int .u64 keep, .int .i64 torn, .int .i64 bytes] 68 (0, 0))) := N2.out
    refine wp_region_noPanic ?_
    go_region_held3 (fun W => W.cell? ⟨x, 1, none⟩ = some (.pointer (some ⟨d, 0, none⟩)) ∧ W.cell? ⟨bx, 2, none⟩ = some (.int .u8 (b : Int)))
      (first | exact HS.out _ _ _ _ _ _ _ HBd.out N2d.out | exact HS.out _ _ _ _ _ _ _ HB4.out N4.out)
      (first | (go_at_call 33; refine (dsetfull_any d f m v D true _ HBd.out.lab.disk).mono ?_; rintro e w4 ⟨rfl, h4, k4⟩; have HB4 := Lib.hid (HBd.out.dchange ⟨h4, HBd.out.lab.fuse.keeps k4 (fun e => HBd.out.lab.disk.df e.symm)⟩ k4 (fun _ h => .inl h) (fun _ hk => .inl hk)); have N4 := Lib.hid ((k4.block _ (Array.getElem?_eq_some_iff.1 N2d.out).1 (fun e => HOFF.out (.inl e))).trans N2d.out)))
    refine NoPanic.normal ?_
    go_upto_region 23 with (fail)
    clear h4 k4 HBd N2d
    have cx3 := HB4.out.x3
    have c2 := (cell_of N4.out 2).trans rfl
    have r3 := HB4.out.rat.c3
    have f3 := free_of HB4.out.rat.blk 3
    go_region
    obtain ⟨h5, k5⟩ := (HB4.out.rat.below (Below.refl _ w4)).full true
    have HE := Lib.hid ((HB4.out.rchange h5 (HB4.out.rfz.keeps k5 (fun e => HB4.out.rat.rg e.symm)) k5 (fun _ hk => .inl hk) (fun _ hk => .inl hk)).below (Below.refl _ _).drew)
    clear h5 k5 HB4 N4 cx3 c2 r3 f3 HS
    go_wp2_with (fail)
    go_ret
    exact ⟨rfl, _, _, _, _, _, _, _, HE.out, Nat.le_succ _⟩
  · have hbm : (b : Int) % 2 = 0 := by omega
    have hbt : (b : Int).tmod 2 = 0 := by rw [Int.tmod_eq_emod_of_nonneg (by omega)]; omega
    have HBd := Lib.hid (HB2.out.below (Below.refl _ w2).drew)
    have N2d : Hid (w2.drew.heap[bx]? = some (.cells #[.int .u8 (a : Int), .int .i64 i, .int .u8 (b : Int), .int .u64 keep, .int .i64 torn, .int .i64 bytes] 68 (0, 0))) := N2.out
    refine wp_region_noPanic ?_
    go_region_held3 (fun W => W.cell? ⟨x, 1, none⟩ = some (.pointer (some ⟨d, 0, none⟩)) ∧ W.cell? ⟨bx, 2, none⟩ = some (.int .u8 (b : Int)))
      (first | exact HS.out _ _ _ _ _ _ _ HBd.out N2d.out | exact HS.out _ _ _ _ _ _ _ HB4.out N4.out)
      (first | (go_at_call 33; refine (dsetfull_any d f m v D false _ HBd.out.lab.disk).mono ?_; rintro e w4 ⟨rfl, h4, k4⟩; have HB4 := Lib.hid (HBd.out.dchange ⟨h4, HBd.out.lab.fuse.keeps k4 (fun e => HBd.out.lab.disk.df e.symm)⟩ k4 (fun _ h => .inl h) (fun _ hk => .inl hk)); have N4 := Lib.hid ((k4.block _ (Array.getElem?_eq_some_iff.1 N2d.out).1 (fun e => HOFF.out (.inl e))).trans N2d.out)))
    refine NoPanic.normal ?_
    go_upto_region 23 with (fail)
    clear h4 k4 HBd N2d
    have cx3 := HB4.out.x3
    have c2 := (cell_of N4.out 2).trans rfl
    have r3 := HB4.out.rat.c3
    have f3 := free_of HB4.out.rat.blk 3
    go_region
    obtain ⟨h5, k5⟩ := (HB4.out.rat.below (Below.refl _ w4)).full false
    have HE := Lib.hid ((HB4.out.rchange h5 (HB4.out.rfz.keeps k5 (fun e => HB4.out.rat.rg e.symm)) k5 (fun _ hk => .inl hk) (fun _ hk => .inl hk)).below (Below.refl _ _).drew)
    clear h5 k5 HB4 N4 cx3 c2 r3 f3 HS
    go_wp2_with (fail)
    go_ret
    exact ⟨rfl, _, _, _, _, _, _, _, HE.out, Nat.le_succ _⟩
set_option maxRecDepth 100000 in
set_option maxHeartbeats 8000000 in
theorem act6_any (w0 w : World) (x d f m : Nat) (v : Value) (r g sb : Nat) (pv : Value) (D : Dk) (z : Fz) (h : BothAt w0 w x d f m v r g sb pv D z D z) (hP : D.P.length ≤ 1000) (a : Nat) (i : Int) (b : Nat) (keep torn bytes : Int) (hm : (a : Int) % 8 = 6) (hi : i ≤ 9223372036854775807) (hb : b < 256) :
    Calls Try.prog 36 #[.pointer (some ⟨x, 0, none⟩), .agg #[.int .u8 (a : Int), .int .i64 i, .int .u8 (b : Int), .int .u64 keep, .int .i64 torn, .int .i64 bytes]] w (ActR w0 x r g sb D.P.length) := by
  have n1 := alloc_new w (.cells #[.int .u8 (a : Int), .int .i64 i, .int .u8 (b : Int), .int .u64 keep, .int .i64 torn, .int .i64 bytes] 68)
  have b1 := alloc_below w (.cells #[.int .u8 (a : Int), .int .i64 i, .int .u8 (b : Int), .int .u64 keep, .int .i64 torn, .int .i64 bytes] 68)
  have HB0 := Lib.hid h
  have HOW : Hid (¬ Own d f m v w.heap.size ∧ ¬ ROwn r g sb pv w.heap.size) := ⟨fun ho => by have := h.lab.lt ho; omega, fun ho => by have := h.rat.rlt h.rfz ho; omega⟩
  have HOFF : Hid (¬ Own d f m v w.heap.size) := HOW.out.1
  have HROFF : Hid (¬ ROwn r g sb pv w.heap.size) := HOW.out.2
  clear h
  go_enter Try.func36, Try.ntmps36
  go_upto_region 1 with (fail)
  obtain ⟨w2, hw2⟩ : ∃ w2, w.alloc (.cells #[.int .u8 (a : Int), .int .i64 i, .int .u8 (b : Int), .int .u64 keep, .int .i64 torn, .int .i64 bytes] 68) = w2 := ⟨_, rfl⟩
  rw [hw2] at n1 b1 ⊢
  obtain ⟨bx, hbx⟩ : ∃ bx, w.heap.size = bx := ⟨_, rfl⟩
  rw [hbx] at HOFF HROFF n1
  have HB2 := Lib.hid (HB0.out.below b1)
  have N2 := Lib.hid n1
  have e0 := (cell_of n1 0).trans rfl
  clear HOW HB0 b1 n1 hw2
  go_upto_region 25 with (fail)
  clear e0
  have wb : IntKind.i64.wrap (b : Int) = (b : Int) := by rw [IntKind.wrap_i64]; omega
  have e2 := (cell_of N2.out 2).trans rfl
  obtain ⟨w3, b3, hmk, hcv⟩ := make_zeros' w2 b (by omega)
  obtain ⟨s, hs⟩ : ∃ s : List UInt8, List.replicate b 0 = s := ⟨_, rfl⟩
  rw [hs] at hcv
  have HB3 := Lib.hid (HB2.out.below b3)
  have N3 := Lib.hid ((b3.block _ (Array.getElem?_eq_some_iff.1 N2.out).1).trans N2.out)
  clear b3 hs HB2 N2
  go_upto_region 26 with (fail)
  clear hmk hcv e2
  have HS : Hid (∀ (W : World) (v' pv' : Value) (D' : Dk) (z' : Fz) (E' : Dk) (y' : Fz), BothAt w0 W x d f m v' r g sb pv' D' z' E' y' → W.heap[bx]? = some (.cells #[.int .u8 (a : Int), .int .i64 i, .int .u8 (b : Int), .int .u64 keep, .int .i64 torn, .int .i64 bytes] 68 (0, 0)) → W.cell? ⟨x, 1, none⟩ = some (.pointer (some ⟨d, 0, none⟩)) ∧ W.cell? ⟨x, 3, none⟩ = some (.pointer (some ⟨r, 0, none⟩))) := fun W v' pv' D' z' E' y' h hn => ⟨h.x1, h.x3⟩
  have hw1 : ∀ W, BothAt w0 W x d f m v r g sb pv D z D z → Calls Try.prog 19 #[.pointer (some ⟨d, 0, none⟩), .int .i64 0, .string (S s)] W fun e w' => e = .returned (.int .i64 (doWrite D z 0 s).1) ∧ DAfter W w' d f m v (doWrite D z 0 s).2.1 (doWrite D z 0 s).2.2 := fun W h => dwrite_any d f m v D z 0 s W h.lab.disk h.lab.fuse (by omega)
  have hw2 : ∀ W v' D' z', BothAt w0 W x d f m v' r g sb pv D' z' D z → Calls Try.prog 61 #[.pointer (some ⟨r, 0, none⟩), .int .i64 0, .string (S s)] W fun e w' => e = .returned (.int .i64 (doWrite D z 0 s).1) ∧ RAfter W w' r g sb pv (doWrite D z 0 s).2.1 (doWrite D z 0 s).2.2 := fun W v' D' z' h => rdwrite_any r g sb pv D z 0 s W h.rat h.rfz (by omega)
  have hlen := doWrite_len4 D z 0 s
  obtain ⟨⟨s1, D1, z1⟩, hsv⟩ : ∃ p, doWrite D z 0 s = p := ⟨_, rfl⟩
  rw [hsv] at hw1 hw2 hlen
  dsimp only at hw1 hw2 hlen
  have HS1 := Lib.hid hw1
  have HS2 := Lib.hid hw2
  have HBd := Lib.hid (HB3.out.below (Below.refl _ w3).drew)
  have N2d : Hid (w3.drew.heap[bx]? = some (.cells #[.int .u8 (a : Int), .int .i64 i, .int .u8 (b : Int), .int .u64 keep, .int .i64 torn, .int .i64 bytes] 68 (0, 0))) := N3.out
  clear hw1 hw2 hsv
  refine wp_region_noPanic ?_
  go_region_held3 (fun W => W.cell? ⟨x, 1, none⟩ = some (.pointer (some ⟨d, 0, none⟩)) ∧ W.cell? ⟨x, 3, none⟩ = some (.pointer (some ⟨r, 0, none⟩)))
    (first | exact HS.out _ _ _ _ _ _ _ HBd.out N2d.out | exact HS.out _ _ _ _ _ _ _ HB4.out N4.out | exact HS.out _ _ _ _ _ _ _ (HB4.out.rchange h6 z6 k6 (fun _ h => h) n6) ((k6.block _ (Array.getElem?_eq_some_iff.1 N4.out).1 HROFF.out).trans N4.out))
    (first | (go_at_call 19; refine (HS1.out _ HBd.out).mono ?_; rintro e w4 ⟨rfl, ha4⟩; obtain ⟨v4, h4, k4, n4⟩ := ha4.lab; have HB4 := Lib.hid (HBd.out.dchange h4 k4 (fun _ h => h) n4); have N4 := Lib.hid ((k4.block _ (Array.getElem?_eq_some_iff.1 N2d.out).1 HOFF.out).trans N2d.out)) | (go_at_call 61; refine (HS2.out _ _ _ _ HB4.out).mono ?_; rintro e w6 ⟨rfl, ha6⟩; obtain ⟨pv6, h6, z6, k6, n6⟩ := ha6))
  refine NoPanic.normal ?_
  have HE := Lib.hid (HB4.out.rchange h6 z6 k6 (fun _ h => h) n6)
  clear h4 k4 n4 h6 z6 k6 n6 ha4 HS HS1 HS2 HB4 N4 HBd N2d
  go_wp2_with (fail)
  go_ret
  exact ⟨rfl, _, _, _, _, _, _, _, HE.out, hlen⟩
set_option maxRecDepth 100000 in
set_option maxHeartbeats 8000000 in
theorem act7_any (w0 w : World) (x d f m : Nat) (v : Value) (r g sb : Nat) (pv : Value) (D : Dk) (z : Fz) (h : BothAt w0 w x d f m v r g sb pv D z D z) (hP : D.P.length ≤ 1000) (a : Nat) (i : Int) (b : Nat) (keep torn bytes : Int) (hm : (a : Int) % 8 = 7) (hi : i ≤ 9223372036854775807) (hb : b < 256) :
    Calls Try.prog 36 #[.pointer (some ⟨x, 0, none⟩), .agg #[.int .u8 (a : Int), .int .i64 i, .int .u8 (b : Int), .int .u64 keep, .int .i64 torn, .int .i64 bytes]] w (ActR w0 x r g sb D.P.length) := by
  have n1 := alloc_new w (.cells #[.int .u8 (a : Int), .int .i64 i, .int .u8 (b : Int), .int .u64 keep, .int .i64 torn, .int .i64 bytes] 68)
  have b1 := alloc_below w (.cells #[.int .u8 (a : Int), .int .i64 i, .int .u8 (b : Int), .int .u64 keep, .int .i64 torn, .int .i64 bytes] 68)
  have HB0 := Lib.hid h
  have HOW : Hid (¬ Own d f m v w.heap.size ∧ ¬ ROwn r g sb pv w.heap.size) := ⟨fun ho => by have := h.lab.lt ho; omega, fun ho => by have := h.rat.rlt h.rfz ho; omega⟩
  have HOFF : Hid (¬ Own d f m v w.heap.size) := HOW.out.1
  have HROFF : Hid (¬ ROwn r g sb pv w.heap.size) := HOW.out.2
  clear h
  go_enter Try.func36, Try.ntmps36
  go_upto_region 1 with (fail)
  obtain ⟨w2, hw2⟩ : ∃ w2, w.alloc (.cells #[.int .u8 (a : Int), .int .i64 i, .int .u8 (b : Int), .int .u64 keep, .int .i64 torn, .int .i64 bytes] 68) = w2 := ⟨_, rfl⟩
  rw [hw2] at n1 b1 ⊢
  obtain ⟨bx, hbx⟩ : ∃ bx, w.heap.size = bx := ⟨_, rfl⟩
  rw [hbx] at HOFF HROFF n1
  have HB2 := Lib.hid (HB0.out.below b1)
  have N2 := Lib.hid n1
  have e0 := (cell_of n1 0).trans rfl
  clear HOW HB0 b1 n1 hw2
  go_upto_region 2 with (fail)
  clear e0
  have cx0 := HB2.out.x0
  have HXB : Hid (x < w2.heap.size) := HB2.out.xlt
  have HRB : Hid (∀ k, ROwn r g sb pv k → k < w2.heap.size) := fun k hk => HB2.out.rat.rlt HB2.out.rfz hk
  have HDB : Hid (∀ k, Own d f m v k → k < w2.heap.size) := fun k hk => HB2.out.lab.lt hk
  have H02 : Hid (w0.heap.size ≤ w2.heap.size) := HB2.out.bel.size
  have hfc := fcopy_any f z w2 HB2.out.lab.fuse
  go_wp2_with (fail)
  refine hfc.mono ?_
  rintro e w3 ⟨f', rfl, hf3, b3, lf⟩
  have HB3 := Lib.hid (HB2.out.below b3)
  have N3 := Lib.hid ((b3.block _ (Array.getElem?_eq_some_iff.1 N2.out).1).trans N2.out)
  have cx1 := HB3.out.x1
  have hdc := dcopy_any d f m v D f' w3 HB3.out.lab.disk (by omega) hf3.lt
  have h23 : w2.heap.size ≤ w3.heap.size := b3.size
  have HF3 := Lib.hid hf3
  have HLF := Lib.hid lf
  clear cx0 hfc b3 hf3 lf HB2 N2
  go_wp2_with (fail)
  refine hdc.mono ?_
  rintro e w4 ⟨d', m', v', rfl, hd4, b4, l4⟩
  have HB4 := Lib.hid (HB3.out.below b4)
  have N4 := Lib.hid ((b4.block _ (Array.getElem?_eq_some_iff.1 N3.out).1).trans N3.out)
  have HLB : Hid (Lab w4 d' f' m' v' D z) := ⟨hd4, HF3.out.below b4⟩
  have HFR : Hid (From w2.heap.size d' f' m' v') := fun k hk => by
    rcases hk with e | e | e | e
    · exact Nat.le_trans h23 (l4 k (.inl e))
    · rw [e]; exact HLF.out
    · exact Nat.le_trans h23 (l4 k (.inr (.inl e)))
    · exact Nat.le_trans h23 (l4 k (.inr (.inr e)))
  have HS24 : Hid (w2.heap.size ≤ w4.heap.size) := Nat.le_trans h23 b4.size
  clear cx1 hdc hd4 b4 l4 HF3 HLF HB3 N3 h23
  go_upto_region 6 with (fail)
  have HS : Hid (∀ (W : World) (v' pv' : Value) (D' : Dk) (z' : Fz) (E' : Dk) (y' : Fz), BothAt w0 W x d f m v' r g sb pv' D' z' E' y' → W.heap[bx]? = some (.cells #[.int .u8 (a : Int), .int .i64 i, .int .u8 (b : Int), .int .u64 keep, .int .i64 torn, .int .i64 bytes] 68 (0, 0)) → W.cell? ⟨x, 1, none⟩ = some (.pointer (some ⟨d, 0, none⟩)) ∧ W.cell? ⟨bx, 2, none⟩ = some (.int .u8 (b : Int))) := fun W v' pv' D' z' E' y' h hn => ⟨h.x1, (cell_of hn 2).trans rfl⟩
  have HSE : Hid (∀ W : World, Calls Try.prog 20 #[.int .u8 (b : Int)] W fun e w' => e = .returned (.string (S (sectorOf b))) ∧ Below W.heap.size W w') := fun W => sector_any b hb W
  obtain ⟨s, hs⟩ : ∃ s, sectorOf b = s := ⟨_, rfl⟩
  rw [hs] at HSE
  have hw1 : ∀ W, BothAt w0 W x d f m v r g sb pv D z D z → Calls Try.prog 19 #[.pointer (some ⟨d, 0, none⟩), .int .i64 0, .string (S s)] W fun e w' => e = .returned (.int .i64 (doWrite D z 0 s).1) ∧ DAfter W w' d f m v (doWrite D z 0 s).2.1 (doWrite D z 0 s).2.2 := fun W h => dwrite_any d f m v D z 0 s W h.lab.disk h.lab.fuse (by omega)
  obtain ⟨⟨s1, D1, z1⟩, hsv⟩ : ∃ p, doWrite D z 0 s = p := ⟨_, rfl⟩
  rw [hsv] at hw1
  dsimp only at hw1
  have HS1 := Lib.hid hw1
  have HBd := Lib.hid (HB4.out.below (Below.refl _ w4).drew)
  have N4d : Hid (w4.drew.heap[bx]? = some (.cells #[.int .u8 (a : Int), .int .i64 i, .int .u8 (b : Int), .int .u64 keep, .int .i64 torn, .int .i64 bytes] 68 (0, 0))) := N4.out
  have HLBd : Hid (Lab w4.drew d' f' m' v' D z) := HLB.out.below (Below.refl _ w4).drew
  clear hw1 hsv hs
  refine wp_region_noPanic ?_
  go_region_held3 (fun W => W.cell? ⟨x, 1, none⟩ = some (.pointer (some ⟨d, 0, none⟩)) ∧ W.cell? ⟨bx, 2, none⟩ = some (.int .u8 (b : Int)))
    (first | exact HS.out _ _ _ _ _ _ _ HBd.out N4d.out | exact HS.out _ _ _ _ _ _ _ HB5.out N5.out | exact HS.out _ _ _ _ _ _ _ HB6.out N6.out)
    (first | (go_at_call 20; refine (HSE.out _).mono ?_; rintro e w5 ⟨rfl, b5⟩; have HB5 := Lib.hid (HBd.out.below b5); have N5 := Lib.hid ((b5.block _ (Array.getElem?_eq_some_iff.1 N4d.out).1).trans N4d.out)) | (go_at_call 19; refine (HS1.out _ HB5.out).mono ?_; rintro e w6 ⟨rfl, ha6⟩; obtain ⟨v6, h6, k6, n6⟩ := ha6.lab; have HB6 := Lib.hid (HB5.out.dchange h6 k6 (fun _ h => h) n6); have N6 := Lib.hid ((k6.block _ (Array.getElem?_eq_some_iff.1 N5.out).1 HOFF.out).trans N5.out)))
  refine NoPanic.normal ?_
  have HOD : Hid (∀ j, Own d' f' m' v' j → ¬ Own d f m v j) := fun j h1 h2 => by have := HFR.out j h1; have := HDB.out j h2; omega
  have HL6 : Hid (Lab w6 d' f' m' v' D z) := (HLBd.out.below b5).keeps k6 (fun j hj e => HOD.out j hj e)
  have hsz : w2.heap.size ≤ w6.heap.size := by
    have q1 := HS24.out
    have q2 : w4.heap.size ≤ w5.heap.size := b5.size
    have q3 := k6.size
    omega
  have HN6 : Hid (∀ j, Own d f m v6 j → Own d f m v j ∨ w4.heap.size ≤ j) := fun j hj => by
    rcases own_new n6 hj with e | e
    · exact .inl e
    · have q2 : w4.heap.size ≤ w5.heap.size := b5.size
      exact .inr (by omega)
  have HOD6 : Hid (∀ j, Own d' f' m' v' j → ¬ Own d f m v6 j) := fun j h1 h2 => by
    rcases HN6.out j h2 with e | e
    · exact HOD.out j h1 e
    · have := HLB.out.lt h1; omega
  clear b5 h6 k6 n6 ha6 HS HSE HS1 HBd N4d HLBd HB5 N5 HB4 N4 N6 HN6
  have cx1 := HB6.out.x1
  have hsy := dsync_any d f m v6 D1 z1 w6 HB6.out.lab.disk HB6.out.lab.fuse
  go_wp2_with (fail)
  refine hsy.mono ?_
  rintro e w7 ⟨rfl, ha7⟩
  obtain ⟨v7, h7, k7, n7⟩ := ha7.lab
  have HB7 := Lib.hid (HB6.out.dchange h7 k7 (fun _ h => h) n7)
  have HL7 : Hid (Lab w7 d' f' m' v' D z) := HL6.out.keeps k7 (fun j hj e => HOD6.out j hj e)
  clear cx1 hsy ha7 h7 k7 n7 HB6 HL6 hsz HOD6 HOD HLB
  have HSW := Lib.hid (HB7.out.swap HXB.out HRB.out H02.out HL7.out HFR.out)
  have H2S := Lib.hid (fun a0 a1 => two_set4 HB7.out.xb a0 a1)
  have cx0 := HB7.out.x0
  have cx1 := HB7.out.x1
  have fx0 := free_of HB7.out.xb 0
  have fx1 := free_of HB7.out.xb 1
  clear HB7 HL7 HXB HRB H02 HFR HDB
  go_wp2_with (fail)
  go_ret
  rw [H2S.out]
  exact ⟨rfl, _, _, _, _, _, _, _, HSW.out, Nat.le_succ _⟩
theorem act_any (w0 w : World) (x d f m : Nat) (v : Value) (r g sb : Nat) (pv : Value) (D : Dk) (z : Fz) (h : BothAt w0 w x d f m v r g sb pv D z D z) (hP : D.P.length ≤ 1000) (a : Nat) (i : Int) (b : Nat) (keep torn bytes : Int) (hi : i ≤ 9223372036854775807) (hb : b < 256) :
    Calls Try.prog 36 #[.pointer (some ⟨x, 0, none⟩), .agg #[.int .u8 (a : Int), .int .i64 i, .int .u8 (b : Int), .int .u64 keep, .int .i64 torn, .int .i64 bytes]] w (ActR w0 x r g sb D.P.length) := by
  rcases (show (a : Int) % 8 = 0 ∨ (a : Int) % 8 = 1 ∨ (a : Int) % 8 = 2 ∨ (a : Int) % 8 = 3 ∨ (a : Int) % 8 = 4 ∨ (a : Int) % 8 = 5 ∨ (a : Int) % 8 = 6 ∨ (a : Int) % 8 = 7 by omega) with hm | hm | hm | hm | hm | hm | hm | hm
  · exact act0_any w0 w x d f m v r g sb pv D z h hP a i b keep torn bytes hm hi hb
  · exact act1_any w0 w x d f m v r g sb pv D z h hP a i b keep torn bytes hm hi hb
  · exact act2_any w0 w x d f m v r g sb pv D z h hP a i b keep torn bytes hm hi hb
  · exact act3_any w0 w x d f m v r g sb pv D z h hP a i b keep torn bytes hm hi hb
  · exact act4_any w0 w x d f m v r g sb pv D z h hP a i b keep torn bytes hm hi hb
  · exact act5_any w0 w x d f m v r g sb pv D z h hP a i b keep torn bytes hm hi hb
  · exact act6_any w0 w x d f m v r g sb pv D z h hP a i b keep torn bytes hm hi hb
  · exact act7_any w0 w x d f m v r g sb pv D z h hP a i b keep torn bytes hm hi hb
end Go.Proofs.Ytjpelmjocdodcaa
