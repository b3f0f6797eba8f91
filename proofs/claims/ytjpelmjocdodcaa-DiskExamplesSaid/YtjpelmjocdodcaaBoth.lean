/- sacristanlaw04: a disk and that of the specification. -/
import Derived.Test.YtjpelmjocdodcaaRefPend
namespace Go.Proofs.Ytjpelmjocdodcaa
open Go.RowKit Go.ChangeMaps

/-- Block x is a disk (D, its fuse z) and that of the specification (E, its fuse y), and they share nothing. -/
structure BothAt (w0 w : World) (x d f m : Nat) (v : Value) (r g sb : Nat) (pv : Value) (D : Dk) (z : Fz) (E : Dk) (y : Fz) : Prop where
  xb : w.heap[x]? = some (.cells #[.pointer (some ⟨f, 0, none⟩), .pointer (some ⟨d, 0, none⟩), .pointer (some ⟨g, 0, none⟩), .pointer (some ⟨r, 0, none⟩)] 59 (0, 0))
  lab : Lab w d f m v D z
  rat : RefAt w r g sb pv E
  rfz : RFzAt w g y
  apart : ∀ k, Own d f m v k → ¬ ROwn r g sb pv k
  xo : ¬ Own d f m v x
  xr : ¬ ROwn r g sb pv x
  frm : ∀ k, (k = x ∨ Own d f m v k ∨ ROwn r g sb pv k) → w0.heap.size ≤ k
  bel : Below w0.heap.size w0 w
theorem RefAt.rlt {w : World} {r g sb : Nat} {pv : Value} {D : Dk} {z : Fz} (h : RefAt w r g sb pv D) (hz : RFzAt w g z) {k : Nat} (hk : ROwn r g sb pv k) : k < w.heap.size := by
  rcases hk with rfl | rfl | rfl | e
  · exact (Array.getElem?_eq_some_iff.1 h.blk).1
  · exact hz.lt
  · exact (Array.getElem?_eq_some_iff.1 h.sec).1
  · rcases h.row.2 with ⟨rfl, _⟩ | ⟨q, cap, cur, rfl, hb, hg, r⟩
    · simp [Value.ownBlock] at e
    · simp [Value.ownBlock] at e
      subst e
      exact (Array.getElem?_eq_some_iff.1 hg).1
theorem rown_new {r g sb : Nat} {pv pv' : Value} {n : Nat} (h : ∀ k, pv'.ownBlock = some k → pv.ownBlock = some k ∨ n ≤ k) {k : Nat} (hk : ROwn r g sb pv' k) : ROwn r g sb pv k ∨ n ≤ k := by
  rcases hk with e | e | e | e
  · exact .inl (.inl e)
  · exact .inl (.inr (.inl e))
  · exact .inl (.inr (.inr (.inl e)))
  · rcases h k e with e | e
    · exact .inl (.inr (.inr (.inr e)))
    · exact .inr e
section
variable {w0 w w' : World} {x d f m : Nat} {v : Value} {r g sb : Nat} {pv : Value} {D : Dk} {z : Fz} {E : Dk} {y : Fz}
theorem BothAt.below (h : BothAt w0 w x d f m v r g sb pv D z E y) (b : Below w.heap.size w w') : BothAt w0 w' x d f m v r g sb pv D z E y :=
  ⟨(b.block _ (Array.getElem?_eq_some_iff.1 h.xb).1).trans h.xb, h.lab.below b, h.rat.below b, h.rfz.below b, h.apart, h.xo, h.xr, h.frm, below_step b h.bel (Nat.le_refl _)⟩
theorem BothAt.xlt (h : BothAt w0 w x d f m v r g sb pv D z E y) : x < w.heap.size := (Array.getElem?_eq_some_iff.1 h.xb).1
/-- The disk has changed. -/
theorem BothAt.dchange (h : BothAt w0 w x d f m v r g sb pv D z E y) {v' : Value} {D' : Dk} {z' : Fz} (h1 : Lab w' d f m v' D' z') {S : Nat → Prop} (k : Keeps S w w') (hs : ∀ k, S k → Own d f m v k) (n : ∀ k, v'.ownBlock = some k → v.ownBlock = some k ∨ w.heap.size ≤ k) :
    BothAt w0 w' x d f m v' r g sb pv D' z' E y := by
  have hx := h.xlt
  have hb := h.bel.size
  refine ⟨(k.block x hx (fun e => h.xo (hs x e))).trans h.xb, h1, h.rat.keeps k (fun e => h.apart _ (hs _ e) (.inl rfl)) (fun e => h.apart _ (hs _ e) (.inr (.inr (.inl rfl)))) (fun j hj e => h.apart _ (hs _ e) (.inr (.inr (.inr hj)))),
    h.rfz.keeps k (fun e => h.apart _ (hs _ e) (.inr (.inl rfl))), fun j hj hr => ?_, fun hj => ?_, h.xr, fun j hj => ?_, k.belowOf h.bel hb (fun j hj e => by have := h.frm j (.inr (.inl (hs j e))); omega)⟩
  · rcases own_new n hj with e | e
    · exact h.apart j e hr
    · have := h.rat.rlt h.rfz hr; omega
  · rcases own_new n hj with e | e
    · exact h.xo e
    · omega
  · rcases hj with e | e | e
    · exact h.frm j (.inl e)
    · rcases own_new n e with e | e
      · exact h.frm j (.inr (.inl e))
      · omega
    · exact h.frm j (.inr (.inr e))
/-- The specification's disk has changed. -/
theorem BothAt.rchange (h : BothAt w0 w x d f m v r g sb pv D z E y) {pv' : Value} {E' : Dk} {y' : Fz} (h1 : RefAt w' r g sb pv' E') (h2 : RFzAt w' g y') {S : Nat → Prop} (k : Keeps S w w') (hs : ∀ k, S k → ROwn r g sb pv k) (n : ∀ k, pv'.ownBlock = some k → pv.ownBlock = some k ∨ w.heap.size ≤ k) :
    BothAt w0 w' x d f m v r g sb pv' D z E' y' := by
  have hx := h.xlt
  have hb := h.bel.size
  refine ⟨(k.block x hx (fun e => h.xr (hs x e))).trans h.xb, h.lab.keeps k (fun j hj e => h.apart j hj (hs j e)), h1, h2, fun j hj hr => ?_, h.xo, fun hj => ?_, fun j hj => ?_, k.belowOf h.bel hb (fun j hj e => by have := h.frm j (.inr (.inr (hs j e))); omega)⟩
  · rcases rown_new n hr with e | e
    · exact h.apart j hj e
    · have := h.lab.lt hj; omega
  · rcases rown_new n hj with e | e
    · exact h.xr e
    · omega
  · rcases hj with e | e | e
    · exact h.frm j (.inl e)
    · exact h.frm j (.inr (.inl e))
    · rcases rown_new n e with e | e
      · exact h.frm j (.inr (.inr e))
      · omega
theorem BothAt.dafter (h : BothAt w0 w x d f m v r g sb pv D z E y) {D' : Dk} {z' : Fz} (a : DAfter w w' d f m v D' z') : ∃ v', BothAt w0 w' x d f m v' r g sb pv D' z' E y := by
  obtain ⟨v', h1, k1, n1⟩ := a.lab
  exact ⟨v', h.dchange h1 k1 (fun _ => id) n1⟩
theorem BothAt.rafter (h : BothAt w0 w x d f m v r g sb pv D z E y) {E' : Dk} {y' : Fz} (a : RAfter w w' r g sb pv E' y') : ∃ pv', BothAt w0 w' x d f m v r g sb pv' D z E' y' := by
  obtain ⟨pv', h1, h2, k1, n1⟩ := a
  exact ⟨pv', h.rchange h1 h2 k1 (fun _ => id) n1⟩
theorem BothAt.dcrash (h : BothAt w0 w x d f m v r g sb pv D z E y) {D' : Dk} (hd : DiskAt w' d f m (.slice none 0 0) D') (k : Keeps (fun k => k = d ∨ k = m) w w') : BothAt w0 w' x d f m (.slice none 0 0) r g sb pv D' z E y :=
  h.dchange (h.lab.crash hd k) k (fun j hj => by rcases hj with rfl | rfl; exact .inl rfl; exact .inr (.inr (.inl rfl))) (fun j hj => by simp [Value.ownBlock] at hj)
theorem BothAt.rcrash (h : BothAt w0 w x d f m v r g sb pv D z E y) {E' : Dk} (hr : RefAt w' r g sb (.slice none 0 0) E') (k : Keeps (fun k => k = r ∨ k = sb) w w') : BothAt w0 w' x d f m v r g sb (.slice none 0 0) D z E' y :=
  h.rchange hr (h.rfz.keeps k (fun e => by rcases e with e | e; exact h.rat.rg e.symm; exact h.rat.sg e.symm)) k (fun j hj => by rcases hj with rfl | rfl; exact .inl rfl; exact .inr (.inr (.inl rfl))) (fun j hj => by simp [Value.ownBlock] at hj)
theorem BothAt.dfuse (h : BothAt w0 w x d f m v r g sb pv D z E y) {z' : Fz} (hz : z'.left ≤ 9223372036854775807) : BothAt w0 (setBlock w f z'.obj) x d f m v r g sb pv D z' E y :=
  h.dchange (S := fun k => k = f) ⟨h.lab.disk.burn z', ⟨setBlock_same (Array.getElem?_eq_some_iff.1 h.lab.fuse.1).1 _, hz⟩⟩ (Keeps.setBlock (S := fun k => k = f) (.refl _ _) (fun _ => rfl) _) (fun _ hj => .inr (.inl hj)) (fun _ hj => .inl hj)
theorem BothAt.rfuse (h : BothAt w0 w x d f m v r g sb pv D z E y) {y' : Fz} (hz : y'.left ≤ 9223372036854775807) : BothAt w0 (setBlock w g y'.robj) x d f m v r g sb pv D z E y' :=
  h.rchange (S := fun k => k = g) (h.rat.burn y') (h.rfz.set hz) (Keeps.setBlock (S := fun k => k = g) (.refl _ _) (fun _ => rfl) _) (fun _ hj => .inr (.inl hj)) (fun _ hj => .inl hj)
theorem BothAt.x0 (h : BothAt w0 w x d f m v r g sb pv D z E y) : w.cell? ⟨x, 0, none⟩ = some (.pointer (some ⟨f, 0, none⟩)) := (cell_of h.xb 0).trans rfl
theorem BothAt.x1 (h : BothAt w0 w x d f m v r g sb pv D z E y) : w.cell? ⟨x, 1, none⟩ = some (.pointer (some ⟨d, 0, none⟩)) := (cell_of h.xb 1).trans rfl
theorem BothAt.x2 (h : BothAt w0 w x d f m v r g sb pv D z E y) : w.cell? ⟨x, 2, none⟩ = some (.pointer (some ⟨g, 0, none⟩)) := (cell_of h.xb 2).trans rfl
theorem BothAt.x3 (h : BothAt w0 w x d f m v r g sb pv D z E y) : w.cell? ⟨x, 3, none⟩ = some (.pointer (some ⟨r, 0, none⟩)) := (cell_of h.xb 3).trans rfl
end
set_option maxRecDepth 100000 in
set_option maxHeartbeats 4000000 in
theorem newboth_ok (n : Nat) (w : World) (h1 : 1 ≤ n) (h2 : n ≤ 1000) :
    Calls Try.prog 27 #[.int .i64 n] w fun e w' => ∃ x d f m v r g sb pv, e = .returned (.pointer (some ⟨x, 0, none⟩)) ∧ BothAt w w' x d f m v r g sb pv (Dk.new n) .idle (Dk.new n) .idle := by
  have H1 := Lib.hid h1
  have H2 := Lib.hid h2
  clear h1 h2
  go_enter Try.func27, Try.ntmps27
  go_wp2_with (fail)
  refine (fnew_any w).mono ?_
  rintro e w1 ⟨rfl, hw1⟩
  have m1 := alloc_new w Fz.idle.obj
  have s1 := alloc_size w Fz.idle.obj
  have b1 := alloc_below w Fz.idle.obj
  rw [← hw1] at m1 s1 b1
  have M1 := Lib.hid m1
  have S1 := Lib.hid s1
  have B1 := Lib.hid b1
  clear hw1 m1 s1 b1
  obtain ⟨n0, n1, n2, n3⟩ := two_new w1 Fz.idle.robj (.cells #[.pointer (some ⟨w.heap.size, 0, none⟩), .pointer none, .pointer (some ⟨w1.heap.size, 0, none⟩), .pointer none] 59)
  have e0 : Fz.idle.robj = .cells #[.bool false, .bool false, .int .i64 0] 115 := rfl
  rw [e0] at n0 n1 n2 n3
  clear e0
  go_wp2_with (fail)
  generalize (w1.alloc (.cells #[.bool false, .bool false, .int .i64 0] 115)).alloc (.cells #[.pointer (some ⟨w.heap.size, 0, none⟩), .pointer none, .pointer (some ⟨w1.heap.size, 0, none⟩), .pointer none] 59) = W3 at n0 n1 n2 n3 ⊢
  have N0 := Lib.hid n0
  have N1 := Lib.hid n1
  have N2 := Lib.hid n2
  have N3 := Lib.hid n3
  clear n0 n1 n2 n3
  refine (dnew_ok n w.heap.size W3 H1.out (by have := H2.out; omega) (by have := S1.out; have := N2.out; omega)).mono ?_
  rintro e w4 ⟨rfl, hd, hb⟩
  have HD := Lib.hid hd
  have HB4 := Lib.hid hb
  have S4 := Lib.hid hb.size
  have DL := Lib.hid (Array.getElem?_eq_some_iff.1 hd.blk).1
  have X4 := Lib.hid ((hb.block (w1.heap.size + 1) (by have := N2.out; omega)).trans N1.out)
  have G4 := Lib.hid ((hb.block w1.heap.size (by have := N2.out; omega)).trans N0.out)
  have c2 : w4.cell? ⟨w1.heap.size + 1, 2, none⟩ = some (.pointer (some ⟨w1.heap.size, 0, none⟩)) := (cell_of X4.out 2).trans rfl
  clear hd hb
  go_wp2_with (fail)
  refine (rdnew_ok n w1.heap.size w4 H1.out H2.out (by have := N2.out; have := S4.out; omega)).mono ?_
  rintro e w5 ⟨rfl, hr, hb⟩
  have HR := Lib.hid hr
  have HB5 := Lib.hid hb
  have X5 := Lib.hid ((hb.block (w1.heap.size + 1) (by have := N2.out; have := S4.out; omega)).trans X4.out)
  have G5 := Lib.hid ((hb.block w1.heap.size (by have := N2.out; have := S4.out; omega)).trans G4.out)
  have D5 := Lib.hid (HD.out.below hb)
  have F5 : Hid (FzAt w5 w.heap.size .idle) := (((show FzAt w1 w.heap.size .idle from ⟨M1.out, Nat.zero_le _⟩).below N3.out).below HB4.out).below hb
  have c1 : w5.cell? ⟨w1.heap.size + 1, 1, none⟩ = some (.pointer none) := (cell_of X5.out 1).trans rfl
  have c3 : w5.cell? ⟨w1.heap.size + 1, 3, none⟩ = some (.pointer none) := (cell_of X5.out 3).trans rfl
  have f1 := free_of X5.out 1
  have f3 := free_of X5.out 3
  clear hr hb c2
  go_wp2_with (fail)
  go_ret
  obtain ⟨C, hC⟩ : ∃ C : Array Value, (#[.pointer (some ⟨w.heap.size, 0, none⟩), .pointer (some ⟨W3.heap.size + 1, 0, none⟩), .pointer (some ⟨w1.heap.size, 0, none⟩), .pointer (some ⟨w4.heap.size + 1, 0, none⟩)] : Array Value) = C := ⟨_, rfl⟩
  have eW : (w5.setCell ⟨w1.heap.size + 1, 1, none⟩ (.pointer (some ⟨W3.heap.size + 1, 0, none⟩))).setCell ⟨w1.heap.size + 1, 3, none⟩ (.pointer (some ⟨w4.heap.size + 1, 0, none⟩)) = setBlock w5 (w1.heap.size + 1) (.cells C 59 (0, 0)) := by
    rw [setCell_block X5.out, setCell_block (setBlock_same (Array.getElem?_eq_some_iff.1 X5.out).1 _), setBlock_twice, ← hC]
    rfl
  rw [eW]
  have kk : Keeps (fun k => k = w1.heap.size + 1) w5 (setBlock w5 (w1.heap.size + 1) (.cells C 59 (0, 0))) := Keeps.setBlock (S := fun k => k = w1.heap.size + 1) (.refl _ _) (fun _ => rfl) _
  have s1 := S1.out
  have s2 := N2.out
  have s4 := S4.out
  have dl := DL.out
  have hs5 := HB5.out.size
  have hown : ∀ k, Own (W3.heap.size + 1) w.heap.size W3.heap.size (.slice none 0 0) k → k = W3.heap.size + 1 ∨ k = w.heap.size ∨ k = W3.heap.size := fun k hk => by
    rcases hk with e | e | e | e
    · exact .inl e
    · exact .inr (.inl e)
    · exact .inr (.inr e)
    · simp [Value.ownBlock] at e
  have hrown : ∀ k, ROwn (w4.heap.size + 1) w1.heap.size w4.heap.size (.slice none 0 0) k → k = w4.heap.size + 1 ∨ k = w1.heap.size ∨ k = w4.heap.size := fun k hk => by
    rcases hk with e | e | e | e
    · exact .inl e
    · exact .inr (.inl e)
    · exact .inr (.inr e)
    · simp [Value.ownBlock] at e
  have bw : Below w.heap.size w w5 := below_step HB5.out (below_step HB4.out (below_step N3.out B1.out (Nat.le_refl _)) (Nat.le_refl _)) (Nat.le_refl _)
  refine ⟨w1.heap.size + 1, W3.heap.size + 1, w.heap.size, W3.heap.size, .slice none 0 0, w4.heap.size + 1, w1.heap.size, w4.heap.size, .slice none 0 0, rfl, ?_, ?_, ?_, ?_, ?_, ?_, ?_, ?_, ?_⟩
  · rw [hC]
    exact setBlock_same (Array.getElem?_eq_some_iff.1 X5.out).1 _
  · exact Lab.keeps (w := w5) ⟨D5.out, F5.out⟩ kk (fun k hk e => by have := hown k hk; omega)
  · exact HR.out.keeps kk (by omega) (by omega) (fun k hk => by simp [Value.ownBlock] at hk)
  · exact RFzAt.keeps (w := w5) ⟨G5.out, Nat.zero_le _⟩ kk (by omega)
  · intro k h1 h2
    have := hown k h1
    have := hrown k h2
    omega
  · intro h1
    have := hown _ h1
    omega
  · intro h1
    have := hrown _ h1
    omega
  · intro k hk
    rcases hk with e | e | e
    · omega
    · have := hown k e; omega
    · have := hrown k e; omega
  · exact kk.belowOf bw bw.size (fun k hk e => by omega)
end Go.Proofs.Ytjpelmjocdodcaa
