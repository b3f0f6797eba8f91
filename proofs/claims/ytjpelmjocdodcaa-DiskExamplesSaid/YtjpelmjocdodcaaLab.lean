/- A disk with its fuse; sacristanlaw04.known. -/
import Derived.Test.YtjpelmjocdodcaaDiskCrash
import Derived.Test.YtjpelmjocdodcaaDiskRead
import Derived.Test.YtjpelmjocdodcaaSector
namespace Go.Proofs.Ytjpelmjocdodcaa
open Go.RowKit Go.ChangeMaps

structure Lab (w : World) (d f m : Nat) (v : Value) (D : Dk) (z : Fz) : Prop where
  disk : DiskAt w d f m v D
  fuse : FzAt w f z
/-- All blocks of a disk are at B or behind it. -/
def From (B d f m : Nat) (v : Value) : Prop := ∀ k, Own d f m v k → B ≤ k
theorem From.mono {B C d f m : Nat} {v : Value} (h : From B d f m v) (hc : C ≤ B) : From C d f m v := fun k hk => Nat.le_trans hc (h k hk)
theorem Lab.lt {w : World} {d f m : Nat} {v : Value} {D : Dk} {z : Fz} (h : Lab w d f m v D z) {k : Nat} (hk : Own d f m v k) : k < w.heap.size := by
  rcases hk with rfl | rfl | rfl | hk
  · exact (Array.getElem?_eq_some_iff.1 h.disk.blk).1
  · exact h.fuse.lt
  · obtain ⟨_, hm, _⟩ := h.disk.map; exact hm.lt
  · exact (h.disk.row.lt k hk).2
theorem Lab.keeps {w w' : World} {d f m : Nat} {v : Value} {D : Dk} {z : Fz} {S : Nat → Prop} (h : Lab w d f m v D z) (k : Keeps S w w') (hs : ∀ k, Own d f m v k → ¬ S k) : Lab w' d f m v D z :=
  ⟨h.disk.keeps k (hs d (.inl rfl)) (hs m (.inr (.inr (.inl rfl)))) (fun x hx => hs x (.inr (.inr (.inr hx)))), h.fuse.keeps k (hs f (.inr (.inl rfl)))⟩
theorem Lab.below {w w' : World} {d f m : Nat} {v : Value} {D : Dk} {z : Fz} (h : Lab w d f m v D z) (b : Below w.heap.size w w') : Lab w' d f m v D z := ⟨h.disk.below b, h.fuse.below b⟩
/-- Two disks that share no block. -/
def Apart (d f m : Nat) (v : Value) (d' f' m' : Nat) (v' : Value) : Prop := ∀ k, Own d f m v k → ¬ Own d' f' m' v' k
theorem Apart.symm {d f m : Nat} {v : Value} {d' f' m' : Nat} {v' : Value} (h : Apart d f m v d' f' m' v') : Apart d' f' m' v' d f m v := fun k h1 h2 => h k h2 h1
theorem DAfter.lab {w w' : World} {d f m : Nat} {v : Value} {D : Dk} {z : Fz} (h : DAfter w w' d f m v D z) : ∃ v', Lab w' d f m v' D z ∧ Keeps (Own d f m v) w w' ∧ ∀ k, v'.ownBlock = some k → v.ownBlock = some k ∨ w.heap.size ≤ k := by
  obtain ⟨v', h1, h2, h3, h4⟩ := h
  exact ⟨v', ⟨h1, h2⟩, h3, h4⟩
theorem own_new {d f m : Nat} {v v' : Value} {n : Nat} (h : ∀ k, v'.ownBlock = some k → v.ownBlock = some k ∨ n ≤ k) {k : Nat} (hk : Own d f m v' k) : Own d f m v k ∨ n ≤ k := by
  rcases hk with h1 | h1 | h1 | h1
  · exact .inl (.inl h1)
  · exact .inl (.inr (.inl h1))
  · exact .inl (.inr (.inr (.inl h1)))
  · rcases h k h1 with h2 | h2
    · exact .inl (.inr (.inr (.inr h2)))
    · exact .inr h2
theorem From.new {B d f m : Nat} {v v' : Value} {n : Nat} (h : From B d f m v) (hn : ∀ k, v'.ownBlock = some k → v.ownBlock = some k ∨ n ≤ k) (hB : B ≤ n) : From B d f m v' := fun k hk => by
  rcases own_new hn hk with h1 | h1
  · exact h k h1
  · omega
theorem Apart.new {w : World} {d f m : Nat} {v v' : Value} {d' f' m' : Nat} {u : Value} {D' : Dk} {z' : Fz} (h : Apart d f m v d' f' m' u) (h' : Lab w d' f' m' u D' z') (hn : ∀ k, v'.ownBlock = some k → v.ownBlock = some k ∨ w.heap.size ≤ k) : Apart d f m v' d' f' m' u := fun k h1 h2 => by
  rcases own_new hn h1 with h3 | h3
  · exact h k h3 h2
  · have := h'.lt h2; omega
theorem From.below {B : Nat} {w0 w w' : World} {d f m : Nat} {v : Value} (hb : Below B w0 w) (hB : B ≤ w.heap.size) (h : From B d f m v) (k : Keeps (Own d f m v) w w') : Below B w0 w' :=
  k.belowOf hb hB (fun x hx ho => by have := h x ho; omega)
theorem From.below2 {B : Nat} {w0 w w' : World} {d f m : Nat} {v : Value} (hb : Below B w0 w) (hB : B ≤ w.heap.size) (h : From B d f m v) (k : Keeps (fun k => k = d ∨ k = m) w w') : Below B w0 w' :=
  k.belowOf hb hB (fun x hx ho => by
    rcases ho with rfl | rfl
    · have := h x (.inl rfl); omega
    · have := h x (.inr (.inr (.inl rfl))); omega)
theorem own_nil {d f m k : Nat} {v : Value} (h : Own d f m (.slice none 0 0) k) : Own d f m v k := by
  rcases h with h | h | h | h
  · exact .inl h
  · exact .inr (.inl h)
  · exact .inr (.inr (.inl h))
  · simp [Value.ownBlock] at h
theorem From.nil {B d f m : Nat} {v : Value} (h : From B d f m v) : From B d f m (.slice none 0 0) := fun k hk => h k (own_nil hk)
theorem Lab.crash {w w' : World} {d f m : Nat} {v : Value} {D D' : Dk} {z : Fz} (h : Lab w d f m v D z) (hd : DiskAt w' d f m (.slice none 0 0) D') (k : Keeps (fun k => k = d ∨ k = m) w w') : Lab w' d f m (.slice none 0 0) D' z :=
  ⟨hd, h.fuse.keeps k (fun e => by rcases e with e | e; exact h.disk.df e.symm; exact h.disk.mf e.symm)⟩
/-- A new disk with a new fuse. -/
theorem Lab.new {w w1 w2 : World} {n : Nat} (hw1 : w1 = w.alloc Fz.idle.obj) (hd : DiskAt w2 (w1.heap.size + 1) w.heap.size w1.heap.size (.slice none 0 0) (Dk.new n)) (b : Below w1.heap.size w1 w2) :
    Lab w2 (w1.heap.size + 1) w.heap.size w1.heap.size (.slice none 0 0) (Dk.new n) .idle ∧ From w.heap.size (w1.heap.size + 1) w.heap.size w1.heap.size (.slice none 0 0) ∧ Below w.heap.size w w2 := by
  subst hw1
  have hs := alloc_size w Fz.idle.obj
  refine ⟨⟨hd, (show FzAt (w.alloc Fz.idle.obj) w.heap.size .idle from ⟨alloc_new w _, Nat.zero_le _⟩).below b⟩, fun k hk => ?_, below_step b (alloc_below _ _) (Nat.le_refl _)⟩
  rcases hk with rfl | rfl | rfl | h
  · omega
  · exact Nat.le_refl _
  · omega
  · simp [Value.ownBlock] at h
set_option maxRecDepth 100000 in
set_option maxHeartbeats 1600000 in
theorem known04_any (w : World) : Calls Try.prog 16 #[] w fun e w' => e = .returned (.bool true) ∧ Below w.heap.size w w' := by
  go_enter Try.func16, Try.ntmps16
  go_wp2_with (fail)
  refine (fnew_any w).mono ?_
  rintro e w1 ⟨rfl, hw1⟩
  have hs1 : w1.heap.size = w.heap.size + 1 := by rw [hw1]; exact alloc_size _ _
  have HS1 := Lib.hid hs1
  have HW1 := Lib.hid hw1
  clear hs1 hw1
  go_wp2_with (fail)
  refine (dnew_ok 2 w.heap.size w1 (by omega) (by omega) (by have := HS1.out; omega)).mono ?_
  rintro e w2 ⟨rfl, hd, hb⟩
  obtain ⟨h2, F2, B2⟩ := Lab.new HW1.out hd hb
  obtain ⟨d, hdd⟩ : ∃ d, w1.heap.size + 1 = d := ⟨_, rfl⟩
  obtain ⟨m, hmm⟩ : ∃ m, w1.heap.size = m := ⟨_, rfl⟩
  rw [hdd] at h2 F2 ⊢
  rw [hmm] at h2 F2
  have hw2 : w.heap.size ≤ w2.heap.size := B2.size
  have H2 := Lib.hid h2
  have HB2 := Lib.hid B2
  clear hd hb hdd hmm h2 B2 HW1
  go_wp2_with (fail)
  refine (sector_any 5 (by decide) w2).mono ?_
  rintro e w3 ⟨rfl, b3⟩
  have H3 := Lib.hid (H2.out.below b3)
  have HB3 := Lib.hid (below_step b3 HB2.out (Nat.le_refl _))
  have b23 := b3
  clear b3
  go_wp2_with (fail)
  refine (dwrite_any d _ m _ _ _ 1 (sectorOf 5) w3 H3.out.disk H3.out.fuse (by decide)).mono ?_
  rw [show doWrite (Dk.new 2) .idle 1 (sectorOf 5) = (0, (Dk.new 2).write 1 (sectorOf 5), .idle) from by kernel_rfl]
  rintro e w4 ⟨rfl, ha⟩
  obtain ⟨v4, h4, k4, n4⟩ := ha.lab
  have F4 := F2.new n4 (Nat.le_trans hw2 b23.size)
  have HB4 := Lib.hid (F2.below HB3.out (Nat.le_trans hw2 b23.size) k4)
  have H4 := Lib.hid h4
  clear ha h4 k4 n4
  go_wp2_with (fail)
  refine (dsync_any d _ m v4 _ _ w4 H4.out.disk H4.out.fuse).mono ?_
  rw [show doSync ((Dk.new 2).write 1 (sectorOf 5)) .idle = (0, ((Dk.new 2).write 1 (sectorOf 5)).sync, .idle) from by kernel_rfl]
  rintro e w5 ⟨rfl, ha⟩
  obtain ⟨v5, h5, k5, n5⟩ := ha.lab
  have hs4 := HB4.out.size
  have F5 := F4.new n5 hs4
  have HB5 := Lib.hid (F4.below HB4.out hs4 k5)
  have H5 := Lib.hid h5
  clear ha h5 k5 n5
  go_wp2_with (fail)
  refine (dread_any d _ m v5 _ _ 1 w5 H5.out.disk H5.out.fuse).mono ?_
  rw [show doRead ((Dk.new 2).write 1 (sectorOf 5)).sync .idle 1 = (sectorOf 5, 0) from by kernel_rfl]
  rintro e w6 ⟨rfl, b6⟩
  have H6 := Lib.hid (H5.out.below b6)
  have HB6 := Lib.hid (below_step b6 HB5.out (Nat.le_refl _))
  clear b6
  go_wp2_with (fail)
  refine (sector_any 5 (by decide) w6).mono ?_
  rintro e w7 ⟨rfl, b7⟩
  have H7 := Lib.hid (H6.out.below b7)
  have HB7 := Lib.hid (below_step b7 HB6.out (Nat.le_refl _))
  clear b7
  have hne := Lib.hid (show ¬ Z80 = sectorOf 5 from by decide)
  obtain ⟨X, hX⟩ : ∃ X, sectorOf 5 = X := ⟨_, rfl⟩
  have HD := Lib.hid (show doDurable ((Dk.new 2).write 1 (sectorOf 5)).sync 0 = Z80 from by kernel_rfl)
  rw [hX] at hne H7 HD ⊢
  have hn1 : (Z80 == X) = false := beq_eq_false_iff_ne.2 hne.out
  have hn2 : (Z80 != X) = true := bne_iff_ne.2 hne.out
  clear hX
  go_wp2_with (fail)
  refine (ddurable_any d _ m v5 _ 0 w7 H7.out.disk).mono ?_
  rw [HD.out]
  rintro e w8 ⟨rfl, b8⟩
  go_wp2
  go_ret
  exact ⟨rfl, below_step b8 HB7.out (Nat.le_refl _)⟩
end Go.Proofs.Ytjpelmjocdodcaa
