/- A disk with its fuse; sacristanlaw04.known. -/
import Derived.Test.YtgnhpbolmfbngaaDiskCrash
import Derived.Test.YtgnhpbolmfbngaaDiskRead
import Derived.Test.YtgnhpbolmfbngaaSector
namespace Go.Proofs.Ytgnhpbolmfbngaa
open Go.RowKit Go.ChangeMaps

structure Lab (w : World) (d f m : Nat) (v : Value) (D : Dk) (z : Fz) : Prop where
  disk : DiskAt w d f m v D
  fuse : FzAt w f z
/-- All blocks of a disk are at B or behind it. -/
def From (B d f m : Nat) (v : Value) : Prop := ∀ k, Own d f m v k → B ≤ k
theorem From.mono {B C d f m : Nat} {v : Value} (h : From B d f m v) (hc : C ≤ B) : From C d f m v := fun k hk => Nat.le_trans hc (h k hk)
theorem Lab.lt {w : World} {d f m : Nat} {v : Value} {D : Dk} {z : Fz} (h : Lab w d f m v D z) {k : Nat} (hk : Own d f m v k) : k < w.heap.size := by
  rcases hk with rfl | rfl | rfl | hk
  · exact (Array.getElem?_eq_some_iff.1 h.disk.blk).1
  · exact h.fuse.lt
  · obtain ⟨_, hm, _⟩ := h.disk.map; exact hm.lt
  · exact (h.disk.row.lt k hk).2
theorem Lab.keeps {w w' : World} {d f m : Nat} {v : Value} {D : Dk} {z : Fz} {S : Nat → Prop} (h : Lab w d f m v D z) (k : Keeps S w w') (hs : ∀ k, Own d f m v k → ¬ S k) : Lab w' d f m v D z :=
  ⟨h.disk.keeps k (hs d (.inl rfl)) (hs m (.inr (.inr (.inl rfl)))) (fun x hx => hs x (.inr (.inr (.inr hx)))), h.fuse.keeps k (hs f (.inr (.inl rfl)))⟩
theorem Lab.below {w w' : World} {d f m : Nat} {v : Value} {D : Dk} {z : Fz} (h : Lab w d f m v D z) (b : Below w.heap.size w w') : Lab w' d f m v D z := ⟨h.disk.below b, h.fuse.below b⟩
/-- Two disks that share no block. -/
def Apart (d f m : Nat) (v : Value) (d' f' m' : Nat) (v' : Value) : Prop := ∀ k, Own d f m v k → ¬ Own d' f' m' v' k
theorem Apart.symm {d f m : Nat} {v : Value} {d' f' m' : Nat} {v' : Value} (h : Apart d f m v d' f' m' v') : Apart d' f' m' v' d f m v := fun k h1 h2 => h k h2 h1
theorem DAfter.lab {w w' : World} {d f m : Nat} {v : Value} {D : Dk} {z : Fz} (h : DAfter w w' d f m v D z) : ∃ v', Lab w' d f m v' D z ∧ Keeps (Own d f m v) w w' ∧ ∀ k, v'.ownBlock = some k → v.ownBlock = some k ∨ w.heap.size ≤ k := by
  obtain ⟨v', h1, h2, h3, h4⟩ := h
  exact ⟨v', ⟨h1, h2⟩, h3, h4⟩
theorem own_new {d f m : Nat} {v v' : Value} {n : Nat} (h : ∀ k, v'.ownBlock = some k → v.ownBlock = some k ∨ n ≤ k) {k : Nat} (hk : Own d f m v' k) : Own d f m v k ∨ n ≤ k := by
  rcases hk with h1 | h1 | h1 | h1
  · exact .inl (.inl h1)
  · exact .inl (.inr (.inl h1))
  · exact .inl (.inr (.inr (.inl h1)))
  · rcases h k h1 with h2 | h2
    · exact .inl (.inr (.inr (.inr h2)))
    · exact .inr h2
theorem From.new {B d f m : Nat} {v v' : Value} {n : Nat} (h : From B d f m v) (hn : ∀ k, v'.ownBlock = some k → v.ownBlock = some k ∨ n ≤ k) (hB : B ≤ n) : From B d f m v' := fun k hk => by
  rcases own_new hn hk with h1 | h1
  · exact h k h1
  · omega
theorem Apart.new {w : World} {d f m : Nat} {v v' : Value} {d' f' m' : Nat} {u : Value} {D' : Dk} {z' : Fz} (h : Apart d f m v d' f' m' u) (h' : Lab w d' f' m' u D' z') (hn : ∀ k, v'.ownBlock = some k → v.ownBlock = some k ∨ w.heap.size ≤ k) : Apart d f m v' d' f' m' u := fun k h1 h2 => by
  rcases own_new hn h1 with h3 | h3
  · exact h k h3 h2
  · have := h'.lt h2; omega
theorem From.below {B : Nat} {w0 w w' : World} {d f m : Nat} {v : Value} (hb : Below B w0 w) (hB : B ≤ w.heap.size) (h : From B d f m v) (k : Keeps (Own d f m v) w w') : Below B w0 w' :=
  k.belowOf hb hB (fun x hx ho => by have := h x ho; omega)
theorem From.below2 {B : Nat} {w0 w w' : World} {d f m : Nat} {v : Value} (hb : Below B w0 w) (hB : B ≤ w.heap.size) (h : From B d f m v) (k : Keeps (fun k => k = d ∨ k = m) w w') : Below B w0 w' :=
  k.belowOf hb hB (fun x hx ho => by
    rcases ho with rfl | rfl
    · have := h x (.inl rfl); omega
    · have := h x (.inr (.inr (.inl rfl))); omega)
theorem own_nil {d f m k : Nat} {v : Value} (h : Own d f m (.slice none 0 0) k) : Own d f m v k := by
  rcases h with h | h | h | h
  · exact .inl h
  · exact .inr (.inl h)
  · exact .inr (.inr (.inl h))
  · simp [Value.ownBlock] at h
theorem From.nil {B d f m : Nat} {v : Value} (h : From B d f m v) : From B d f m (.slice none 0 0) := fun k hk => h k (own_nil hk)
theorem Lab.crash {w w' : World} {d f m : Nat} {v : Value} {D D' : Dk} {z : Fz} (h : Lab w d f m v D z) (hd : DiskAt w' d f m (.slice none 0 0) D') (k : Keeps (fun k => k = d ∨ k = m) w w') : Lab w' d f m (.slice none 0 0) D' z :=
  ⟨hd, h.fuse.keeps k (fun e => by rcases e with e | e; exact h.disk.df e.symm; exact h.disk.mf e.symm)⟩
/-- A new disk with a new fuse. -/
theorem Lab.new {w w1 w2 : World} {n : Nat} (hw1 : w1 = w.alloc Fz.idle.obj) (hd : DiskAt w2 (w1.heap.size + 1) w.heap.size w1.heap.size (.slice none 0 0) (Dk.new n)) (b : Below w1.heap.size w1 w2) :
    Lab w2 (w1.heap.size + 1) w.heap.size w1.heap.size (.slice none 0 0) (Dk.new n) .idle ∧ From w.heap.size (w1.heap.size + 1) w.heap.size w1.heap.size (.slice none 0 0) ∧ Below w.heap.size w w2 := by
  subst hw1
  have hs := alloc_size w Fz.idle.obj
  refine ⟨⟨hd, (show FzAt (w.alloc Fz.idle.obj) w.heap.size .idle from ⟨alloc_new w _, Nat.zero_le _⟩).below b⟩, fun k hk => ?_, below_step b (alloc_below _ _) (Nat.le_refl _)⟩
  rcases hk with rfl | rfl | rfl | h
  · omega
  · exact Nat.le_refl _
  · omega
  · simp [Value.ownBlock] at h
end Go.Proofs.Ytgnhpbolmfbngaa
