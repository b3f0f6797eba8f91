/- A range over a function whose rounds are handed memory that the iterator has laid: the round is told what it is handed (Good). -/
import Derived.RangeFuncNested
import Derived.RangeFuncBound
import Derived.RangeFuncCalls
import Derived.RangeFuncLeaves
import Derived.RangeFuncBox
import Derived.Shelf.Abstract
import Derived.OwnWalkIn
import Derived.TacticsInMore
import Derived.LoopNIn
import Derived.LoopIn
import Derived.Test.YtjpelmjocdodcaaDiskDo
namespace Go.Proofs.Ytjpelmjocdodcaa
open Go.RowKit Go.Shelf

/-- Blocks of cells of one type lie as they lay. -/
def KeepT (T : TypeId) (W W' : World) : Prop := ∀ (k : Nat) (C : Array Value) (fr : Nat × Nat), W.heap[k]? = some (Obj.cells C T fr) → W'.heap[k]? = some (Obj.cells C T fr)
theorem KeepT.refl (T : TypeId) (W : World) : KeepT T W W := fun _ _ _ h => h
theorem KeepT.trans {T : TypeId} {A B C : World} (h : KeepT T A B) (k : KeepT T B C) : KeepT T A C := fun i X fr hi => k i X fr (h i X fr hi)
theorem KeepT.putObj {T : TypeId} {W : World} {l : Nat} {o : Obj} (o' : Obj) (hl : W.heap[l]? = some o) (ho : o.isCells = false) : KeepT T W (W.putObj l o') := fun k C fr hk => by
  rw [World.putObj_heap_other (fun e => by subst e; rw [hk] at hl; cases hl; cases ho)]
  exact hk
theorem KeepT.below {T : TypeId} {W W' : World} (h : Below W.heap.size W W') : KeepT T W W' := fun k _ _ hk => (h.block k (Array.getElem?_eq_some_iff.1 hk).1).trans hk
theorem KeepT.grown {T T' : TypeId} {W W' : World} {row : Option Nat} (hg : W.grownBy W' row) (hr : ∀ r, row = some r → ∃ (C : Array Value) (fr : Nat × Nat), W.heap[r]? = some (Obj.cells C T' fr)) (hT : T' ≠ T) : KeepT T W W' := fun k C fr hk => by
  refine (hg.block k (Array.getElem?_eq_some_iff.1 hk).1 (fun e => ?_)).trans hk
  obtain ⟨C', fr', h'⟩ := hr k e.symm
  rw [hk] at h'
  cases h'
  exact hT rfl
theorem KeepT.setCell {T T' : TypeId} {W : World} {b : Nat} {C : Array Value} {fr : Nat × Nat} (h : W.heap[b]? = some (.cells C T' fr)) (hT : T' ≠ T) (o : Nat) (v : Value) : KeepT T W (W.setCell ⟨b, o, none⟩ v) := fun k C' fr' hk => by
  rw [Below.heap_setCell _ _ _ _ (fun e => by subst e; rw [hk] at h; cases h; exact hT rfl)]
  exact hk

set_option maxHeartbeats 1000000 in
theorem wpIn_seq_good {α : Type} {P : Program} {w : World} {g : Operand} {ps : Array Tmp} {assign body : Code} {Q : Exit → Act → World → Prop} {a : Act} {gf : Nat} {lb : Array Value} (hg : a.eval g = .func (.func gf) #[] lb) (eg : ∀ args w, (callFunc gf args).run P w = .ok (.enter gf args) w)
    {encs : α → Array Value} (hps : ∀ x, (encs x).size = ps.size) {Good : α → World → Prop} {T : TypeId} (hGood : ∀ x W W', Good x W → KeepT T W W' → Good x W') {R Rp : List α → Prop} {N : Nat}
    (hseq : ∀ (l : Nat) (J Jx : List α → World → Prop) (W : World), Below w.heap.size w W → AbidesFrom W.heap.size J → AbidesFrom W.heap.size Jx →
      (∀ pre x W1, J pre W1 → Good x W1 → pre.length < N → YieldAt Fence.wide (3 - 1 - 1) P l (encs x) W1 fun e W' =>
        (e = .returned (.bool true) ∧ J (pre ++ [x]) W' ∧ KeepT T W1 W') ∨ (e = .returned (.bool false) ∧ Jx (pre ++ [x]) W')) →
      J [] W → CallsIn Fence.wide (3 - 1) P gf (#[.func (.yield l) #[] #[]] ++ lb) W fun e W' => (∃ v, e = .returned v) ∧ ((∃ xs, R xs ∧ J xs W') ∨ (∃ pre, Rp pre ∧ Jx pre W')))
    (I : List α → World → Prop) (Ix : Code → List α → World → Prop) (hI : OwnFrom w.heap.size I) (hIx : ∀ c, OwnFrom w.heap.size (Ix c)) (h0 : I [] w) (a₁ : α → Act)
    (hassign : ∀ (l : Nat) (x : α) (W : World) (K : Act → World → Prop), K (a₁ x) W →
      assign.wpIn (Fence.wide.inRound l) (3 - 1 - 1) P (Exit.then K (fun _ _ _ => False)) { tmps := (ps.zip (encs x)).foldl (fun t (p, v) => t.setIfInBounds p v) a.tmps, defers := [] } W)
    (hbody : ∀ (l : Nat) (pre : List α) (x : α) (W : World), I pre W → Good x W → pre.length < N → body.wpIn (Fence.wide.inRound l) (3 - 1 - 1) P (ownPostG w.heap.size (KeepT T) I Ix (pre ++ [x]) W) (a₁ x) W)
    (hdone : ∀ (D : Nat) (xs : List α) (W : World), w.heap.size ≤ D → R xs → I xs W → W.heap[D]? = some (.deferred (some [])) → Q .normal { a with defers := { target := .collected D, args := #[] } :: a.defers } W)
    (hstop : ∀ (D : Nat) (c : Code) (pre : List α) (W : World), w.heap.size ≤ D → Rp pre → Ix c pre W → W.heap[D]? = some (.deferred (some [])) → c.wpIn Fence.wide 3 P Q { a with defers := { target := .collected D, args := #[] } :: a.defers } W) :
    (Code.rangeFunc g ps assign body).wpIn Fence.wide 3 P Q a w := by
  refine wpIn_rangeFunc fun fn hfn => ?_
  -- the two blocks of the loop's own
  let K := w.heap.size
  let rec_ : LoopState → Option Code → Loop := fun st pe => { state := st, pending := pe, fn, tmps := a.tmps, params := ps, assign, body, defers := K }
  obtain ⟨W1, hW1⟩ : ∃ W1, (w.alloc (.deferred (some []))).alloc (.loop (rec_ .ready none)) = W1 := ⟨_, rfl⟩
  obtain ⟨m0, m1, m2, mb⟩ := two_new w (.deferred (some [])) (.loop (rec_ .ready none))
  rw [hW1] at m0 m1 m2 mb
  have hI1 : I [] W1 := by rw [← hW1]; exact hI.alloc _ (hI.alloc _ h0)
  refine ⟨K + 1, [{ target := .collected K, args := #[] }], W1, { target := .fn (.func gf) lb, args := #[.func (.yield (K + 1)) #[] #[]] }, W1, gf,
    #[.func (.yield (K + 1)) #[] #[]] ++ lb, W1, ?_, ?_, ?_, ?_, fun _ => by omega, ?_⟩
  · rw [← hW1]; exact run_enterLoop_outer _ _ _ _ _
  · simp only [resolve, hg]
    simp [go_sem]
  · intro f' hf'; simp [Target.leads] at hf'; subst hf'; trivial
  · simp [invoke, go_sem, eg]
  · -- what stands between two rounds, and when a round has left
    have low : ∀ {A : World} {row : Option Nat}, (∀ r, row = some r → W1.heap.size ≤ r ∧ ∃ o : Obj, A.heap[r]? = some o ∧ o.isWalk = true) → ∀ r, row = some r → K ≤ r ∧ ∃ o : Obj, A.heap[r]? = some o ∧ o.isCells = false :=
      fun hr r e => by obtain ⟨hB, o, ho, hw⟩ := hr r e; exact ⟨by show w.heap.size ≤ r; omega, o, ho, Obj.not_cells_of_walk hw⟩
    refine (hseq (K + 1) (fun pre W => I pre W ∧ W.heap[K + 1]? = some (.loop (rec_ .ready none)) ∧ W.heap[K]? = some (.deferred (some [])))
      (fun pre W => ∃ c, Ix c pre W ∧ W.heap[K + 1]? = some (.loop (rec_ .done (some c))) ∧ W.heap[K]? = some (.deferred (some []))) W1 mb
      (fun s A B row hs hg' hr => ⟨hI s A B row hs.1 hg' (low hr), (grownBy_keeps hg' (fun r e => (hr r e).2) hs.2.1 rfl).trans hs.2.1, (grownBy_keeps hg' (fun r e => (hr r e).2) hs.2.2 rfl).trans hs.2.2⟩)
      (fun s A B row hs hg' hr => by
        obtain ⟨c, hc, hl, hk⟩ := hs
        exact ⟨c, hIx c s A B row hc hg' (low hr), (grownBy_keeps hg' (fun r e => (hr r e).2) hl rfl).trans hl, (grownBy_keeps hg' (fun r e => (hr r e).2) hk rfl).trans hk⟩)
      ?_ ⟨hI1, m1, m0⟩).mono ?_
    · rintro pre x W ⟨hi, hl, hk⟩ hgd hlen
      have hlt : K + 1 < W.heap.size := (Array.getElem?_eq_some_iff.1 hl).1
      refine ⟨fn, _, assign, body, run_yield (P := P) (args := encs x) hl (hps x), roundIn_of_wpIn hfn (hassign _ x W _ ⟨_, run_beginRound hl rfl, ?_⟩)⟩
      obtain ⟨W2, hW2⟩ : ∃ W2, W.putObj (K + 1) (.loop { rec_ .ready none with state := .busy }) = W2 := ⟨_, rfl⟩
      have l2 : W2.heap[K + 1]? = some (.loop { rec_ .ready none with state := .busy }) := by rw [← hW2]; exact World.putObj_heap_same hlt
      have k2 : W2.heap[K]? = some (.deferred (some [])) := by rw [← hW2]; exact (World.putObj_heap_other (by omega)).trans hk
      have t2 : KeepT T W W2 := by rw [← hW2]; exact KeepT.putObj _ hl rfl
      have i2 : I pre W2 := by rw [← hW2]; exact hI.putObj _ hi (by show w.heap.size ≤ w.heap.size + 1; omega) hl rfl
      show body.wpIn _ _ P _ _ (W.putObj (K + 1) (.loop { rec_ .ready none with state := .busy }))
      rw [hW2]
      have fin : ∀ (jump : Option Code) (W3 : World), KeepsFrom K W2 W3 → ∃ W4, (Instr.endRound (K + 1) jump).run P W3 = .ok (.bool jump.isNone) W4 ∧ W4 = W3.putObj (K + 1) (.loop (rec_ (if jump.isNone then .ready else .done) jump)) ∧
          W3.heap[K + 1]? = some (.loop { rec_ .ready none with state := .busy }) ∧ W4.heap[K + 1]? = some (.loop (rec_ (if jump.isNone then .ready else .done) jump)) ∧ W4.heap[K]? = some (.deferred (some [])) := fun jump W3 h3 => by
        have l3 := h3.same _ _ (by omega) l2 rfl
        exact ⟨_, run_endRound (P := P) jump l3, rfl, l3, World.putObj_heap_same (Array.getElem?_eq_some_iff.1 l3).1, (World.putObj_heap_other (by omega)).trans (h3.same _ _ (Nat.le_refl _) k2 rfl)⟩
      refine wpIn_mono (hbody _ pre x W2 i2 (hGood x _ _ hgd t2) hlen) ?_
      rintro e a3 W3 hp
      cases e with
      | normal =>
        obtain ⟨hk3, hkp3, hi3⟩ := hp
        obtain ⟨W4, hr, rfl, l3, l4, k4⟩ := fin none W3 hk3
        exact ⟨_, _, hr, .inl ⟨rfl, ⟨hI.putObj _ hi3 (by show w.heap.size ≤ w.heap.size + 1; omega) l3 rfl, l4, k4⟩, t2.trans (hkp3.trans (KeepT.putObj _ l3 rfl))⟩⟩
      | ret =>
        obtain ⟨hk3, hi3⟩ := hp
        obtain ⟨W4, hr, rfl, l3, l4, k4⟩ := fin (some .ret) W3 hk3
        exact ⟨_, _, hr, .inr ⟨rfl, .ret, (hIx _).putObj _ hi3 (by show w.heap.size ≤ w.heap.size + 1; omega) l3 rfl, l4, k4⟩⟩
      | exit id =>
        obtain ⟨hk3, hi3⟩ := hp
        obtain ⟨W4, hr, rfl, l3, l4, k4⟩ := fin (some (.exit id)) W3 hk3
        exact ⟨_, _, hr, .inr ⟨rfl, .exit id, (hIx _).putObj _ hi3 (by show w.heap.size ≤ w.heap.size + 1; omega) l3 rfl, l4, k4⟩⟩
      | goto t =>
        obtain ⟨hk3, hi3⟩ := hp
        obtain ⟨W4, hr, rfl, l3, l4, k4⟩ := fin (some (.goto t)) W3 hk3
        exact ⟨_, _, hr, .inr ⟨rfl, .goto t, (hIx _).putObj _ hi3 (by show w.heap.size ≤ w.heap.size + 1; omega) l3 rfl, l4, k4⟩⟩
      | panic ch => exact hp.elim
      | outgrown => exact hp.elim
    · rintro e W2 ⟨⟨v, rfl⟩, (⟨xs, hS, hi, hl, hk⟩ | ⟨pre, hSp, c, hi, hl, hk⟩)⟩
      · exact ⟨none, _, run_endLoop (P := P) hl (by simp [rec_]), hdone _ xs _ (Nat.le_refl _) hS (hI.putObj _ hi (by show w.heap.size ≤ w.heap.size + 1; omega) hl rfl) ((World.putObj_heap_other (by omega)).trans hk)⟩
      · exact ⟨some c, _, run_endLoop (P := P) hl (by simp [rec_]), hstop _ c pre _ (Nat.le_refl _) hSp ((hIx c).putObj _ hi (by show w.heap.size ≤ w.heap.size + 1; omega) hl rfl) ((World.putObj_heap_other (by omega)).trans hk)⟩
end Go.Proofs.Ytjpelmjocdodcaa
