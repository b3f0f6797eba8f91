/- slices.Backward over pending writes. -/
import Derived.RangeFuncBox
import Derived.RangeFuncLeaves
import Derived.Shelf.Abstract
import Derived.OwnWalkIn
import Derived.TacticsInMore
import Derived.LoopNIn
import Derived.LoopIn
import Derived.Test.YtjpelmjocdodcaaDiskDo
namespace Go.Proofs.Ytjpelmjocdodcaa
open Go.RowKit Go.Shelf

attribute [local go_sem] Oper.semAt_some

/-- What has come when k rounds are over. -/
def upto {α : Type} (f : Nat → α) (k : Nat) : List α := (List.range k).map f
theorem upto_succ {α : Type} (f : Nat → α) (k : Nat) : upto f (k + 1) = upto f k ++ [f k] := by simp [upto, List.range_succ]
theorem upto_length {α : Type} (f : Nat → α) (k : Nat) : (upto f k).length = k := by simp [upto]
abbrev Wr := Nat × (Nat × List UInt8)
def wrEnc (x : Wr) : Array Value := #[.int .i64 (x.1 : Int), .agg #[.int .i64 (x.2.1 : Int), .string (S x.2.2)]]
/-- The j-th from behind. -/
def bwd (L : List (Nat × List UInt8)) (j : Nat) : Wr := (L.length - 1 - j, L.getD (L.length - 1 - j) (0, []))
/-- What the slice's cells hold. -/
def WCells (n₀ : Nat) (W : World) (A : Option Addr) (L : List (Nat × List UInt8)) : Prop :=
  ∀ i, i < L.length → ∃ g, A = some ⟨g, 0, none⟩ ∧ g < n₀ ∧ W.cell? ⟨g, i * 2, none⟩ = some (.int .i64 ((L.getD i (0, [])).1 : Int)) ∧ W.cell? ⟨g, i * 2 + 1, none⟩ = some (.string (S (L.getD i (0, [])).2))
theorem WCells.below {n₀ : Nat} {W W' : World} {A : Option Addr} {L : List (Nat × List UInt8)} (h : WCells n₀ W A L) (b : Below n₀ W W') : WCells n₀ W' A L := fun i hi => by
  obtain ⟨g, hA, hg, h1, h2⟩ := h i hi
  exact ⟨g, hA, hg, (b.cell (p := ⟨g, i * 2, none⟩) hg).trans h1, (b.cell (p := ⟨g, i * 2 + 1, none⟩) hg).trans h2⟩
set_option maxHeartbeats 1000000 in
theorem backward_in (A : Option Addr) (len cap : Nat) (w : World) :
    Calls Try.prog 53 #[.slice A len cap] w fun e w' => e = .returned (.func (.func 74) #[] #[.pointer (some ⟨w.heap.size, 0, none⟩)]) ∧ w' = w.alloc (.cells #[.slice A len cap] 99) := by
  go_enter Try.func53, Try.ntmps53
  go_wp2
  go_ret
  exact ⟨rfl, rfl⟩
set_option maxRecDepth 100000 in
set_option maxHeartbeats 2000000 in
theorem backward1_in (F : Fence) (n : Nat) (h7 : F.fn 74) (hro : F.round = none) (hn : 1 ≤ n) (l Bs n₀ cap : Nat) (A : Option Addr) (L : List (Nat × List UInt8)) (hL : L.length ≤ 9223372036854775807) (J Jx : List Wr → World → Prop)
    (hY : ∀ pre x W, J pre W → pre.length < L.length → YieldAt F (n - 1) Try.prog l (wrEnc x) W fun e W' =>
      (e = .returned (.bool true) ∧ J (pre ++ [x]) W' ∧ Below n₀ W W') ∨ (e = .returned (.bool false) ∧ Jx (pre ++ [x]) W'))
    (W : World) (hBs0 : Bs < n₀) (hBs : W.cell? ⟨Bs, 0, none⟩ = some (.slice A L.length cap)) (hc : WCells n₀ W A L) (h0 : J [] W) :
    CallsIn F n Try.prog 74 #[.func (.yield l) #[] #[], .pointer (some ⟨Bs, 0, none⟩)] W fun e W' => (∃ v, e = .returned v) ∧
      ((∃ ys, ys = upto (bwd L) L.length ∧ J ys W') ∨ (∃ pre, (∃ k, k ≤ L.length ∧ pre = upto (bwd L) k) ∧ Jx pre W')) := by
  refine callsIn_of_wp Try.func74 rfl h7 ?_ hro
  simp only [Try.ntmps74, List.size_toArray, List.length_cons, List.length_nil, Nat.reduceAdd, Nat.reduceSub, Array.replicate_succ, Array.replicate_zero, List.push_toArray, List.append_toArray, List.nil_append, List.cons_append]
  obtain ⟨j0, hj0⟩ : ∃ j : Int, (L.length : Int) - 1 = j := ⟨_, rfl⟩
  have hw0 : IntKind.i64.wrap ((L.length : Int) - 1) = j0 := by rw [IntKind.wrap_i64]; omega
  have HJ0 := Lib.hid hj0
  clear hj0
  gi_wp2
  gi_loopw [3] (fun i wr => ∃ (k : Nat) (j : Int), k ≤ L.length ∧ Hid (j = L.length - 1 - k) ∧ i = .int .i64 j ∧ J (upto (bwd L) k) wr ∧ Below n₀ W wr)
    (fun i _ => (intOf i + 1).toNat)
  case atStart => exact ⟨0, j0, Nat.zero_le _, by have := HJ0.out; unfold Hid; omega, rfl, h0, Below.refl _ _⟩
  case round =>
    obtain ⟨k, j, hk, hj, rfl, hJs, hnx⟩ := hrel
    have hbs := (hnx.cell (p := ⟨Bs, 0, none⟩) hBs0).trans hBs
    by_cases hlt : k < L.length
    · obtain ⟨i, rfl⟩ : ∃ i : Nat, j = i := ⟨j.toNat, by have := hj.out; omega⟩
      have hi : i = L.length - 1 - k := by have := hj.out; omega
      have hil : i < L.length := by omega
      obtain ⟨g, rfl, hg, e0, e1⟩ := hc.below hnx i hil
      have e0' : wr.cell? (Addr.add ⟨g, 0, none⟩ (i * 2)) = some (.int .i64 ((L.getD i (0, [])).1 : Int)) := by rw [add_eq, Nat.zero_add]; exact e0
      have HX : Hid (bwd L k = (i, L.getD i (0, []))) := by unfold Hid bwd; rw [hi]
      obtain ⟨fn, tmps, assign, body, hy, hR⟩ := hY _ (bwd L k) wr hJs (by rw [upto_length]; exact hlt)
      rw [HX.out] at hy
      have HI := Lib.hid hi
      clear hi
      obtain ⟨⟨a, s⟩, hp⟩ : ∃ p, L.getD i (0, []) = p := ⟨_, rfl⟩
      rw [hp] at e0 e0' e1 hy
      unfold wrEnc at hy
      dsimp only at hy e0 e1 e0'
      clear hp
      gi_wp2
      refine hR.mono ?_
      rintro e W3 (⟨rfl, hJ3, hk3⟩ | ⟨rfl, hJx3⟩)
      · gi_wp2
        go_roundw
        case rel => exact ⟨k + 1, _, by omega, by have := HI.out; unfold Hid; omega, rfl, by rw [upto_succ]; exact hJ3, hnx.trans hk3⟩
        case measure => simp [intOf]
      · gi_wp2
        refine bodyPost_ret (results_none rfl _ _ _) rfl ?_
        exact ⟨⟨_, rfl⟩, .inr ⟨_, ⟨k + 1, by omega, (upto_succ _ _).symm⟩, hJx3⟩⟩
    · obtain rfl : k = L.length := by omega
      have hneg : j < 0 := by have := hj.out; omega
      gi_wp2
      go_end0
      exact ⟨⟨_, rfl⟩, .inl ⟨_, rfl, hJs⟩⟩
end Go.Proofs.Ytjpelmjocdodcaa
