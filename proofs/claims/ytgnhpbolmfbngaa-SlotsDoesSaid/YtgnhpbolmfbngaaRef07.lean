/- sacristanref07.Encode: what each call returns. -/
import Derived.Test.YtgnhpbolmfbngaaSltBad
import Derived.Test.YtgnhpbolmfbngaaZeros
import Derived.Test.YtgnhpbolmfbngaaCells
import Derived.Deep.RegionHeld3
import Derived.Deep.DeepCutAuto
namespace Go.Proofs.Ytgnhpbolmfbngaa
open Go.RowKit

set_option maxRecDepth 100000 in
set_option maxHeartbeats 8000000 in
theorem srEncode_arg (seq boot area first snaps : Int) (w : World) (bad : ¬ HOk seq boot area first snaps) :
    Calls Try.prog 21 #[hval seq boot area first snaps] w fun e w' => e = .returned (.tuple #[.string ⟨#[]⟩, .int .i64 2]) ∧ Below w.heap.size w w' := by
  unfold hval
  unfold HOk at bad
  by_cases g1 : seq < 1
  · clear bad
    go_enter Try.func21, Try.ntmps21
    go_wp2
    go_ret2
    exact ⟨rfl, (Below.refl _ _).alloc (Nat.le_refl _) _⟩
  by_cases g2 : 281474976710656 ≤ seq
  · clear bad
    go_enter Try.func21, Try.ntmps21
    go_wp2
    go_ret2
    exact ⟨rfl, (Below.refl _ _).alloc (Nat.le_refl _) _⟩
  by_cases g3 : first < 1
  · clear bad
    go_enter Try.func21, Try.ntmps21
    go_wp2
    go_ret2
    exact ⟨rfl, (Below.refl _ _).alloc (Nat.le_refl _) _⟩
  by_cases g4 : 281474976710656 ≤ first
  · clear bad
    go_enter Try.func21, Try.ntmps21
    go_wp2
    go_ret2
    exact ⟨rfl, (Below.refl _ _).alloc (Nat.le_refl _) _⟩
  by_cases g5 : boot < 1
  · clear bad
    go_enter Try.func21, Try.ntmps21
    go_wp2
    go_ret2
    exact ⟨rfl, (Below.refl _ _).alloc (Nat.le_refl _) _⟩
  by_cases g6 : 4294967296 ≤ boot
  · clear bad
    go_enter Try.func21, Try.ntmps21
    go_wp2
    go_ret2
    exact ⟨rfl, (Below.refl _ _).alloc (Nat.le_refl _) _⟩
  by_cases g7 : area < 0
  · clear bad
    go_enter Try.func21, Try.ntmps21
    go_wp2
    go_ret2
    exact ⟨rfl, (Below.refl _ _).alloc (Nat.le_refl _) _⟩
  by_cases g8 : 1 < area
  · clear bad
    go_enter Try.func21, Try.ntmps21
    go_wp2
    go_ret2
    exact ⟨rfl, (Below.refl _ _).alloc (Nat.le_refl _) _⟩
  by_cases g9 : snaps < 0
  · clear bad
    go_enter Try.func21, Try.ntmps21
    go_wp2
    go_ret2
    exact ⟨rfl, (Below.refl _ _).alloc (Nat.le_refl _) _⟩
  have g10 : 65535 < snaps := by omega
  clear bad
  go_enter Try.func21, Try.ntmps21
  go_wp2
  go_ret2
  exact ⟨rfl, (Below.refl _ _).alloc (Nat.le_refl _) _⟩
set_option maxRecDepth 100000 in
set_option maxHeartbeats 4000000 in
theorem srEncode_ok (b : Hd) (w : World) (ok : b.Ok) :
    Calls Try.prog 21 #[b.val] w fun e w' => e = .returned (.tuple #[.string (S b.sec), .int .i64 0]) ∧ Below w.heap.size w w' := by
  obtain ⟨seq, boot, area, first, snaps⟩ := b
  obtain ⟨h1, h2, h3, h4, h5, h6, h7, h8⟩ := ok
  dsimp only [Hd.val, hval] at *
  have g1 : ¬ (seq : Int) < (1 : Int) := by omega
  have g2 : ¬ (281474976710656 : Int) ≤ (seq : Int) := by omega
  have g3 : ¬ (first : Int) < (1 : Int) := by omega
  have g4 : ¬ (281474976710656 : Int) ≤ (first : Int) := by omega
  have g5 : ¬ (boot : Int) < (1 : Int) := by omega
  have g6 : ¬ (4294967296 : Int) ≤ (boot : Int) := by omega
  have g7 : ¬ (area : Int) < (0 : Int) := by omega
  have g8 : ¬ (1 : Int) < (area : Int) := by omega
  have g9 : ¬ (snaps : Int) < (0 : Int) := by omega
  have g10 : ¬ (65535 : Int) < (snaps : Int) := by omega
  go_enter Try.func21, Try.ntmps21
  go_wp2_with (fail)
  clear g1 g2 g3 g4 g5 g6 g7 g8 g9
  have m1 := alloc_new w (.cells #[.int .i64 seq, .int .i64 boot, .int .i64 area, .int .i64 first, .int .i64 snaps] 40)
  have m2 := alloc_below w (.cells #[.int .i64 seq, .int .i64 boot, .int .i64 area, .int .i64 first, .int .i64 snaps] 40)
  have m3 := alloc_size w (.cells #[.int .i64 seq, .int .i64 boot, .int .i64 area, .int .i64 first, .int .i64 snaps] 40)
  generalize w.alloc (.cells #[.int .i64 seq, .int .i64 boot, .int .i64 area, .int .i64 first, .int .i64 snaps] 40) = W0 at m1 m2 m3 ⊢
  (with_reducible refine (rfixed6 _ _ (by omega) (by omega)).mono ?_)
  rintro e W ⟨rfl, b1⟩
  have c0 : W.cell? ⟨w.heap.size, 0, none⟩ = some (.int .i64 seq) := below_cell b1 ((cell_of m1 0).trans rfl)
  have c1 : W.cell? ⟨w.heap.size, 1, none⟩ = some (.int .i64 boot) := below_cell b1 ((cell_of m1 1).trans rfl)
  have c2 : W.cell? ⟨w.heap.size, 2, none⟩ = some (.int .i64 area) := below_cell b1 ((cell_of m1 2).trans rfl)
  have c3 : W.cell? ⟨w.heap.size, 3, none⟩ = some (.int .i64 first) := below_cell b1 ((cell_of m1 3).trans rfl)
  have c4 : W.cell? ⟨w.heap.size, 4, none⟩ = some (.int .i64 snaps) := below_cell b1 ((cell_of m1 4).trans rfl)
  have HBW : Below w.heap.size w W := below_step b1 m2 (Nat.le_refl _)
  have hs1 : w.heap.size + 1 ≤ W.heap.size := by have := b1.size; omega
  clear m1 m2 m3 b1
  go_wp2_with (fail)
  go_region_held3 (fun w' => Below (w.heap.size + 1) W w' ∧ w'.cell? ⟨w.heap.size, 0, none⟩ = some (.int .i64 seq) ∧ w'.cell? ⟨w.heap.size, 1, none⟩ = some (.int .i64 boot) ∧ w'.cell? ⟨w.heap.size, 2, none⟩ = some (.int .i64 area) ∧ w'.cell? ⟨w.heap.size, 3, none⟩ = some (.int .i64 first) ∧ w'.cell? ⟨w.heap.size, 4, none⟩ = some (.int .i64 snaps)) (first | exact boxed5 (below_step (by assumption) (held5 (by assumption)) hs1) c0 c1 c2 c3 c4 | exact boxed5 (below_start _).drew c0 c1 c2 c3 c4 | exact boxed5 (below_start _) c0 c1 c2 c3 c4)
    (first | (go_at_call 54; (with_reducible refine (rfixed4 _ _ (by omega) (by omega)).mono ?_); rintro e w' ⟨rfl, hb⟩) | (go_at_call 54; (with_reducible refine (rfixed6 _ _ (by omega) (by omega)).mono ?_); rintro e w' ⟨rfl, hb⟩) | (go_at_call 54; (with_reducible refine (rfixed1 _ _ (by omega) (by omega)).mono ?_); rintro e w' ⟨rfl, hb⟩) | (go_at_call 54; (with_reducible refine (rfixed2 _ _ (by omega) (by omega)).mono ?_); rintro e w' ⟨rfl, hb⟩))
  rename_i hheld
  clear hb
  have hB := hheld.1
  clear hheld c0 c1 c2 c3 c4
  have HLEN := Lib.hid (Hd.head_length ⟨seq, boot, area, first, snaps⟩)
  unfold Hd.head at HLEN
  dsimp only at HLEN
  generalize hH : be 6 seq ++ (be 4 boot ++ (be 1 area ++ (be 6 first ++ be 2 snaps))) = H at HLEN
  have HH := Lib.hid hH
  clear hH
  have hc : crcSum H < 4294967296 := crcMore_lt 0 H
  have hcw : IntKind.i64.wrap ((crcSum H : Nat) : Int) = ((crcSum H : Nat) : Int) := by rw [IntKind.wrap_i64]; omega
  have HL1 := Lib.hid (show H.length ≤ 140737488351232 by rw [HLEN.out]; omega)
  have hlen : H.length = 19 := HLEN.out
  generalize w' = W1 at *
  go_wp2_with (fail)
  (with_reducible refine (refSum_any _ _ HL1.out).mono ?_)
  rintro e w' ⟨rfl, rfl⟩
  go_wp2_with (fail)
  (with_reducible refine (rfixed4 _ _ (by omega) (by omega)).mono ?_)
  rintro e W2 ⟨rfl, hb2⟩
  have hB2 : Below (w.heap.size + 1) W W2 := below_step hb2 hB hs1
  clear hb2 hB
  go_wp2_with (fail)
  refine (rzeros_any 51 _ (by omega)).mono ?_
  rintro e W3 ⟨rfl, hb3⟩
  have hB3 : Below (w.heap.size + 1) W W3 := below_step hb3 hB2 hs1
  clear hb3 hB2
  have hfin : Below w.heap.size w W3 := HBW.trans (hB3.mono (by omega))
  have hval' : S (H ++ (be 4 (crcSum H) ++ (List.replicate 51 0 ++ be 6 seq))) = S (Hd.sec ⟨seq, boot, area, first, snaps⟩) := by
    have h6 : H.take 6 = be 6 seq := by
      rw [← HH.out]
      exact take_app _ _ _ (by simp)
    unfold Hd.sec Hd.head
    dsimp only
    rw [HH.out, h6]
  have HVAL := Lib.hid hval'
  clear hval' hB3 hcw
  go_wp2
  go_ret2
  exact ⟨ret_str2 HVAL.out, hfin⟩
end Go.Proofs.Ytgnhpbolmfbngaa
