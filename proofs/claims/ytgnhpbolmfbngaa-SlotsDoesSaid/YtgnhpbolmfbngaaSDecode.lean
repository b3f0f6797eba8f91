/- slots.Decode: what each call returns. -/
import Derived.Test.YtgnhpbolmfbngaaSltBad
import Derived.Test.YtgnhpbolmfbngaaCells
import Derived.Deep.RegionHeld3
import Derived.Deep.DeepCutAuto
namespace Go.Proofs.Ytgnhpbolmfbngaa
open Go.RowKit

def zhead : Value := hval 0 0 0 0 0
/-- What slots.Decode returns for some bytes. -/
def hdecVal (s : List UInt8) : Value := match hdecodeOf s with
  | some b => .tuple #[b.val, .int .i64 0]
  | none => .tuple #[zhead, .int .i64 12]
theorem hdecVal_none {s : List UInt8} (h : hdecodeOf s = none) : hdecVal s = .tuple #[zhead, .int .i64 12] := by unfold hdecVal; rw [h]
theorem hdecVal_some {s : List UInt8} {b : Hd} (h : hdecodeOf s = some b) : hdecVal s = .tuple #[b.val, .int .i64 0] := by unfold hdecVal; rw [h]
theorem hbeq_yes {a b : List UInt8} (h : a = b) : (a == b) = true ∧ (a != b) = false := by
  subst h
  exact ⟨beq_self_eq_true a, bne_self_eq_false a⟩
theorem hbeq_no {a b : List UInt8} (h : ¬ a = b) : (a == b) = false ∧ (a != b) = true := ⟨beq_eq_false_iff_ne.2 h, bne_iff_ne.2 h⟩
theorem hwp_cut {P : Program} {c : Code} {Q : Exit → Act → World → Prop} {a : Act} {w : World} {A : Act} {W1 : World} (h : c.wp P (fun e a' w' => e = .normal ∧ a' = A ∧ w' = W1) a w) (k : Q .normal A W1) : c.wp P Q a w :=
  Code.wp_mono (by rintro e a' w' ⟨rfl, rfl, rfl⟩; exact k) h

set_option maxRecDepth 100000 in
set_option maxHeartbeats 8000000 in
theorem sDecode_any (l : List UInt8) (w : World) :
    Calls Try.prog 22 #[.string (S l)] w fun e w' => e = .returned (hdecVal l) ∧ Below w.heap.size w w' := by
  have HQ := Lib.hid (alloc_new w (.cells #[.int .i64 0, .int .i64 0, .int .i64 0, .int .i64 0, .int .i64 0] 40))
  have HB := Lib.hid (alloc_below w (.cells #[.int .i64 0, .int .i64 0, .int .i64 0, .int .i64 0, .int .i64 0] 40))
  by_cases h80 : l.length = 80
  · have h80' : (l.length : Int) = 80 := by omega
    obtain ⟨l0, l1, l2, l3, l4, x0, x1, x2, x3, x4, m0, m1, m2, m3, m4, hun, hf⟩ := hpieces l h80
    have HF := Lib.hid hf
    have M0 := Lib.hid m0
    have M1 := Lib.hid m1
    have M2 := Lib.hid m2
    have M3 := Lib.hid m3
    have M4 := Lib.hid m4
    have HUN := Lib.hid hun
    have hdec : hdecodeOf l = if (hfieldsOf l).Ok ∧ (hfieldsOf l).sec = l then some (hfieldsOf l) else none := by
      unfold hdecodeOf
      by_cases hc : (hfieldsOf l).Ok ∧ (hfieldsOf l).sec = l
      · rw [if_pos hc, if_pos ⟨h80, hc⟩]
      · rw [if_neg hc, if_neg (fun h => hc h.2)]
    rw [hf] at hdec
    have HDEC := Lib.hid hdec
    clear m0 m1 m2 m3 m4 hf hdec hun
    go_enter Try.func22, Try.ntmps22
    go_wp2_with (fail)
    apply hwp_cut
    case h =>
      go_region_held3 (fun w' => True) (exact trivial)
        (first | (go_at_call 57; (with_reducible refine (snumber_any l0 _ M0.out.1 M0.out.2).mono ?_); rintro e w' ⟨rfl, rfl⟩) | (go_at_call 57; (with_reducible refine (snumber_any l1 _ M1.out.1 M1.out.2).mono ?_); rintro e w' ⟨rfl, rfl⟩) | (go_at_call 57; (with_reducible refine (snumber_any l2 _ M2.out.1 M2.out.2).mono ?_); rintro e w' ⟨rfl, rfl⟩) | (go_at_call 57; (with_reducible refine (snumber_any l3 _ M3.out.1 M3.out.2).mono ?_); rintro e w' ⟨rfl, rfl⟩) | (go_at_call 57; (with_reducible refine (snumber_any l4 _ M4.out.1 M4.out.2).mono ?_); rintro e w' ⟨rfl, rfl⟩))
      all_goals exact ⟨rfl, rfl, rfl⟩
    case k =>
      clear x0 x1 x2 x3 x4 M0 M1 M2 M3 M4
      obtain ⟨n1, n2, n3, n4⟩ := two_new w (.cells #[.int .i64 0, .int .i64 0, .int .i64 0, .int .i64 0, .int .i64 0] 40) (.cells #[.int .i64 (un l0), .int .i64 (un l1), .int .i64 (un l2), .int .i64 (un l3), .int .i64 (un l4)] 40)
      generalize (w.alloc (.cells #[.int .i64 0, .int .i64 0, .int .i64 0, .int .i64 0, .int .i64 0] 40)).alloc (.cells #[.int .i64 (un l0), .int .i64 (un l1), .int .i64 (un l2), .int .i64 (un l3), .int .i64 (un l4)] 40) = W at n1 n2 n3 n4
      have k0 : W.drew.cell? ⟨w.heap.size + 1, 0, none⟩ = some (.int .i64 (un l0)) := (cell_of n2 0).trans rfl
      have k1 : W.drew.cell? ⟨w.heap.size + 1, 1, none⟩ = some (.int .i64 (un l1)) := (cell_of n2 1).trans rfl
      have k2 : W.drew.cell? ⟨w.heap.size + 1, 2, none⟩ = some (.int .i64 (un l2)) := (cell_of n2 2).trans rfl
      have k3 : W.drew.cell? ⟨w.heap.size + 1, 3, none⟩ = some (.int .i64 (un l3)) := (cell_of n2 3).trans rfl
      have k4 : W.drew.cell? ⟨w.heap.size + 1, 4, none⟩ = some (.int .i64 (un l4)) := (cell_of n2 4).trans rfl
      have N1 := Lib.hid n1
      have N2 := Lib.hid n2
      have N3 := Lib.hid n3
      have N4 := Lib.hid n4
      clear n1 n2 n3 n4 h80 h80'
      go_wp2_with (fail)
      have hlt0 : w.heap.size < W.heap.size := by have := N3.out; omega
      by_cases hok : (⟨un l0, un l1, un l2, un l3, un l4⟩ : Hd).Ok
      · have HOK := Lib.hid hok
        clear hok
        refine (sEncode_ok (⟨un l0, un l1, un l2, un l3, un l4⟩ : Hd) _ HOK.out).mono ?_
        rintro e w3 ⟨rfl, b3⟩
        have j0 := below_cell b3 k0
        have j1 := below_cell b3 k1
        have j2 := below_cell b3 k2
        have j3 := below_cell b3 k3
        have j4 := below_cell b3 k4
        have HM := Lib.hid ((b3.block _ hlt0).trans N1.out)
        have HB3 := Lib.hid (below_step b3 N4.out.drew (Nat.le_refl _))
        clear k0 k1 k2 k3 k4 b3
        by_cases hs : (⟨un l0, un l1, un l2, un l3, un l4⟩ : Hd).sec = l
        · have HS := Lib.hid hs
          clear hs
          have HV := Lib.hid (hdecVal_some (by rw [HDEC.out, if_pos ⟨HOK.out, HS.out⟩] : hdecodeOf l = some (⟨un l0, un l1, un l2, un l3, un l4⟩ : Hd)))
          obtain ⟨tt, ht⟩ : ∃ x, (⟨un l0, un l1, un l2, un l3, un l4⟩ : Hd).sec = x := ⟨_, rfl⟩
          obtain ⟨hcmp, hcmp2⟩ := hbeq_yes (ht.symm.trans HS.out)
          rw [ht]
          clear ht HS HDEC
          go_wp2_with (refine wpList_store_block rfl 40 _ _ rfl w.heap.size #[.int .i64 (un l0), .int .i64 (un l1), .int .i64 (un l2), .int .i64 (un l3), .int .i64 (un l4)] rfl rfl 40 _ HM.out (by kernel_rfl) rfl (by simp [Value.oneCell']) ?_)
          exact bodyPost_ret (results_cell2 rfl _ _ w.heap.size _ 40 (0, 0) rfl (setBlock_same (Array.getElem?_eq_some_iff.1 HM.out).1 _) _ Try.underlying40 rfl (by kernel_rfl)) rfl ⟨by rw [HV.out]; rfl, (Keeps.setBlock (S := fun x => x = w.heap.size) (.refl _ _) (fun _ => rfl) _).belowOf HB3.out HB3.out.size (fun x hx e => by omega)⟩
        · have HS := Lib.hid hs
          clear hs
          have HV := Lib.hid (hdecVal_none (by rw [HDEC.out, if_neg (fun h => HS.out h.2)] : hdecodeOf l = none))
          obtain ⟨tt, ht⟩ : ∃ x, (⟨un l0, un l1, un l2, un l3, un l4⟩ : Hd).sec = x := ⟨_, rfl⟩
          obtain ⟨hcmp, hcmp2⟩ := hbeq_no (a := tt) (b := l) (fun h => HS.out (ht.trans h))
          rw [ht]
          clear ht HS HDEC j0 j1 j2 j3 j4
          go_wp2_with (refine wpList_store_block rfl 40 _ _ rfl w.heap.size #[.int .i64 0, .int .i64 0, .int .i64 0, .int .i64 0, .int .i64 0] rfl rfl 40 _ HM.out (by kernel_rfl) rfl (by simp [Value.oneCell']) ?_)
          exact bodyPost_ret (results_cell2 rfl _ _ w.heap.size _ 40 (0, 0) rfl (setBlock_same (Array.getElem?_eq_some_iff.1 HM.out).1 _) _ Try.underlying40 rfl (by kernel_rfl)) rfl ⟨by rw [HV.out]; rfl, (Keeps.setBlock (S := fun x => x = w.heap.size) (.refl _ _) (fun _ => rfl) _).belowOf HB3.out HB3.out.size (fun x hx e => by omega)⟩
      · have HV := Lib.hid (hdecVal_none (by rw [HDEC.out, if_neg (fun h => hok h.1)] : hdecodeOf l = none))
        have hbad := Lib.hid (show ¬ HOk (un l0 : Nat) (un l1 : Nat) (un l2 : Nat) (un l3 : Nat) (un l4 : Nat) from fun h => hok (by
          have hu := HUN.out
          unfold HOk at h
          unfold Hd.Ok
          dsimp only
          omega))
        clear hok
        refine (sEncode_arg _ _ _ _ _ _ hbad.out).mono ?_
        rintro e w3 ⟨rfl, b3⟩
        have HM := Lib.hid ((b3.block _ hlt0).trans N1.out)
        have HB3 := Lib.hid (below_step b3 N4.out.drew (Nat.le_refl _))
        clear k0 k1 k2 k3 k4 b3
        go_wp2_with (refine wpList_store_block rfl 40 _ _ rfl w.heap.size #[.int .i64 0, .int .i64 0, .int .i64 0, .int .i64 0, .int .i64 0] rfl rfl 40 _ HM.out (by kernel_rfl) rfl (by simp [Value.oneCell']) ?_)
        exact bodyPost_ret (results_cell2 rfl _ _ w.heap.size _ 40 (0, 0) rfl (setBlock_same (Array.getElem?_eq_some_iff.1 HM.out).1 _) _ Try.underlying40 rfl (by kernel_rfl)) rfl ⟨by rw [HV.out]; rfl, (Keeps.setBlock (S := fun x => x = w.heap.size) (.refl _ _) (fun _ => rfl) _).belowOf HB3.out HB3.out.size (fun x hx e => by omega)⟩
  · have hd : Hid (hdecVal l = .tuple #[zhead, .int .i64 12]) := hdecVal_none (hdecodeOf_len h80)
    have h80' : ((l.length : Int) == 80) = false := by rw [beq_eq_false_iff_ne]; omega
    have h80n : ((l.length : Int) != 80) = true := by rw [bne_iff_ne]; omega
    go_enter Try.func22, Try.ntmps22
    go_wp2
    exact bodyPost_ret (results_cell2 rfl _ _ w.heap.size _ 40 (0, 0) rfl HQ.out _ Try.underlying40 rfl (by kernel_rfl)) rfl ⟨by rw [hd.out]; rfl, HB.out⟩
end Go.Proofs.Ytgnhpbolmfbngaa
