/- block.Decode: what each call returns. -/
import Derived.Test.YtgnhpbolmfbngaaSame
import Derived.Test.YtgnhpbolmfbngaaBlockBad
import Derived.Test.YtgnhpbolmfbngaaBlockDec
import Derived.Deep.RegionHeld3
import Derived.Deep.DeepCutAuto
namespace Go.Proofs.Ytgnhpbolmfbngaa
open Go.RowKit

def zblk : Value := .agg #[.int .i64 0, .int .i64 0, .int .i64 0, .int .i64 0, .string ⟨#[]⟩]
/-- What block.Decode returns for some bytes. -/
def decVal (s : List UInt8) : Value := match decodeOf s with
  | some b => .tuple #[b.val, .int .i64 0]
  | none => .tuple #[zblk, .int .i64 12]
theorem decVal_none {s : List UInt8} (h : decodeOf s = none) : decVal s = .tuple #[zblk, .int .i64 12] := by unfold decVal; rw [h]
theorem decVal_some {s : List UInt8} {b : Blk} (h : decodeOf s = some b) : decVal s = .tuple #[b.val, .int .i64 0] := by unfold decVal; rw [h]
theorem decodeOf_bad {s : List UInt8} (h : ¬ (s.length = 80 ∧ (s.getD 18 0).toNat ≤ 36)) : decodeOf s = none := by
  unfold decodeOf
  rw [if_neg (fun e => h e.1)]

theorem u_facts {u : UInt8} (h : u.toNat ≤ 36) : IntKind.i64.wrap (u.toNat : Int) = (u.toNat : Int) ∧ IntKind.i64.wrap (23 + (u.toNat : Int)) = 23 + (u.toNat : Int) ∧ (0 : Int) ≤ 23 + (u.toNat : Int) ∧ (23 : Int) ≤ 23 + (u.toNat : Int) ∧ 23 + (u.toNat : Int) ≤ 80 := by
  rw [IntKind.wrap_i64, IntKind.wrap_i64]
  omega
theorem wp_cut {P : Program} {c : Code} {Q : Exit → Act → World → Prop} {a : Act} {w : World} {A : Act} {W1 : World} (h : c.wp P (fun e a' w' => e = .normal ∧ a' = A ∧ w' = W1) a w) (k : Q .normal A W1) : c.wp P Q a w :=
  Code.wp_mono (by rintro e a' w' ⟨rfl, rfl, rfl⟩; exact k) h
theorem pieces (l : List UInt8) (k : Nat) (h80 : l.length = 80) (h36 : k ≤ 36) (h18d : (l.getD 18 0).toNat = k) : ∃ l0 l1 l2 l3 l4 : List UInt8, (S l).extract 0 4 = S l0 ∧ (S l).extract 4 8 = S l1 ∧ (S l).extract 8 12 = S l2 ∧ (S l).extract 12 18 = S l3 ∧ (S l).extract 23 (23 + k) = S l4 ∧
    (1 ≤ l0.length ∧ l0.length ≤ 7) ∧ (1 ≤ l1.length ∧ l1.length ≤ 7) ∧ (1 ≤ l2.length ∧ l2.length ≤ 7) ∧ (1 ≤ l3.length ∧ l3.length ≤ 7) ∧ (l0.length = 4 ∧ l1.length = 4 ∧ l2.length = 4 ∧ l3.length = 6 ∧ l4.length = k) ∧ fieldsOf l = ⟨un l0, un l1, un l2, un l3, l4⟩ := by
  refine ⟨(l.take 4).drop 0, (l.take 8).drop 4, (l.take 12).drop 8, (l.take 18).drop 12, (l.take (23 + k)).drop 23, S_extract _ _ _, S_extract _ _ _, S_extract _ _ _, S_extract _ _ _, S_extract _ _ _, ?_, ?_, ?_, ?_, ?_, ?_⟩
  · rw [List.length_drop, List.length_take]; omega
  · rw [List.length_drop, List.length_take]; omega
  · rw [List.length_drop, List.length_take]; omega
  · rw [List.length_drop, List.length_take]; omega
  · simp only [List.length_drop, List.length_take]; omega
  · unfold fieldsOf; rw [h18d, List.drop_zero]

set_option maxRecDepth 100000 in
set_option maxHeartbeats 8000000 in
theorem bDecode_any (l : List UInt8) (w : World) :
    Calls Try.prog 18 #[.string (S l)] w fun e w' => e = .returned (decVal l) ∧ Below w.heap.size w w' := by
  have HQ := Lib.hid (alloc_new w (.cells #[.int .i64 0, .int .i64 0, .int .i64 0, .int .i64 0, .string ⟨#[]⟩] 31))
  have HB := Lib.hid (alloc_below w (.cells #[.int .i64 0, .int .i64 0, .int .i64 0, .int .i64 0, .string ⟨#[]⟩] 31))
  by_cases h80 : l.length = 80
  · have h18 : 18 < (S l).size := by rw [S_size]; omega
    have h18d : (l.getD 18 0) = (S l)[18] := by
      rw [List.getD_eq_getElem?_getD, List.getElem?_eq_getElem (by omega)]
      rfl
    have h80' : (l.length : Int) = 80 := by omega
    obtain ⟨u, hu⟩ : ∃ u, (S l)[18] = u := ⟨_, rfl⟩
    rw [hu] at h18d
    have hub : u.toNat < 256 := UInt8.toNat_lt u
    by_cases h36 : u.toNat ≤ 36
    · obtain ⟨l0, l1, l2, l3, l4, x0, x1, x2, x3, x4, m0, m1, m2, m3, hn, hf⟩ := pieces l u.toNat h80 h36 (by rw [h18d])
      have HN := Lib.hid hn
      have HF := Lib.hid hf
      have M0 := Lib.hid m0
      have M1 := Lib.hid m1
      have M2 := Lib.hid m2
      have M3 := Lib.hid m3
      have hdec : decodeOf l = if (fieldsOf l).Ok ∧ (fieldsOf l).sec = l then some (fieldsOf l) else none := by
        unfold decodeOf
        by_cases hc : (fieldsOf l).Ok ∧ (fieldsOf l).sec = l
        · rw [if_pos hc, if_pos ⟨⟨h80, by rw [h18d]; exact h36⟩, hc⟩]
        · rw [if_neg hc, if_neg (fun h => hc h.2)]
      rw [hf] at hdec
      have HDEC := Lib.hid hdec
      have HL4 := Lib.hid (show l4.length ≤ 36 by omega)
      have HUN := Lib.hid (show un l0 < 4294967296 ∧ un l1 < 4294967296 ∧ un l2 < 4294967296 ∧ un l3 < 281474976710656 by
        have u0 := un_lt l0
        have u1 := un_lt l1
        have u2 := un_lt l2
        have u3 := un_lt l3
        rw [hn.1] at u0
        rw [hn.2.1] at u1
        rw [hn.2.2.1] at u2
        rw [hn.2.2.2.1] at u3
        exact ⟨u0, u1, u2, u3⟩)
      clear h18d m0 m1 m2 m3 hn hf hdec
      go_enter Try.func18, Try.ntmps18
      go_wp2_with (fail)
      obtain ⟨e1, e2, e3, e4, e5⟩ := u_facts h36
      have x5 : (S l).extract 23 (23 + (u.toNat : Int)).toNat = S l4 := by rw [show (23 + (u.toNat : Int)).toNat = 23 + u.toNat by omega]; exact x4
      have hsl : ∀ W, (Instr.sliceAt 9 (.string (S l)) (some (.int .i64 23)) (some (.int .i64 (IntKind.i64.wrap (23 + IntKind.i64.wrap (u.toNat : Int))))) none).run Try.prog W = .ok (.string (S l4)) W := by
        intro W
        go_simp
      clear hsl
      apply wp_cut
      case h =>
        go_region_held3 (fun w' => True) (exact trivial)
          (first | (go_at_call 50; (with_reducible refine (bnumber_any l0 _ M0.out.1 M0.out.2).mono ?_); rintro e w' ⟨rfl, rfl⟩) | (go_at_call 50; (with_reducible refine (bnumber_any l1 _ M1.out.1 M1.out.2).mono ?_); rintro e w' ⟨rfl, rfl⟩) | (go_at_call 50; (with_reducible refine (bnumber_any l2 _ M2.out.1 M2.out.2).mono ?_); rintro e w' ⟨rfl, rfl⟩) | (go_at_call 50; (with_reducible refine (bnumber_any l3 _ M3.out.1 M3.out.2).mono ?_); rintro e w' ⟨rfl, rfl⟩))
        all_goals exact ⟨rfl, rfl, rfl⟩
      case k =>
        clear e1 e2 e3 e4 e5 x0 x1 x2 x3 x4 x5 hu h18 M0 M1 M2 M3
        obtain ⟨n1, n2, n3, n4⟩ := two_new w (.cells #[.int .i64 0, .int .i64 0, .int .i64 0, .int .i64 0, .string ⟨#[]⟩] 31) (.cells #[.int .i64 (un l0), .int .i64 (un l1), .int .i64 (un l2), .int .i64 (un l3), .string (S l4)] 31)
        generalize (w.alloc (.cells #[.int .i64 0, .int .i64 0, .int .i64 0, .int .i64 0, .string ⟨#[]⟩] 31)).alloc (.cells #[.int .i64 (un l0), .int .i64 (un l1), .int .i64 (un l2), .int .i64 (un l3), .string (S l4)] 31) = W at n1 n2 n3 n4
        have k0 : W.drew.cell? ⟨w.heap.size + 1, 0, none⟩ = some (.int .i64 (un l0)) := (cell_of n2 0).trans rfl
        have k1 : W.drew.cell? ⟨w.heap.size + 1, 1, none⟩ = some (.int .i64 (un l1)) := (cell_of n2 1).trans rfl
        have k2 : W.drew.cell? ⟨w.heap.size + 1, 2, none⟩ = some (.int .i64 (un l2)) := (cell_of n2 2).trans rfl
        have k3 : W.drew.cell? ⟨w.heap.size + 1, 3, none⟩ = some (.int .i64 (un l3)) := (cell_of n2 3).trans rfl
        have k4 : W.drew.cell? ⟨w.heap.size + 1, 4, none⟩ = some (.string (S l4)) := (cell_of n2 4).trans rfl
        have N1 := Lib.hid n1
        have N2 := Lib.hid n2
        have N3 := Lib.hid n3
        have N4 := Lib.hid n4
        clear n1 n2 n3 n4 h80 h80' hub h36
        go_wp2_with (fail)
        have hlt0 : w.heap.size < W.heap.size := by have := N3.out; omega
        by_cases hok : (⟨un l0, un l1, un l2, un l3, l4⟩ : Blk).Ok
        · have HOK := Lib.hid hok
          clear hok
          refine (bEncode_ok (⟨un l0, un l1, un l2, un l3, l4⟩ : Blk) _ HOK.out).mono ?_
          rintro e w3 ⟨rfl, b3⟩
          have j0 := below_cell b3 k0
          have j1 := below_cell b3 k1
          have j2 := below_cell b3 k2
          have j3 := below_cell b3 k3
          have j4 := below_cell b3 k4
          have HM := Lib.hid ((b3.block _ hlt0).trans N1.out)
          have HB3 := Lib.hid (below_step b3 N4.out.drew (Nat.le_refl _))
          clear k0 k1 k2 k3 k4 b3
          by_cases hs : (⟨un l0, un l1, un l2, un l3, l4⟩ : Blk).sec = l
          · have HS := Lib.hid hs
            clear hs
            have HV := Lib.hid (decVal_some (by rw [HDEC.out, if_pos ⟨HOK.out, HS.out⟩] : decodeOf l = some (⟨un l0, un l1, un l2, un l3, l4⟩ : Blk)))
            go_wp2_with (fail)
            refine (bsame_any _ _ _ (by rw [S_size, Blk.sec_length _ HL4.out]; decide)).mono ?_
            rw [S_data, S_data, decide_eq_true HS.out]
            rintro e w4 ⟨rfl, b4⟩
            have i0 := below_cell b4 j0
            have i1 := below_cell b4 j1
            have i2 := below_cell b4 j2
            have i3 := below_cell b4 j3
            have i4 := below_cell b4 j4
            have HM4 := Lib.hid ((b4.block _ (Array.getElem?_eq_some_iff.1 HM.out).1).trans HM.out)
            have HB4 := Lib.hid (below_step b4 HB3.out (Nat.le_refl _))
            clear j0 j1 j2 j3 j4 b4
            go_wp2_with (refine wpList_store_block rfl 31 _ _ rfl w.heap.size #[.int .i64 (un l0), .int .i64 (un l1), .int .i64 (un l2), .int .i64 (un l3), .string (S l4)] rfl rfl 31 _ HM4.out (by kernel_rfl) rfl (by simp [Value.oneCell']) ?_)
            exact bodyPost_ret (results_cell2 rfl _ _ w.heap.size _ 31 (0, 0) rfl (setBlock_same (Array.getElem?_eq_some_iff.1 HM4.out).1 _) _ Try.underlying31 rfl (by kernel_rfl)) rfl ⟨by rw [HV.out]; rfl, (Keeps.setBlock (S := fun x => x = w.heap.size) (.refl _ _) (fun _ => rfl) _).belowOf HB4.out HB4.out.size (fun x hx e => by omega)⟩
          · have HS := Lib.hid hs
            clear hs
            have HV := Lib.hid (decVal_none (by rw [HDEC.out, if_neg (fun h => HS.out h.2)] : decodeOf l = none))
            go_wp2_with (fail)
            refine (bsame_any _ _ _ (by rw [S_size, Blk.sec_length _ HL4.out]; decide)).mono ?_
            rw [S_data, S_data, decide_eq_false HS.out]
            rintro e w4 ⟨rfl, b4⟩
            have HM4 := Lib.hid ((b4.block _ (Array.getElem?_eq_some_iff.1 HM.out).1).trans HM.out)
            have HB4 := Lib.hid (below_step b4 HB3.out (Nat.le_refl _))
            clear j0 j1 j2 j3 j4 b4
            go_wp2_with (refine wpList_store_block rfl 31 _ _ rfl w.heap.size #[.int .i64 0, .int .i64 0, .int .i64 0, .int .i64 0, .string ⟨#[]⟩] rfl rfl 31 _ HM4.out (by kernel_rfl) rfl (by simp [Value.oneCell']) ?_)
            exact bodyPost_ret (results_cell2 rfl _ _ w.heap.size _ 31 (0, 0) rfl (setBlock_same (Array.getElem?_eq_some_iff.1 HM4.out).1 _) _ Try.underlying31 rfl (by kernel_rfl)) rfl ⟨by rw [HV.out]; rfl, (Keeps.setBlock (S := fun x => x = w.heap.size) (.refl _ _) (fun _ => rfl) _).belowOf HB4.out HB4.out.size (fun x hx e => by omega)⟩
        · have HV := Lib.hid (decVal_none (by rw [HDEC.out, if_neg (fun h => hok h.1)] : decodeOf l = none))
          have hbad := Lib.hid (show ¬ (0 ≤ ((un l0 : Nat) : Int) ∧ ((un l0 : Nat) : Int) ≤ 4294967295 ∧ 0 ≤ ((un l2 : Nat) : Int) ∧ ((un l2 : Nat) : Int) ≤ 4294967295 ∧ 1 ≤ ((un l1 : Nat) : Int) ∧ ((un l1 : Nat) : Int) ≤ 4294967295 ∧ 0 ≤ ((un l3 : Nat) : Int) ∧ ((un l3 : Nat) : Int) ≤ 281474976710655 ∧ 1 ≤ l4.length) from fun h => hok (by
            have hu := HUN.out
            have h4 := HL4.out
            unfold Blk.Ok
            dsimp only
            omega))
          clear hok
          refine (bEncode_arg _ _ _ _ l4 _ HL4.out hbad.out).mono ?_
          rintro e w3 ⟨rfl, b3⟩
          have HM := Lib.hid ((b3.block _ hlt0).trans N1.out)
          have HB3 := Lib.hid (below_step b3 N4.out.drew (Nat.le_refl _))
          clear k0 k1 k2 k3 k4 b3
          go_wp2_with (refine wpList_store_block rfl 31 _ _ rfl w.heap.size #[.int .i64 0, .int .i64 0, .int .i64 0, .int .i64 0, .string ⟨#[]⟩] rfl rfl 31 _ HM.out (by kernel_rfl) rfl (by simp [Value.oneCell']) ?_)
          exact bodyPost_ret (results_cell2 rfl _ _ w.heap.size _ 31 (0, 0) rfl (setBlock_same (Array.getElem?_eq_some_iff.1 HM.out).1 _) _ Try.underlying31 rfl (by kernel_rfl)) rfl ⟨by rw [HV.out]; rfl, (Keeps.setBlock (S := fun x => x = w.heap.size) (.refl _ _) (fun _ => rfl) _).belowOf HB3.out HB3.out.size (fun x hx e => by omega)⟩
    · have hd : Hid (decVal l = .tuple #[zblk, .int .i64 12]) := decVal_none (decodeOf_bad (fun h => h36 (by
        have h2 := h.2
        rw [h18d] at h2
        exact h2)))
      have h36' : (36 : Int) < (u.toNat : Int) := by omega
      clear h18d
      go_enter Try.func18, Try.ntmps18
      go_wp2
      exact bodyPost_ret (results_cell2 rfl _ _ w.heap.size _ 31 (0, 0) rfl HQ.out _ Try.underlying31 rfl (by kernel_rfl)) rfl ⟨by rw [hd.out]; rfl, HB.out⟩
  · have hd : Hid (decVal l = .tuple #[zblk, .int .i64 12]) := decVal_none (decodeOf_bad (fun h => h80 h.1))
    have h80' : ((l.length : Int) == 80) = false := by rw [beq_eq_false_iff_ne]; omega
    have h80n : ((l.length : Int) != 80) = true := by rw [bne_iff_ne]; omega
    go_enter Try.func18, Try.ntmps18
    go_wp2
    exact bodyPost_ret (results_cell2 rfl _ _ w.heap.size _ 31 (0, 0) rfl HQ.out _ Try.underlying31 rfl (by kernel_rfl)) rfl ⟨by rw [hd.out]; rfl, HB.out⟩
end Go.Proofs.Ytgnhpbolmfbngaa
