/- sacristanref07.Decode: what each call returns. -/
import Derived.Test.YtgnhpbolmfbngaaSGH
import Derived.Test.YtgnhpbolmfbngaaRef07
namespace Go.Proofs.Ytgnhpbolmfbngaa
open Go.RowKit

theorem hun10 {l l2 : List UInt8} (h80 : l.length = 80) (x : (S l).extract 10 11 = S l2) : un l2 = (l.getD 10 0).toNat := by
  rw [S_extract] at x
  have e := S_inj.1 x
  have e2 : (l.take 11).drop 10 = [l.getD 10 0] := by
    apply List.ext_getElem
    · simp [h80]
    · intro i h1 h2
      have hi : i = 0 := by simpa using h2
      subst hi
      simp [List.getD_eq_getElem?_getD, List.getElem?_eq_getElem (show 10 < l.length by omega)]
  rw [← e, e2]
  simp [un]
theorem srEncode_any (seq boot area first snaps : Int) (w : World) :
    Calls Try.prog 21 #[hval seq boot area first snaps] w fun e w' => e = .returned (.tuple #[.string (S (hencOf seq boot area first snaps).1), .int .i64 (hencOf seq boot area first snaps).2]) ∧ Below w.heap.size w w' := by
  by_cases hc : HOk seq boot area first snaps
  · obtain ⟨b, ok, rfl, rfl, rfl, rfl, rfl⟩ := hok_hd hc
    rw [hencOf_ok ok]
    exact srEncode_ok b w ok
  · rw [hencOf_bad hc]
    exact srEncode_arg seq boot area first snaps w hc
set_option maxRecDepth 100000 in
set_option maxHeartbeats 8000000 in
theorem srDecode_any (l : List UInt8) (w : World) :
    Calls Try.prog 23 #[.string (S l)] w fun e w' => e = .returned (hdecVal l) ∧ Below w.heap.size w w' := by
  have HQ := Lib.hid (alloc_new w (.cells #[.int .i64 0, .int .i64 0, .int .i64 0, .int .i64 0, .int .i64 0] 40))
  have HB := Lib.hid (alloc_below w (.cells #[.int .i64 0, .int .i64 0, .int .i64 0, .int .i64 0, .int .i64 0] 40))
  by_cases h80 : l.length = 80
  · have h80' : (l.length : Int) = 80 := by omega
    obtain ⟨l0, l1, l2, l3, l4, x0, x1, x2, x3, x4, m0, m1, m2, m3, m4, hun, hf⟩ := hpieces l h80
    have h10 : 10 < (S l).size := by rw [S_size]; omega
    have h10d : (l.getD 10 0) = (S l)[10] := by
      rw [List.getD_eq_getElem?_getD, List.getElem?_eq_getElem (by omega)]
      rfl
    obtain ⟨u, hu⟩ : ∃ u, (S l)[10] = u := ⟨_, rfl⟩
    have hu2 : un l2 = u.toNat := by rw [hun10 h80 x2, h10d, hu]
    rw [hu2] at hf hun
    have hub : u.toNat < 256 := UInt8.toNat_lt u
    have e1 : IntKind.i64.wrap (u.toNat : Int) = (u.toNat : Int) := by rw [IntKind.wrap_i64]; omega
    clear h10d hu2
    have HF := Lib.hid hf
    have M0 := Lib.hid m0
    have M1 := Lib.hid m1
    have M2 := Lib.hid m2
    have M3 := Lib.hid m3
    have M4 := Lib.hid m4
    have HUN := Lib.hid hun
    have hdec : hdecodeOf l = if (hfieldsOf l).Ok ∧ (hfieldsOf l).sec = l then some (hfieldsOf l) else none := by
      unfold hdecodeOf
      by_cases hc : (hfieldsOf l).Ok ∧ (hfieldsOf l).sec = l
      · rw [if_pos hc, if_pos ⟨h80, hc⟩]
      · rw [if_neg hc, if_neg (fun h => hc h.2)]
    rw [hf] at hdec
    have HDEC := Lib.hid hdec
    clear m0 m1 m2 m3 m4 hf hdec hun
    go_enter Try.func23, Try.ntmps23
    go_wp2_with (fail)
    apply hwp_cut
    case h =>
      go_region_held3 (fun w' => True) (exact trivial)
        (first | (go_at_call 58; (with_reducible refine (rnumber_any l0 _ M0.out.1 M0.out.2).mono ?_); rintro e w' ⟨rfl, rfl⟩) | (go_at_call 58; (with_reducible refine (rnumber_any l1 _ M1.out.1 M1.out.2).mono ?_); rintro e w' ⟨rfl, rfl⟩) | (go_at_call 58; (with_reducible refine (rnumber_any l3 _ M3.out.1 M3.out.2).mono ?_); rintro e w' ⟨rfl, rfl⟩) | (go_at_call 58; (with_reducible refine (rnumber_any l4 _ M4.out.1 M4.out.2).mono ?_); rintro e w' ⟨rfl, rfl⟩))
      all_goals exact ⟨rfl, rfl, rfl⟩
    case k =>
      clear hu h10 e1 hub
      clear x0 x1 x2 x3 x4 M0 M1 M2 M3 M4
      obtain ⟨n1, n2, n3, n4⟩ := two_new w (.cells #[.int .i64 0, .int .i64 0, .int .i64 0, .int .i64 0, .int .i64 0] 40) (.cells #[.int .i64 (un l0), .int .i64 (un l1), .int .i64 (u.toNat), .int .i64 (un l3), .int .i64 (un l4)] 40)
      generalize (w.alloc (.cells #[.int .i64 0, .int .i64 0, .int .i64 0, .int .i64 0, .int .i64 0] 40)).alloc (.cells #[.int .i64 (un l0), .int .i64 (un l1), .int .i64 (u.toNat), .int .i64 (un l3), .int .i64 (un l4)] 40) = W at n1 n2 n3 n4
      have k0 : W.drew.cell? ⟨w.heap.size + 1, 0, none⟩ = some (.int .i64 (un l0)) := (cell_of n2 0).trans rfl
      have k1 : W.drew.cell? ⟨w.heap.size + 1, 1, none⟩ = some (.int .i64 (un l1)) := (cell_of n2 1).trans rfl
      have k2 : W.drew.cell? ⟨w.heap.size + 1, 2, none⟩ = some (.int .i64 (u.toNat)) := (cell_of n2 2).trans rfl
      have k3 : W.drew.cell? ⟨w.heap.size + 1, 3, none⟩ = some (.int .i64 (un l3)) := (cell_of n2 3).trans rfl
      have k4 : W.drew.cell? ⟨w.heap.size + 1, 4, none⟩ = some (.int .i64 (un l4)) := (cell_of n2 4).trans rfl
      have N1 := Lib.hid n1
      have N2 := Lib.hid n2
      have N3 := Lib.hid n3
      have N4 := Lib.hid n4
      clear n1 n2 n3 n4 h80 h80'
      go_wp2_with (fail)
      have hlt0 : w.heap.size < W.heap.size := by have := N3.out; omega
      by_cases hok : (⟨un l0, un l1, u.toNat, un l3, un l4⟩ : Hd).Ok
      · have HOK := Lib.hid hok
        clear hok
        refine (srEncode_ok (⟨un l0, un l1, u.toNat, un l3, un l4⟩ : Hd) _ HOK.out).mono ?_
        rintro e w3 ⟨rfl, b3⟩
        have j0 := below_cell b3 k0
        have j1 := below_cell b3 k1
        have j2 := below_cell b3 k2
        have j3 := below_cell b3 k3
        have j4 := below_cell b3 k4
        have HM := Lib.hid ((b3.block _ hlt0).trans N1.out)
        have HB3 := Lib.hid (below_step b3 N4.out.drew (Nat.le_refl _))
        clear k0 k1 k2 k3 k4 b3
        by_cases hs : (⟨un l0, un l1, u.toNat, un l3, un l4⟩ : Hd).sec = l
        · have HS := Lib.hid hs
          clear hs
          have HV := Lib.hid (hdecVal_some (by rw [HDEC.out, if_pos ⟨HOK.out, HS.out⟩] : hdecodeOf l = some (⟨un l0, un l1, u.toNat, un l3, un l4⟩ : Hd)))
          obtain ⟨tt, ht⟩ : ∃ x, (⟨un l0, un l1, u.toNat, un l3, un l4⟩ : Hd).sec = x := ⟨_, rfl⟩
          obtain ⟨hcmp, hcmp2⟩ := hbeq_yes (ht.symm.trans HS.out)
          rw [ht]
          clear ht HS HDEC
          go_wp2_with (refine wpList_store_block rfl 40 _ _ rfl w.heap.size #[.int .i64 (un l0), .int .i64 (un l1), .int .i64 (u.toNat), .int .i64 (un l3), .int .i64 (un l4)] rfl rfl 40 _ HM.out (by kernel_rfl) rfl (by simp [Value.oneCell']) ?_)
          exact bodyPost_ret (results_cell2 rfl _ _ w.heap.size _ 40 (0, 0) rfl (setBlock_same (Array.getElem?_eq_some_iff.1 HM.out).1 _) _ Try.underlying40 rfl (by kernel_rfl)) rfl ⟨by rw [HV.out]; rfl, (Keeps.setBlock (S := fun x => x = w.heap.size) (.refl _ _) (fun _ => rfl) _).belowOf HB3.out HB3.out.size (fun x hx e => by omega)⟩
        · have HS := Lib.hid hs
          clear hs
          have HV := Lib.hid (hdecVal_none (by rw [HDEC.out, if_neg (fun h => HS.out h.2)] : hdecodeOf l = none))
          obtain ⟨tt, ht⟩ : ∃ x, (⟨un l0, un l1, u.toNat, un l3, un l4⟩ : Hd).sec = x := ⟨_, rfl⟩
          obtain ⟨hcmp, hcmp2⟩ := hbeq_no (a := tt) (b := l) (fun h => HS.out (ht.trans h))
          rw [ht]
          clear ht HS HDEC j0 j1 j2 j3 j4
          go_wp2_with (refine wpList_store_block rfl 40 _ _ rfl w.heap.size #[.int .i64 0, .int .i64 0, .int .i64 0, .int .i64 0, .int .i64 0] rfl rfl 40 _ HM.out (by kernel_rfl) rfl (by simp [Value.oneCell']) ?_)
          exact bodyPost_ret (results_cell2 rfl _ _ w.heap.size _ 40 (0, 0) rfl (setBlock_same (Array.getElem?_eq_some_iff.1 HM.out).1 _) _ Try.underlying40 rfl (by kernel_rfl)) rfl ⟨by rw [HV.out]; rfl, (Keeps.setBlock (S := fun x => x = w.heap.size) (.refl _ _) (fun _ => rfl) _).belowOf HB3.out HB3.out.size (fun x hx e => by omega)⟩
      · have HV := Lib.hid (hdecVal_none (by rw [HDEC.out, if_neg (fun h => hok h.1)] : hdecodeOf l = none))
        have hbad := Lib.hid (show ¬ HOk (un l0 : Nat) (un l1 : Nat) (u.toNat : Nat) (un l3 : Nat) (un l4 : Nat) from fun h => hok (by
          have hu := HUN.out
          unfold HOk at h
          unfold Hd.Ok
          dsimp only
          omega))
        clear hok
        refine (srEncode_arg _ _ _ _ _ _ hbad.out).mono ?_
        rintro e w3 ⟨rfl, b3⟩
        have HM := Lib.hid ((b3.block _ hlt0).trans N1.out)
        have HB3 := Lib.hid (below_step b3 N4.out.drew (Nat.le_refl _))
        clear k0 k1 k2 k3 k4 b3
        go_wp2_with (refine wpList_store_block rfl 40 _ _ rfl w.heap.size #[.int .i64 0, .int .i64 0, .int .i64 0, .int .i64 0, .int .i64 0] rfl rfl 40 _ HM.out (by kernel_rfl) rfl (by simp [Value.oneCell']) ?_)
        exact bodyPost_ret (results_cell2 rfl _ _ w.heap.size _ 40 (0, 0) rfl (setBlock_same (Array.getElem?_eq_some_iff.1 HM.out).1 _) _ Try.underlying40 rfl (by kernel_rfl)) rfl ⟨by rw [HV.out]; rfl, (Keeps.setBlock (S := fun x => x = w.heap.size) (.refl _ _) (fun _ => rfl) _).belowOf HB3.out HB3.out.size (fun x hx e => by omega)⟩
  · have hd : Hid (hdecVal l = .tuple #[zhead, .int .i64 12]) := hdecVal_none (hdecodeOf_len h80)
    have h80' : ((l.length : Int) == 80) = false := by rw [beq_eq_false_iff_ne]; omega
    have h80n : ((l.length : Int) != 80) = true := by rw [bne_iff_ne]; omega
    go_enter Try.func23, Try.ntmps23
    go_wp2
    exact bodyPost_ret (results_cell2 rfl _ _ w.heap.size _ 40 (0, 0) rfl HQ.out _ Try.underlying40 rfl (by kernel_rfl)) rfl ⟨by rw [hd.out]; rfl, HB.out⟩
end Go.Proofs.Ytgnhpbolmfbngaa
