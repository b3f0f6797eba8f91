/- sacristanlaw07.SlotsBack returns true, whatever its headers and its string are, in every world. -/
import Derived.Test.YtgnhpbolmfbngaaSGH
import Derived.Test.YtgnhpbolmfbngaaKnown07
namespace Go.Proofs.Ytgnhpbolmfbngaa
open Go.RowKit

set_option maxRecDepth 100000 in
set_option maxHeartbeats 8000000 in
theorem slotsBack_any (aseq aboot aarea afirst asnaps bseq bboot barea bfirst bsnaps : Int) (a : ByteArray) (w : World) (_h0 : a.size ≤ 140737488351232) :
    Calls Try.prog 7 #[.agg #[.int .i64 aseq, .int .i64 aboot, .int .i64 aarea, .int .i64 afirst, .int .i64 asnaps], .agg #[.int .i64 bseq, .int .i64 bboot, .int .i64 barea, .int .i64 bfirst, .int .i64 bsnaps], .string a] w fun e w' => e = .returned (.bool true) ∧ Below w.heap.size w w' := by
  obtain ⟨l, rfl⟩ : ∃ l, a = S l := ⟨a.data.toList, (S_of a).symm⟩
  obtain ⟨n1, n2, n3, n4⟩ := two_new w (.cells #[.int .i64 aseq, .int .i64 aboot, .int .i64 aarea, .int .i64 afirst, .int .i64 asnaps] 40) (.cells #[.int .i64 bseq, .int .i64 bboot, .int .i64 barea, .int .i64 bfirst, .int .i64 bsnaps] 40)
  by_cases h0 : 200 < l.length
  · have h0' : (200 : Int) < (l.length : Int) := by omega
    go_enter Try.func7, Try.ntmps7
    go_wp2_with (go_at_call 19; refine (known07_any _).mono ?_; rintro e5 we ⟨rfl, b5⟩)
    go_ret
    exact ⟨rfl, below_step b5 n4 (Nat.le_refl _)⟩
  have h0' : ¬ (200 : Int) < (l.length : Int) := by omega
  go_enter Try.func7, Try.ntmps7
  go_wp2_with (fail)
  generalize (w.alloc (.cells #[.int .i64 aseq, .int .i64 aboot, .int .i64 aarea, .int .i64 afirst, .int .i64 asnaps] 40)).alloc (.cells #[.int .i64 bseq, .int .i64 bboot, .int .i64 barea, .int .i64 bfirst, .int .i64 bsnaps] 40) = W at n1 n2 n3 n4 ⊢
  have k0 : W.cell? ⟨w.heap.size, 0, none⟩ = some (.int .i64 aseq) := (cell_of n1 0).trans rfl
  have k1 : W.cell? ⟨w.heap.size, 1, none⟩ = some (.int .i64 aboot) := (cell_of n1 1).trans rfl
  have k2 : W.cell? ⟨w.heap.size, 2, none⟩ = some (.int .i64 aarea) := (cell_of n1 2).trans rfl
  have k3 : W.cell? ⟨w.heap.size, 3, none⟩ = some (.int .i64 afirst) := (cell_of n1 3).trans rfl
  have k4 : W.cell? ⟨w.heap.size, 4, none⟩ = some (.int .i64 asnaps) := (cell_of n1 4).trans rfl
  have j0 : W.cell? ⟨w.heap.size + 1, 0, none⟩ = some (.int .i64 bseq) := (cell_of n2 0).trans rfl
  have j1 : W.cell? ⟨w.heap.size + 1, 1, none⟩ = some (.int .i64 bboot) := (cell_of n2 1).trans rfl
  have j2 : W.cell? ⟨w.heap.size + 1, 2, none⟩ = some (.int .i64 barea) := (cell_of n2 2).trans rfl
  have j3 : W.cell? ⟨w.heap.size + 1, 3, none⟩ = some (.int .i64 bfirst) := (cell_of n2 3).trans rfl
  have j4 : W.cell? ⟨w.heap.size + 1, 4, none⟩ = some (.int .i64 bsnaps) := (cell_of n2 4).trans rfl
  clear n1 n2 n3 h0 h0' _h0
  refine (sEncode_any aseq aboot aarea afirst asnaps W).mono ?_
  rintro e w1 ⟨rfl, b1⟩
  replace k0 := below_cell b1 k0
  replace k1 := below_cell b1 k1
  replace k2 := below_cell b1 k2
  replace k3 := below_cell b1 k3
  replace k4 := below_cell b1 k4
  replace j0 := below_cell b1 j0
  replace j1 := below_cell b1 j1
  replace j2 := below_cell b1 j2
  replace j3 := below_cell b1 j3
  replace j4 := below_cell b1 j4
  have HB1 := Lib.hid (below_step b1 n4 (Nat.le_refl _))
  clear b1 n4
  obtain ⟨⟨xa, ea⟩, hra⟩ : ∃ r, hencOf aseq aboot aarea afirst asnaps = r := ⟨_, rfl⟩
  rw [hra]
  go_wp2_with (fail)
  refine (sEncode_any bseq bboot barea bfirst bsnaps w1).mono ?_
  rintro e w2 ⟨rfl, b2⟩
  replace k0 := below_cell b2 k0
  replace k1 := below_cell b2 k1
  replace k2 := below_cell b2 k2
  replace k3 := below_cell b2 k3
  replace k4 := below_cell b2 k4
  replace j0 := below_cell b2 j0
  replace j1 := below_cell b2 j1
  replace j2 := below_cell b2 j2
  replace j3 := below_cell b2 j3
  replace j4 := below_cell b2 j4
  have HB2 := Lib.hid (below_step b2 HB1.out (Nat.le_refl _))
  clear b2 HB1
  obtain ⟨⟨xb, eb⟩, hrb⟩ : ∃ r, hencOf bseq bboot barea bfirst bsnaps = r := ⟨_, rfl⟩
  rw [hrb]
  rcases henc_split aseq aboot aarea afirst asnaps with ⟨A, okA, rfl, rfl, rfl, rfl, rfl, he⟩ | ⟨e, he0, he⟩
  · rw [he] at hra
    cases hra
    have OKA := Lib.hid okA
    clear okA he
    rcases henc_split bseq bboot barea bfirst bsnaps with ⟨B, okB, rfl, rfl, rfl, rfl, rfl, he⟩ | ⟨e, he0, he⟩
    · rw [he] at hrb
      cases hrb
      have OKB := Lib.hid okB
      clear okB he
      by_cases hAB : A = B
      · subst hAB
        go_wp2_with (fail)
        refine (sDecode_any A.sec _).mono ?_
        rw [hdecVal_some (hdecodeOf_sec OKA.out)]
        unfold Hd.val hval
        rintro e w3 ⟨rfl, b3⟩
        replace k0 := below_cell b3 k0
        replace k1 := below_cell b3 k1
        replace k2 := below_cell b3 k2
        replace k3 := below_cell b3 k3
        replace k4 := below_cell b3 k4
        replace j0 := below_cell b3 j0
        replace j1 := below_cell b3 j1
        replace j2 := below_cell b3 j2
        replace j3 := below_cell b3 j3
        replace j4 := below_cell b3 j4
        have HX := Lib.hid (below_step (alloc_below w3 (.cells #[.int .i64 A.seq, .int .i64 A.boot, .int .i64 A.area, .int .i64 A.first, .int .i64 A.snaps] 40)) (below_step b3 HB2.out (Nat.le_refl _)) (Nat.le_refl _))
        have q3 := alloc_new w3 (.cells #[.int .i64 A.seq, .int .i64 A.boot, .int .i64 A.area, .int .i64 A.first, .int .i64 A.snaps] 40)
        have hlt1 := World.block_lt_of_cell? _ _ k0
        have hlt2 := World.block_lt_of_cell? _ _ j0
        dsimp only at hlt1 hlt2
        clear b3
        go_wp2_with (fail)
        clear k0 k1 k2 k3 k4 j0 j1 j2 j3 j4 q3 hlt1 hlt2
        revert HX
        generalize w3.alloc (.cells #[.int .i64 A.seq, .int .i64 A.boot, .int .i64 A.area, .int .i64 A.first, .int .i64 A.snaps] 40) = X
        intro HX
        cases hdec : hdecodeOf l with
        | none =>
          refine (sDecode_any l _).mono ?_
          rw [hdecVal_none hdec]
          unfold zhead hval
          rintro e v1 ⟨rfl, b4⟩
          have HV := Lib.hid (below_step (alloc_below v1 (.cells #[.int .i64 0, .int .i64 0, .int .i64 0, .int .i64 0, .int .i64 0] 40)) (below_step b4 HX.out (Nat.le_refl _)) (Nat.le_refl _))
          clear b4 hdec
          go_wp2_with (go_at_call 19; refine (known07_any _).mono ?_; rintro e5 we ⟨rfl, b5⟩)
          go_ret
          exact ⟨rfl, below_step b5 HV.out (Nat.le_refl _)⟩
        | some c =>
          have hc := Lib.hid (hdecodeOf_some hdec)
          refine (sDecode_any l _).mono ?_
          rw [hdecVal_some hdec]
          unfold Hd.val hval
          rintro e v1 ⟨rfl, b4⟩
          have HV := Lib.hid (below_step (alloc_below v1 (.cells #[.int .i64 c.seq, .int .i64 c.boot, .int .i64 c.area, .int .i64 c.first, .int .i64 c.snaps] 40)) (below_step b4 HX.out (Nat.le_refl _)) (Nat.le_refl _))
          clear b4 hdec
          go_wp2_with (fail)
          refine (sEncode_ok c _ hc.out.1).mono ?_
          rw [hc.out.2]
          rintro e v2 ⟨rfl, b6⟩
          have HV2 := Lib.hid (below_step b6 HV.out (Nat.le_refl _))
          clear b6
          go_wp2_with (go_at_call 19; refine (known07_any _).mono ?_; rintro e5 we ⟨rfl, b5⟩)
          go_ret
          exact ⟨rfl, below_step b5 HV2.out (Nat.le_refl _)⟩
      · obtain ⟨hsec, hsec2⟩ := hbeq_no (fun h : A.sec = B.sec => hAB (hsec_inj OKA.out OKB.out h))
        have hne := Hd.ne_cases hAB
        clear hAB
        rcases hne with h | ⟨e1, h⟩ | ⟨e1, e2, h⟩ | ⟨e1, e2, e3, h⟩ | ⟨e1, e2, e3, e4, h⟩
        all_goals
          go_wp2_with (fail)
          refine (sDecode_any A.sec _).mono ?_
          rw [hdecVal_some (hdecodeOf_sec OKA.out)]
          unfold Hd.val hval
          rintro e w3 ⟨rfl, b3⟩
          replace k0 := below_cell b3 k0
          replace k1 := below_cell b3 k1
          replace k2 := below_cell b3 k2
          replace k3 := below_cell b3 k3
          replace k4 := below_cell b3 k4
          replace j0 := below_cell b3 j0
          replace j1 := below_cell b3 j1
          replace j2 := below_cell b3 j2
          replace j3 := below_cell b3 j3
          replace j4 := below_cell b3 j4
          have HX := Lib.hid (below_step (alloc_below w3 (.cells #[.int .i64 A.seq, .int .i64 A.boot, .int .i64 A.area, .int .i64 A.first, .int .i64 A.snaps] 40)) (below_step b3 HB2.out (Nat.le_refl _)) (Nat.le_refl _))
          have q3 := alloc_new w3 (.cells #[.int .i64 A.seq, .int .i64 A.boot, .int .i64 A.area, .int .i64 A.first, .int .i64 A.snaps] 40)
          have hlt1 := World.block_lt_of_cell? _ _ k0
          have hlt2 := World.block_lt_of_cell? _ _ j0
          dsimp only at hlt1 hlt2
          clear b3
          go_wp2_with (fail)
          clear k0 k1 k2 k3 k4 j0 j1 j2 j3 j4 q3 hlt1 hlt2
          revert HX
          generalize w3.alloc (.cells #[.int .i64 A.seq, .int .i64 A.boot, .int .i64 A.area, .int .i64 A.first, .int .i64 A.snaps] 40) = X
          intro HX
          cases hdec : hdecodeOf l with
          | none =>
            refine (sDecode_any l _).mono ?_
            rw [hdecVal_none hdec]
            unfold zhead hval
            rintro e v1 ⟨rfl, b4⟩
            have HV := Lib.hid (below_step (alloc_below v1 (.cells #[.int .i64 0, .int .i64 0, .int .i64 0, .int .i64 0, .int .i64 0] 40)) (below_step b4 HX.out (Nat.le_refl _)) (Nat.le_refl _))
            clear b4 hdec
            go_wp2_with (go_at_call 19; refine (known07_any _).mono ?_; rintro e5 we ⟨rfl, b5⟩)
            go_ret
            exact ⟨rfl, below_step b5 HV.out (Nat.le_refl _)⟩
          | some c =>
            have hc := Lib.hid (hdecodeOf_some hdec)
            refine (sDecode_any l _).mono ?_
            rw [hdecVal_some hdec]
            unfold Hd.val hval
            rintro e v1 ⟨rfl, b4⟩
            have HV := Lib.hid (below_step (alloc_below v1 (.cells #[.int .i64 c.seq, .int .i64 c.boot, .int .i64 c.area, .int .i64 c.first, .int .i64 c.snaps] 40)) (below_step b4 HX.out (Nat.le_refl _)) (Nat.le_refl _))
            clear b4 hdec
            go_wp2_with (fail)
            refine (sEncode_ok c _ hc.out.1).mono ?_
            rw [hc.out.2]
            rintro e v2 ⟨rfl, b6⟩
            have HV2 := Lib.hid (below_step b6 HV.out (Nat.le_refl _))
            clear b6
            go_wp2_with (go_at_call 19; refine (known07_any _).mono ?_; rintro e5 we ⟨rfl, b5⟩)
            go_ret
            exact ⟨rfl, below_step b5 HV2.out (Nat.le_refl _)⟩
    · rw [he] at hrb
      cases hrb
      clear he
      go_wp2_with (fail)
      refine (sDecode_any A.sec _).mono ?_
      rw [hdecVal_some (hdecodeOf_sec OKA.out)]
      unfold Hd.val hval
      rintro e w3 ⟨rfl, b3⟩
      replace k0 := below_cell b3 k0
      replace k1 := below_cell b3 k1
      replace k2 := below_cell b3 k2
      replace k3 := below_cell b3 k3
      replace k4 := below_cell b3 k4
      replace j0 := below_cell b3 j0
      replace j1 := below_cell b3 j1
      replace j2 := below_cell b3 j2
      replace j3 := below_cell b3 j3
      replace j4 := below_cell b3 j4
      have HX := Lib.hid (below_step (alloc_below w3 (.cells #[.int .i64 A.seq, .int .i64 A.boot, .int .i64 A.area, .int .i64 A.first, .int .i64 A.snaps] 40)) (below_step b3 HB2.out (Nat.le_refl _)) (Nat.le_refl _))
      have q3 := alloc_new w3 (.cells #[.int .i64 A.seq, .int .i64 A.boot, .int .i64 A.area, .int .i64 A.first, .int .i64 A.snaps] 40)
      have hlt1 := World.block_lt_of_cell? _ _ k0
      have hlt2 := World.block_lt_of_cell? _ _ j0
      dsimp only at hlt1 hlt2
      clear b3
      go_wp2_with (fail)
      clear k0 k1 k2 k3 k4 j0 j1 j2 j3 j4 q3 hlt1 hlt2
      revert HX
      generalize w3.alloc (.cells #[.int .i64 A.seq, .int .i64 A.boot, .int .i64 A.area, .int .i64 A.first, .int .i64 A.snaps] 40) = X
      intro HX
      cases hdec : hdecodeOf l with
      | none =>
        refine (sDecode_any l _).mono ?_
        rw [hdecVal_none hdec]
        unfold zhead hval
        rintro e v1 ⟨rfl, b4⟩
        have HV := Lib.hid (below_step (alloc_below v1 (.cells #[.int .i64 0, .int .i64 0, .int .i64 0, .int .i64 0, .int .i64 0] 40)) (below_step b4 HX.out (Nat.le_refl _)) (Nat.le_refl _))
        clear b4 hdec
        go_wp2_with (go_at_call 19; refine (known07_any _).mono ?_; rintro e5 we ⟨rfl, b5⟩)
        go_ret
        exact ⟨rfl, below_step b5 HV.out (Nat.le_refl _)⟩
      | some c =>
        have hc := Lib.hid (hdecodeOf_some hdec)
        refine (sDecode_any l _).mono ?_
        rw [hdecVal_some hdec]
        unfold Hd.val hval
        rintro e v1 ⟨rfl, b4⟩
        have HV := Lib.hid (below_step (alloc_below v1 (.cells #[.int .i64 c.seq, .int .i64 c.boot, .int .i64 c.area, .int .i64 c.first, .int .i64 c.snaps] 40)) (below_step b4 HX.out (Nat.le_refl _)) (Nat.le_refl _))
        clear b4 hdec
        go_wp2_with (fail)
        refine (sEncode_ok c _ hc.out.1).mono ?_
        rw [hc.out.2]
        rintro e v2 ⟨rfl, b6⟩
        have HV2 := Lib.hid (below_step b6 HV.out (Nat.le_refl _))
        clear b6
        go_wp2_with (go_at_call 19; refine (known07_any _).mono ?_; rintro e5 we ⟨rfl, b5⟩)
        go_ret
        exact ⟨rfl, below_step b5 HV2.out (Nat.le_refl _)⟩
  · rw [he] at hra
    cases hra
    clear he
    rcases henc_split bseq bboot barea bfirst bsnaps with ⟨B, okB, rfl, rfl, rfl, rfl, rfl, he⟩ | ⟨e, he0, he⟩
    · rw [he] at hrb
      cases hrb
      clear okB he
      go_wp2_with (fail)
      have HX := HB2
      clear k0 k1 k2 k3 k4 j0 j1 j2 j3 j4
      cases hdec : hdecodeOf l with
      | none =>
        refine (sDecode_any l _).mono ?_
        rw [hdecVal_none hdec]
        unfold zhead hval
        rintro e v1 ⟨rfl, b4⟩
        have HV := Lib.hid (below_step (alloc_below v1 (.cells #[.int .i64 0, .int .i64 0, .int .i64 0, .int .i64 0, .int .i64 0] 40)) (below_step b4 HX.out (Nat.le_refl _)) (Nat.le_refl _))
        clear b4 hdec
        go_wp2_with (go_at_call 19; refine (known07_any _).mono ?_; rintro e5 we ⟨rfl, b5⟩)
        go_ret
        exact ⟨rfl, below_step b5 HV.out (Nat.le_refl _)⟩
      | some c =>
        have hc := Lib.hid (hdecodeOf_some hdec)
        refine (sDecode_any l _).mono ?_
        rw [hdecVal_some hdec]
        unfold Hd.val hval
        rintro e v1 ⟨rfl, b4⟩
        have HV := Lib.hid (below_step (alloc_below v1 (.cells #[.int .i64 c.seq, .int .i64 c.boot, .int .i64 c.area, .int .i64 c.first, .int .i64 c.snaps] 40)) (below_step b4 HX.out (Nat.le_refl _)) (Nat.le_refl _))
        clear b4 hdec
        go_wp2_with (fail)
        refine (sEncode_ok c _ hc.out.1).mono ?_
        rw [hc.out.2]
        rintro e v2 ⟨rfl, b6⟩
        have HV2 := Lib.hid (below_step b6 HV.out (Nat.le_refl _))
        clear b6
        go_wp2_with (go_at_call 19; refine (known07_any _).mono ?_; rintro e5 we ⟨rfl, b5⟩)
        go_ret
        exact ⟨rfl, below_step b5 HV2.out (Nat.le_refl _)⟩
    · rw [he] at hrb
      cases hrb
      clear he
      go_wp2_with (fail)
      have HX := HB2
      clear k0 k1 k2 k3 k4 j0 j1 j2 j3 j4
      cases hdec : hdecodeOf l with
      | none =>
        refine (sDecode_any l _).mono ?_
        rw [hdecVal_none hdec]
        unfold zhead hval
        rintro e v1 ⟨rfl, b4⟩
        have HV := Lib.hid (below_step (alloc_below v1 (.cells #[.int .i64 0, .int .i64 0, .int .i64 0, .int .i64 0, .int .i64 0] 40)) (below_step b4 HX.out (Nat.le_refl _)) (Nat.le_refl _))
        clear b4 hdec
        go_wp2_with (go_at_call 19; refine (known07_any _).mono ?_; rintro e5 we ⟨rfl, b5⟩)
        go_ret
        exact ⟨rfl, below_step b5 HV.out (Nat.le_refl _)⟩
      | some c =>
        have hc := Lib.hid (hdecodeOf_some hdec)
        refine (sDecode_any l _).mono ?_
        rw [hdecVal_some hdec]
        unfold Hd.val hval
        rintro e v1 ⟨rfl, b4⟩
        have HV := Lib.hid (below_step (alloc_below v1 (.cells #[.int .i64 c.seq, .int .i64 c.boot, .int .i64 c.area, .int .i64 c.first, .int .i64 c.snaps] 40)) (below_step b4 HX.out (Nat.le_refl _)) (Nat.le_refl _))
        clear b4 hdec
        go_wp2_with (fail)
        refine (sEncode_ok c _ hc.out.1).mono ?_
        rw [hc.out.2]
        rintro e v2 ⟨rfl, b6⟩
        have HV2 := Lib.hid (below_step b6 HV.out (Nat.le_refl _))
        clear b6
        go_wp2_with (go_at_call 19; refine (known07_any _).mono ?_; rintro e5 we ⟨rfl, b5⟩)
        go_ret
        exact ⟨rfl, below_step b5 HV2.out (Nat.le_refl _)⟩
end Go.Proofs.Ytgnhpbolmfbngaa
