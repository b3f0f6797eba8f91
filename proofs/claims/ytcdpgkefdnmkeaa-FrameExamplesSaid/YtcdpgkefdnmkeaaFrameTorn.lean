/- sacristanlaw05.FrameTorn returns true, whatever its frames and its numbers are, in every world. -/
import Derived.Test.YtcdpgkefdnmkeaaFrameBack
import Derived.Test.YtcdpgkefdnmkeaaFrmTear
import Derived.Test.YtcdpgkefdnmkeaaWf
namespace Go.Proofs.Ytcdpgkefdnmkeaa
open Go.RowKit

theorem make_zeros' (w : World) (n : Nat) (hn : n ≤ 1000) : ∃ w3, Below w.heap.size w w3 ∧ (Instr.makeSlice 36 (.int .i64 n) (.int .i64 n)).run Try.prog w = .ok (.slice (some ⟨w.heap.size, 0, none⟩) n n) w3 ∧
    (convert 36 9 (.slice (some ⟨w.heap.size, 0, none⟩) n n)).run Try.prog w3 = .ok (.string (S (List.replicate n 0))) w3 := by
  have hcv := run_convert_bytes_arg (P := Try.prog) (w.alloc (.cells (madeCells #[.int .u8 0] n) 5)) 36 5 Try.underlying36 Try.underlying5 w.heap.size 0 n n (numsOf (List.replicate n 0)) (by rw [numsOf_length, List.length_replicate])
    (fun j hj => by rw [Nat.zero_add, World.cell?_alloc_new]; simp [madeCells, numsOf, hj, List.getD_eq_getElem?_getD, Nat.mod_one]) 9 Try.underlying9
  rw [strOfNums_numsOf] at hcv
  exact ⟨_, alloc_below _ _, run_make_row' (P := Try.prog) 36 5 (.int .u8 0) (bytes := 1) Try.underlying36 (by kernel_rfl) rfl .i64 .i64 n (by omega) (by omega) w, hcv⟩
theorem make_zeros (w : World) : ∃ w3, Below w.heap.size w w3 ∧ (Instr.makeSlice 36 (.int .i64 80) (.int .i64 80)).run Try.prog w = .ok (.slice (some ⟨w.heap.size, 0, none⟩) 80 80) w3 ∧
    (convert 36 9 (.slice (some ⟨w.heap.size, 0, none⟩) 80 80)).run Try.prog w3 = .ok (.string (S (List.replicate 80 0))) w3 := make_zeros' w 80 (by omega)
theorem fname_cases (a b c d e f : Int) : (a = d ∧ b = e ∧ c = f) ∨ (Hid (¬ (a = d ∧ b = e ∧ c = f)) ∧ (((a == d) = false) ∨ ((a == d) = true ∧ (b == e) = false) ∨ ((a == d) = true ∧ (b == e) = true ∧ (c == f) = false))) := by
  by_cases h1 : a = d
  · by_cases h2 : b = e
    · by_cases h3 : c = f
      · exact .inl ⟨h1, h2, h3⟩
      · exact .inr ⟨fun h => h3 h.2.2, .inr (.inr ⟨beq_iff_eq.2 h1, beq_iff_eq.2 h2, beq_eq_false_iff_ne.2 h3⟩)⟩
    · exact .inr ⟨fun h => h2 h.2.1, .inr (.inl ⟨beq_iff_eq.2 h1, beq_eq_false_iff_ne.2 h2⟩)⟩
  · exact .inr ⟨fun h => h1 h.1, .inl (beq_eq_false_iff_ne.2 h1)⟩
set_option maxRecDepth 100000 in
set_option maxHeartbeats 8000000 in
theorem frameTorn_any (aboot alsn apart aparts akind : Int) (ad : List UInt8) (bboot blsn bpart bparts bkind : Int) (bd : List UInt8) (a2 : Int) (a3 : Bool) (w : World) (hka : 0 ≤ akind ∧ akind < 256) (_h0 : ad.length ≤ 140737488351232) (hkb : 0 ≤ bkind ∧ bkind < 256) (_h1 : bd.length ≤ 140737488351232) (w2 : (Lit.int .u8 a2).wf = true) :
    Calls Try.prog 10 #[.agg #[.int .i64 aboot, .int .i64 alsn, .int .i64 apart, .int .i64 aparts, .int .u8 akind, .string (S ad)], .agg #[.int .i64 bboot, .int .i64 blsn, .int .i64 bpart, .int .i64 bparts, .int .u8 bkind, .string (S bd)], .int .u8 a2, .bool a3] w fun e w' => e = .returned (.bool true) ∧ Below w.heap.size w w' := by
  obtain ⟨u0, u1⟩ := of_u8 w2
  obtain ⟨n, hn⟩ : ∃ x : Nat, a2.tmod 81 = x := ⟨(a2.tmod 81).toNat, by rw [Int.tmod_eq_emod_of_nonneg u0]; omega⟩
  have hn80 : (n : Int) ≤ 80 := by rw [Int.tmod_eq_emod_of_nonneg u0] at hn; omega
  have HN80 := Lib.hid (show n ≤ 80 by omega)
  obtain ⟨n1, n2, n3, n4⟩ := two_new w (.cells #[.int .i64 aboot, .int .i64 alsn, .int .i64 apart, .int .i64 aparts, .int .u8 akind, .string (S ad)] 40) (.cells #[.int .i64 bboot, .int .i64 blsn, .int .i64 bpart, .int .i64 bparts, .int .u8 bkind, .string (S bd)] 40)
  clear _h0 _h1 w2
  go_enter Try.func10, Try.ntmps10
  go_wp2_with (fail)
  generalize (w.alloc (.cells #[.int .i64 aboot, .int .i64 alsn, .int .i64 apart, .int .i64 aparts, .int .u8 akind, .string (S ad)] 40)).alloc (.cells #[.int .i64 bboot, .int .i64 blsn, .int .i64 bpart, .int .i64 bparts, .int .u8 bkind, .string (S bd)] 40) = W at n1 n2 n3 n4 ⊢
  have k0 : W.cell? ⟨w.heap.size, 0, none⟩ = some (.int .i64 aboot) := (cell_of n1 0).trans rfl
  have k1 : W.cell? ⟨w.heap.size, 1, none⟩ = some (.int .i64 alsn) := (cell_of n1 1).trans rfl
  have k2 : W.cell? ⟨w.heap.size, 2, none⟩ = some (.int .i64 apart) := (cell_of n1 2).trans rfl
  have k3 : W.cell? ⟨w.heap.size, 3, none⟩ = some (.int .i64 aparts) := (cell_of n1 3).trans rfl
  have k4 : W.cell? ⟨w.heap.size, 4, none⟩ = some (.int .u8 akind) := (cell_of n1 4).trans rfl
  have k5 : W.cell? ⟨w.heap.size, 5, none⟩ = some (.string (S ad)) := (cell_of n1 5).trans rfl
  have j0 : W.cell? ⟨w.heap.size + 1, 0, none⟩ = some (.int .i64 bboot) := (cell_of n2 0).trans rfl
  have j1 : W.cell? ⟨w.heap.size + 1, 1, none⟩ = some (.int .i64 blsn) := (cell_of n2 1).trans rfl
  have j2 : W.cell? ⟨w.heap.size + 1, 2, none⟩ = some (.int .i64 bpart) := (cell_of n2 2).trans rfl
  have j3 : W.cell? ⟨w.heap.size + 1, 3, none⟩ = some (.int .i64 bparts) := (cell_of n2 3).trans rfl
  have j4 : W.cell? ⟨w.heap.size + 1, 4, none⟩ = some (.int .u8 bkind) := (cell_of n2 4).trans rfl
  have j5 : W.cell? ⟨w.heap.size + 1, 5, none⟩ = some (.string (S bd)) := (cell_of n2 5).trans rfl
  clear n1 n2 n3
  refine (fEncode_any aboot alsn apart aparts akind ad W hka).mono ?_
  rintro e w1 ⟨rfl, b1⟩
  replace k0 := below_cell b1 k0
  replace k1 := below_cell b1 k1
  replace k2 := below_cell b1 k2
  replace k3 := below_cell b1 k3
  replace k4 := below_cell b1 k4
  replace k5 := below_cell b1 k5
  replace j0 := below_cell b1 j0
  replace j1 := below_cell b1 j1
  replace j2 := below_cell b1 j2
  replace j3 := below_cell b1 j3
  replace j4 := below_cell b1 j4
  replace j5 := below_cell b1 j5
  have HB1 := Lib.hid (below_step b1 n4 (Nat.le_refl _))
  clear b1 n4
  obtain ⟨⟨xa, ea⟩, hra⟩ : ∃ r, fencOf aboot alsn apart aparts akind ad = r := ⟨_, rfl⟩
  rw [hra]
  go_wp2_with (fail)
  refine (fEncode_any bboot blsn bpart bparts bkind bd w1 hkb).mono ?_
  rintro e wb ⟨rfl, b2⟩
  replace k0 := below_cell b2 k0
  replace k1 := below_cell b2 k1
  replace k2 := below_cell b2 k2
  replace k3 := below_cell b2 k3
  replace k4 := below_cell b2 k4
  replace k5 := below_cell b2 k5
  replace j0 := below_cell b2 j0
  replace j1 := below_cell b2 j1
  replace j2 := below_cell b2 j2
  replace j3 := below_cell b2 j3
  replace j4 := below_cell b2 j4
  replace j5 := below_cell b2 j5
  have HX := Lib.hid (below_step b2 HB1.out (Nat.le_refl _))
  clear b2 HB1
  obtain ⟨⟨xb, eb⟩, hrb⟩ : ∃ r, fencOf bboot blsn bpart bparts bkind bd = r := ⟨_, rfl⟩
  rw [hrb]
  cases a3
  case true =>
    clear hrb
    rcases fenc_split aboot alsn apart aparts akind ad hka with ⟨A, okA, rfl, rfl, rfl, rfl, rfl, rfl, he⟩ | ⟨e, he0, he⟩
    · rw [he] at hra
      cases hra
      have OKA := Lib.hid okA
      clear okA he
      obtain ⟨w3, b3, hmk, hcv⟩ := make_zeros wb
      replace k0 := below_cell b3 k0
      replace k1 := below_cell b3 k1
      replace k2 := below_cell b3 k2
      replace k3 := below_cell b3 k3
      replace k4 := below_cell b3 k4
      replace k5 := below_cell b3 k5
      replace j0 := below_cell b3 j0
      replace j1 := below_cell b3 j1
      replace j2 := below_cell b3 j2
      replace j3 := below_cell b3 j3
      replace j4 := below_cell b3 j4
      replace j5 := below_cell b3 j5
      have HX := Lib.hid (below_step b3 HX.out (Nat.le_refl _))
      clear b3
      obtain ⟨Y, hY⟩ : ∃ Y, List.replicate 80 (0 : UInt8) = Y := ⟨_, rfl⟩
      have LY := Lib.hid (show Y.length = 80 by rw [← hY]; exact List.length_replicate)
      rw [hY] at hcv
      have HYY := Lib.hid hY
      clear hY
      have LX := Lib.hid (A.sec_length OKA.out.2.2.2.2.2.2.2)
      obtain ⟨X, hX⟩ : ∃ X, A.sec = X := ⟨_, rfl⟩
      rw [hX] at LX ⊢
      have lx := LX.out
      have ly := LY.out
      have e1 : (S X).extract 0 n = S (X.take n) := by rw [S_extract, List.drop_zero]
      have e2 : (S Y).extract n 80 = S (Y.drop n) := by rw [S_extract, List.take_of_length_le (by omega)]
      have DX := Lib.hid (show fdecodeOf X = some A by rw [← hX]; exact fdecodeOf_sec OKA.out)
      have HXX := Lib.hid hX
      clear hX
      go_wp2_with (fail)
      go_region
      have HX := Lib.hid HX.out.drew
      go_wp2_with (fail)
      clear e1 e2
      by_cases hT : X.take n ++ Y.drop n = X
      · refine (fDecode_any (X.take n ++ Y.drop n) _).mono ?_
        rw [hT, fdecVal_some DX.out]
        unfold Frm.val
        rintro e v1 ⟨rfl, b4⟩
        replace k0 := below_cell b4 k0
        replace k1 := below_cell b4 k1
        replace k2 := below_cell b4 k2
        replace k3 := below_cell b4 k3
        replace k4 := below_cell b4 k4
        replace k5 := below_cell b4 k5
        replace j0 := below_cell b4 j0
        replace j1 := below_cell b4 j1
        replace j2 := below_cell b4 j2
        replace j3 := below_cell b4 j3
        replace j4 := below_cell b4 j4
        replace j5 := below_cell b4 j5
        have hlt1 := World.block_lt_of_cell? _ _ k0
        have hlt2 := World.block_lt_of_cell? _ _ j0
        dsimp only at hlt1 hlt2
        have HV := Lib.hid (below_step (alloc_below v1 (.cells #[.int .i64 A.boot, .int .i64 A.lsn, .int .i64 A.part, .int .i64 A.parts, .int .u8 A.kind, .string (S A.data)] 40)) (below_step b4 HX.out (Nat.le_refl _)) (Nat.le_refl _))
        have q9 := alloc_new v1 (.cells #[.int .i64 A.boot, .int .i64 A.lsn, .int .i64 A.part, .int .i64 A.parts, .int .u8 A.kind, .string (S A.data)] 40)
        clear b4
        go_wp2_with (go_at_call 28; refine (known05_any _).mono ?_; rintro e5 we ⟨rfl, b5⟩)
        all_goals
          go_ret
          exact ⟨rfl, below_step b5 HV.out (Nat.le_refl _)⟩
      · obtain ⟨c1, c2⟩ := fsbeq_no hT
        have DN := Lib.hid (show fdecodeOf (X.take n ++ Y.drop n) = none by
          have h1 := hT
          rw [← HXX.out, ← HYY.out] at h1 ⊢
          exact ftorn_blank OKA.out HN80.out h1)
        refine (fDecode_any (X.take n ++ Y.drop n) _).mono ?_
        rw [fdecVal_none DN.out]
        clear hT
        unfold zfrm
        rintro e v1 ⟨rfl, b4⟩
        replace k0 := below_cell b4 k0
        replace k1 := below_cell b4 k1
        replace k2 := below_cell b4 k2
        replace k3 := below_cell b4 k3
        replace k4 := below_cell b4 k4
        replace k5 := below_cell b4 k5
        replace j0 := below_cell b4 j0
        replace j1 := below_cell b4 j1
        replace j2 := below_cell b4 j2
        replace j3 := below_cell b4 j3
        replace j4 := below_cell b4 j4
        replace j5 := below_cell b4 j5
        have hlt1 := World.block_lt_of_cell? _ _ k0
        have hlt2 := World.block_lt_of_cell? _ _ j0
        dsimp only at hlt1 hlt2
        have HV := Lib.hid (below_step (alloc_below v1 (.cells #[.int .i64 0, .int .i64 0, .int .i64 0, .int .i64 0, .int .u8 0, .string ⟨#[]⟩] 40)) (below_step b4 HX.out (Nat.le_refl _)) (Nat.le_refl _))
        have q9 := alloc_new v1 (.cells #[.int .i64 0, .int .i64 0, .int .i64 0, .int .i64 0, .int .u8 0, .string ⟨#[]⟩] 40)
        clear b4
        go_wp2_with (go_at_call 28; refine (known05_any _).mono ?_; rintro e5 we ⟨rfl, b5⟩)
        all_goals
          go_ret
          exact ⟨rfl, below_step b5 HV.out (Nat.le_refl _)⟩
    · rw [he] at hra
      cases hra
      have he0n : (ea != 0) = true := by rw [bne, he0]; rfl
      clear he
      obtain ⟨w3, b3, hmk, hcv⟩ := make_zeros wb
      have HX := Lib.hid (below_step b3 HX.out (Nat.le_refl _))
      clear b3 k0 k1 k2 k3 k4 k5 j0 j1 j2 j3 j4 j5
      go_wp2_with (go_at_call 28; refine (known05_any _).mono ?_; rintro e5 we ⟨rfl, b5⟩)
      go_ret
      exact ⟨rfl, below_step b5 HX.out (Nat.le_refl _)⟩
  case false =>
    rcases fname_cases aboot alsn apart bboot blsn bpart with ⟨rfl, rfl, rfl⟩ | ⟨HD0, hne⟩
    · go_wp2_with (go_at_call 28; refine (known05_any _).mono ?_; rintro e5 we ⟨rfl, b5⟩)
      go_ret
      exact ⟨rfl, below_step b5 HX.out (Nat.le_refl _)⟩
    rcases fenc_split aboot alsn apart aparts akind ad hka with ⟨A, okA, rfl, rfl, rfl, rfl, rfl, rfl, he⟩ | ⟨e, he0, he⟩
    · rw [he] at hra
      cases hra
      have OKA := Lib.hid okA
      clear okA he
      rcases fenc_split bboot blsn bpart bparts bkind bd hkb with ⟨B, okB, rfl, rfl, rfl, rfl, rfl, rfl, he⟩ | ⟨e, he0, he⟩
      · rw [he] at hrb
        cases hrb
        have OKB := Lib.hid okB
        have LY := Lib.hid (B.sec_length okB.2.2.2.2.2.2.2)
        clear okB he
        have HD := Lib.hid (show ¬ (A.boot = B.boot ∧ A.lsn = B.lsn ∧ A.part = B.part) from fun h => HD0.out ⟨by rw [h.1], by rw [h.2.1], by rw [h.2.2]⟩)
        clear HD0
        obtain ⟨Y, hY⟩ : ∃ Y, B.sec = Y := ⟨_, rfl⟩
        rw [hY] at LY ⊢
        have HYY := Lib.hid hY
        clear hY
        rcases hne with h | ⟨h1, h⟩ | ⟨h1, h2, h⟩
        all_goals
          have LX := Lib.hid (A.sec_length OKA.out.2.2.2.2.2.2.2)
          obtain ⟨X, hX⟩ : ∃ X, A.sec = X := ⟨_, rfl⟩
          rw [hX] at LX ⊢
          have lx := LX.out
          have ly := LY.out
          have e1 : (S X).extract 0 n = S (X.take n) := by rw [S_extract, List.drop_zero]
          have e2 : (S Y).extract n 80 = S (Y.drop n) := by rw [S_extract, List.take_of_length_le (by omega)]
          have DX := Lib.hid (show fdecodeOf X = some A by rw [← hX]; exact fdecodeOf_sec OKA.out)
          have HXX := Lib.hid hX
          clear hX
          go_wp2_with (fail)
          go_region
          have HX := Lib.hid HX.out.drew
          go_wp2_with (fail)
          clear e1 e2
          by_cases hT : X.take n ++ Y.drop n = X
          · refine (fDecode_any (X.take n ++ Y.drop n) _).mono ?_
            rw [hT, fdecVal_some DX.out]
            unfold Frm.val
            rintro e v1 ⟨rfl, b4⟩
            replace k0 := below_cell b4 k0
            replace k1 := below_cell b4 k1
            replace k2 := below_cell b4 k2
            replace k3 := below_cell b4 k3
            replace k4 := below_cell b4 k4
            replace k5 := below_cell b4 k5
            replace j0 := below_cell b4 j0
            replace j1 := below_cell b4 j1
            replace j2 := below_cell b4 j2
            replace j3 := below_cell b4 j3
            replace j4 := below_cell b4 j4
            replace j5 := below_cell b4 j5
            have hlt1 := World.block_lt_of_cell? _ _ k0
            have hlt2 := World.block_lt_of_cell? _ _ j0
            dsimp only at hlt1 hlt2
            have HV := Lib.hid (below_step (alloc_below v1 (.cells #[.int .i64 A.boot, .int .i64 A.lsn, .int .i64 A.part, .int .i64 A.parts, .int .u8 A.kind, .string (S A.data)] 40)) (below_step b4 HX.out (Nat.le_refl _)) (Nat.le_refl _))
            have q9 := alloc_new v1 (.cells #[.int .i64 A.boot, .int .i64 A.lsn, .int .i64 A.part, .int .i64 A.parts, .int .u8 A.kind, .string (S A.data)] 40)
            clear b4
            go_wp2_with (go_at_call 28; refine (known05_any _).mono ?_; rintro e5 we ⟨rfl, b5⟩)
            all_goals
              go_ret
              exact ⟨rfl, below_step b5 HV.out (Nat.le_refl _)⟩
          · obtain ⟨c1, c2⟩ := fsbeq_no hT
            by_cases hU : X.take n ++ Y.drop n = Y
            · refine (fDecode_any (X.take n ++ Y.drop n) _).mono ?_
              have DY := Lib.hid (show fdecodeOf Y = some B by rw [← HYY.out]; exact fdecodeOf_sec OKB.out)
              rw [hU] at c1 c2 ⊢
              clear hT hU
              rw [fdecVal_some DY.out]
              unfold Frm.val
              rintro e v1 ⟨rfl, b4⟩
              replace k0 := below_cell b4 k0
              replace k1 := below_cell b4 k1
              replace k2 := below_cell b4 k2
              replace k3 := below_cell b4 k3
              replace k4 := below_cell b4 k4
              replace k5 := below_cell b4 k5
              replace j0 := below_cell b4 j0
              replace j1 := below_cell b4 j1
              replace j2 := below_cell b4 j2
              replace j3 := below_cell b4 j3
              replace j4 := below_cell b4 j4
              replace j5 := below_cell b4 j5
              have hlt1 := World.block_lt_of_cell? _ _ k0
              have hlt2 := World.block_lt_of_cell? _ _ j0
              dsimp only at hlt1 hlt2
              have HV := Lib.hid (below_step (alloc_below v1 (.cells #[.int .i64 B.boot, .int .i64 B.lsn, .int .i64 B.part, .int .i64 B.parts, .int .u8 B.kind, .string (S B.data)] 40)) (below_step b4 HX.out (Nat.le_refl _)) (Nat.le_refl _))
              have q9 := alloc_new v1 (.cells #[.int .i64 B.boot, .int .i64 B.lsn, .int .i64 B.part, .int .i64 B.parts, .int .u8 B.kind, .string (S B.data)] 40)
              clear b4
              go_wp2_with (go_at_call 28; refine (known05_any _).mono ?_; rintro e5 we ⟨rfl, b5⟩)
              all_goals
                go_ret
                exact ⟨rfl, below_step b5 HV.out (Nat.le_refl _)⟩
            · obtain ⟨c3, c4⟩ := fsbeq_no hU
              have DN := Lib.hid (show fdecodeOf (X.take n ++ Y.drop n) = none by
                have h1 := hT
                have h2 := hU
                rw [← HXX.out, ← HYY.out] at h1 h2 ⊢
                exact torn_frames OKA.out OKB.out HD.out HN80.out h1 h2)
              refine (fDecode_any (X.take n ++ Y.drop n) _).mono ?_
              rw [fdecVal_none DN.out]
              clear hT hU
              unfold zfrm
              rintro e v1 ⟨rfl, b4⟩
              replace k0 := below_cell b4 k0
              replace k1 := below_cell b4 k1
              replace k2 := below_cell b4 k2
              replace k3 := below_cell b4 k3
              replace k4 := below_cell b4 k4
              replace k5 := below_cell b4 k5
              replace j0 := below_cell b4 j0
              replace j1 := below_cell b4 j1
              replace j2 := below_cell b4 j2
              replace j3 := below_cell b4 j3
              replace j4 := below_cell b4 j4
              replace j5 := below_cell b4 j5
              have hlt1 := World.block_lt_of_cell? _ _ k0
              have hlt2 := World.block_lt_of_cell? _ _ j0
              dsimp only at hlt1 hlt2
              have HV := Lib.hid (below_step (alloc_below v1 (.cells #[.int .i64 0, .int .i64 0, .int .i64 0, .int .i64 0, .int .u8 0, .string ⟨#[]⟩] 40)) (below_step b4 HX.out (Nat.le_refl _)) (Nat.le_refl _))
              have q9 := alloc_new v1 (.cells #[.int .i64 0, .int .i64 0, .int .i64 0, .int .i64 0, .int .u8 0, .string ⟨#[]⟩] 40)
              clear b4
              go_wp2_with (go_at_call 28; refine (known05_any _).mono ?_; rintro e5 we ⟨rfl, b5⟩)
              all_goals
                go_ret
                exact ⟨rfl, below_step b5 HV.out (Nat.le_refl _)⟩
      · rw [he] at hrb
        cases hrb
        have he0n : (eb != 0) = true := by rw [bne, he0]; rfl
        clear he HD0
        rcases hne with h | ⟨h1, h⟩ | ⟨h1, h2, h⟩
        all_goals
          go_wp2_with (go_at_call 28; refine (known05_any _).mono ?_; rintro e5 we ⟨rfl, b5⟩)
          go_ret
          exact ⟨rfl, below_step b5 HX.out (Nat.le_refl _)⟩
    · rw [he] at hra
      cases hra
      have he0n : (ea != 0) = true := by rw [bne, he0]; rfl
      clear he HD0
      rcases hne with h | ⟨h1, h⟩ | ⟨h1, h2, h⟩
      all_goals
        go_wp2_with (go_at_call 28; refine (known05_any _).mono ?_; rintro e5 we ⟨rfl, b5⟩)
        go_ret
        exact ⟨rfl, below_step b5 HX.out (Nat.le_refl _)⟩
end Go.Proofs.Ytcdpgkefdnmkeaa
