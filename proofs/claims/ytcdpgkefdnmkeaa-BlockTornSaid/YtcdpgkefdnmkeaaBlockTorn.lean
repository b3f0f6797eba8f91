/- sacristanlaw24.BlockTorn returns true, whatever its blocks and its numbers are, in every world. -/
import Derived.Test.YtcdpgkefdnmkeaaBlockBack
import Derived.Test.YtcdpgkefdnmkeaaBlockTear
import Derived.Test.YtcdpgkefdnmkeaaWf
namespace Go.Proofs.Ytcdpgkefdnmkeaa
open Go.RowKit

set_option maxHeartbeats 400000 in
theorem many_any (c : UInt8) (n : Nat) (w : World) (hn : n ≤ 1000) :
    Calls Try.prog 27 #[.int .u8 c.toNat, .int .i64 n] w fun e w' => e = .returned (.string (S (List.replicate n c))) ∧ Below w.heap.size w w' := by
  have hmk := run_make_row' (P := Try.prog) 36 5 (.int .u8 0) Try.underlying36 (bytes := 1) (by kernel_rfl) rfl .i64 .i64 n (by omega) (by omega)
  go_enter Try.func27, Try.ntmps27
  go_wp2
  go_loopw [6] (fun v6 wr => ∃ i : Nat, i ≤ n ∧ v6 = .int .i64 i ∧ ∃ A : Array Value, Hid (A.size = n) ∧ Hid (∀ j, j < i → A[j]? = some (.int .u8 c.toNat)) ∧ wr = w.alloc (.cells A 5)) (fun v6 _ => n - (intOf v6).toNat)
  case atStart => exact ⟨0, Nat.zero_le _, rfl, _, by unfold Hid; simp [madeCells], fun j hj => absurd hj (by omega), rfl⟩
  case round =>
    obtain ⟨i, hi, rfl, A, hs, ha, rfl⟩ := hrel
    by_cases hlt : i < n
    · obtain ⟨v0, hv⟩ : ∃ v, A[i]? = some v := ⟨A[i]'(by rw [hs.out]; exact hlt), Array.getElem?_eq_getElem (by rw [hs.out]; exact hlt)⟩
      go_wp2
      go_roundw
      case rel => exact ⟨i + 1, by omega, by go_num, _, by unfold Hid; rw [Array.size_setIfInBounds]; exact hs.out, fun j hj => by
        by_cases h : j = i
        · subst h; rw [Array.getElem?_setIfInBounds_self_of_lt (by rw [hs.out]; exact hlt)]
        · rw [Array.getElem?_setIfInBounds_ne (by omega)]; exact ha.out j (by omega), rfl⟩
      case measure => simp [intOf]; omega
    · obtain rfl : i = n := by omega
      have hcv := run_convert_bytes_arg (P := Try.prog) (w.alloc (.cells A 5)) 36 5 Try.underlying36 Try.underlying5 w.heap.size 0 i i (numsOf (List.replicate i c)) (by rw [numsOf_length, List.length_replicate])
        (fun j hj => by
          rw [Nat.zero_add, World.cell?_alloc_new]
          rw [ha.out j hj]; simp [numsOf, hj, List.getD_eq_getElem?_getD]) 9 Try.underlying9
      rw [strOfNums_numsOf] at hcv
      go_wp2
      go_ret
      exact ⟨rfl, (Below.refl _ _).alloc (Nat.le_refl _) _⟩
theorem name_cases (a b c d e f : Int) : (a = d ∧ b = e ∧ c = f) ∨ (Hid (¬ (a = d ∧ b = e ∧ c = f)) ∧ (((a == d) = false) ∨ ((a == d) = true ∧ (b == e) = false) ∨ ((a == d) = true ∧ (b == e) = true ∧ (c == f) = false))) := by
  by_cases h1 : a = d
  · by_cases h2 : b = e
    · by_cases h3 : c = f
      · exact .inl ⟨h1, h2, h3⟩
      · exact .inr ⟨fun h => h3 h.2.2, .inr (.inr ⟨beq_iff_eq.2 h1, beq_iff_eq.2 h2, beq_eq_false_iff_ne.2 h3⟩)⟩
    · exact .inr ⟨fun h => h2 h.2.1, .inr (.inl ⟨beq_iff_eq.2 h1, beq_eq_false_iff_ne.2 h2⟩)⟩
  · exact .inr ⟨fun h => h1 h.1, .inl (beq_eq_false_iff_ne.2 h1)⟩
set_option maxRecDepth 100000 in
set_option maxHeartbeats 8000000 in
theorem blockTorn_any (alife aboot an aoff : Int) (ad : List UInt8) (blife bboot bn boff : Int) (bd : List UInt8) (a2 : Int) (a3 : Bool) (w : World) (_h0 : ad.length ≤ 140737488351232) (_h1 : bd.length ≤ 140737488351232) (w2 : (Lit.int .u8 a2).wf = true) :
    Calls Try.prog 5 #[.agg #[.int .i64 alife, .int .i64 aboot, .int .i64 an, .int .i64 aoff, .string (S ad)], .agg #[.int .i64 blife, .int .i64 bboot, .int .i64 bn, .int .i64 boff, .string (S bd)], .int .u8 a2, .bool a3] w fun e w' => e = .returned (.bool true) ∧ Below w.heap.size w w' := by
  obtain ⟨u0, u1⟩ := of_u8 w2
  obtain ⟨n, hn⟩ : ∃ x : Nat, a2.tmod 81 = x := ⟨(a2.tmod 81).toNat, by rw [Int.tmod_eq_emod_of_nonneg u0]; omega⟩
  have hn80 : (n : Int) ≤ 80 := by rw [Int.tmod_eq_emod_of_nonneg u0] at hn; omega
  have HN80 := Lib.hid (show n ≤ 80 by omega)
  obtain ⟨n1, n2, n3, n4⟩ := two_new w (.cells #[.int .i64 alife, .int .i64 aboot, .int .i64 an, .int .i64 aoff, .string (S ad)] 23) (.cells #[.int .i64 blife, .int .i64 bboot, .int .i64 bn, .int .i64 boff, .string (S bd)] 23)
  clear _h0 _h1 w2
  go_enter Try.func5, Try.ntmps5
  go_wp2_with (fail)
  generalize (w.alloc (.cells #[.int .i64 alife, .int .i64 aboot, .int .i64 an, .int .i64 aoff, .string (S ad)] 23)).alloc (.cells #[.int .i64 blife, .int .i64 bboot, .int .i64 bn, .int .i64 boff, .string (S bd)] 23) = W at n1 n2 n3 n4 ⊢
  have k0 : W.cell? ⟨w.heap.size, 0, none⟩ = some (.int .i64 alife) := (cell_of n1 0).trans rfl
  have k1 : W.cell? ⟨w.heap.size, 1, none⟩ = some (.int .i64 aboot) := (cell_of n1 1).trans rfl
  have k2 : W.cell? ⟨w.heap.size, 2, none⟩ = some (.int .i64 an) := (cell_of n1 2).trans rfl
  have k3 : W.cell? ⟨w.heap.size, 3, none⟩ = some (.int .i64 aoff) := (cell_of n1 3).trans rfl
  have k4 : W.cell? ⟨w.heap.size, 4, none⟩ = some (.string (S ad)) := (cell_of n1 4).trans rfl
  have j0 : W.cell? ⟨w.heap.size + 1, 0, none⟩ = some (.int .i64 blife) := (cell_of n2 0).trans rfl
  have j1 : W.cell? ⟨w.heap.size + 1, 1, none⟩ = some (.int .i64 bboot) := (cell_of n2 1).trans rfl
  have j2 : W.cell? ⟨w.heap.size + 1, 2, none⟩ = some (.int .i64 bn) := (cell_of n2 2).trans rfl
  have j3 : W.cell? ⟨w.heap.size + 1, 3, none⟩ = some (.int .i64 boff) := (cell_of n2 3).trans rfl
  have j4 : W.cell? ⟨w.heap.size + 1, 4, none⟩ = some (.string (S bd)) := (cell_of n2 4).trans rfl
  clear n1 n2 n3
  refine (bEncode_any alife aboot an aoff ad W).mono ?_
  rintro e w1 ⟨rfl, b1⟩
  replace k0 := below_cell b1 k0
  replace k1 := below_cell b1 k1
  replace k2 := below_cell b1 k2
  replace k3 := below_cell b1 k3
  replace k4 := below_cell b1 k4
  replace j0 := below_cell b1 j0
  replace j1 := below_cell b1 j1
  replace j2 := below_cell b1 j2
  replace j3 := below_cell b1 j3
  replace j4 := below_cell b1 j4
  have HB1 := Lib.hid (below_step b1 n4 (Nat.le_refl _))
  clear b1 n4
  obtain ⟨⟨xa, ea⟩, hra⟩ : ∃ r, encOf alife aboot an aoff ad = r := ⟨_, rfl⟩
  rw [hra]
  go_wp2_with (fail)
  refine (bEncode_any blife bboot bn boff bd w1).mono ?_
  rintro e wb ⟨rfl, b2⟩
  replace k0 := below_cell b2 k0
  replace k1 := below_cell b2 k1
  replace k2 := below_cell b2 k2
  replace k3 := below_cell b2 k3
  replace k4 := below_cell b2 k4
  replace j0 := below_cell b2 j0
  replace j1 := below_cell b2 j1
  replace j2 := below_cell b2 j2
  replace j3 := below_cell b2 j3
  replace j4 := below_cell b2 j4
  have HX := Lib.hid (below_step b2 HB1.out (Nat.le_refl _))
  clear b2 HB1
  obtain ⟨⟨xb, eb⟩, hrb⟩ : ∃ r, encOf blife bboot bn boff bd = r := ⟨_, rfl⟩
  rw [hrb]
  cases a3
  case true =>
    clear hrb
    rcases enc_split alife aboot an aoff ad with ⟨A, okA, rfl, rfl, rfl, rfl, rfl, he⟩ | ⟨e, he0, he⟩
    · rw [he] at hra
      cases hra
      have OKA := Lib.hid okA
      clear okA he
      go_wp2_with (fail)
      refine (many_any 0 80 _ (by decide)).mono ?_
      rintro e w3 ⟨rfl, b3⟩
      replace k0 := below_cell b3 k0
      replace k1 := below_cell b3 k1
      replace k2 := below_cell b3 k2
      replace k3 := below_cell b3 k3
      replace k4 := below_cell b3 k4
      replace j0 := below_cell b3 j0
      replace j1 := below_cell b3 j1
      replace j2 := below_cell b3 j2
      replace j3 := below_cell b3 j3
      replace j4 := below_cell b3 j4
      have HX := Lib.hid (below_step b3 HX.out (Nat.le_refl _))
      clear b3
      obtain ⟨Y, hY⟩ : ∃ Y, List.replicate 80 (0 : UInt8) = Y := ⟨_, rfl⟩
      have LY := Lib.hid (show Y.length = 80 by rw [← hY]; exact List.length_replicate)
      rw [hY]
      have HYY := Lib.hid hY
      clear hY
      have LX := Lib.hid (A.sec_length OKA.out.2.2.2.2.2.2)
      obtain ⟨X, hX⟩ : ∃ X, A.sec = X := ⟨_, rfl⟩
      rw [hX] at LX ⊢
      have lx := LX.out
      have ly := LY.out
      have e1 : (S X).extract 0 n = S (X.take n) := by rw [S_extract, List.drop_zero]
      have e2 : (S Y).extract n 80 = S (Y.drop n) := by rw [S_extract, List.take_of_length_le (by omega)]
      have DX := Lib.hid (show decodeOf X = some A by rw [← hX]; exact decodeOf_sec OKA.out)
      have HXX := Lib.hid hX
      clear hX
      go_wp2_with (fail)
      go_region
      have HX := Lib.hid HX.out.drew
      go_wp2_with (fail)
      clear e1 e2
      by_cases hT : X.take n ++ Y.drop n = X
      · refine (bDecode_any (X.take n ++ Y.drop n) _).mono ?_
        rw [hT, decVal_some DX.out]
        unfold Blk.val
        rintro e v1 ⟨rfl, b4⟩
        replace k0 := below_cell b4 k0
        replace k1 := below_cell b4 k1
        replace k2 := below_cell b4 k2
        replace k3 := below_cell b4 k3
        replace k4 := below_cell b4 k4
        replace j0 := below_cell b4 j0
        replace j1 := below_cell b4 j1
        replace j2 := below_cell b4 j2
        replace j3 := below_cell b4 j3
        replace j4 := below_cell b4 j4
        have hlt1 := World.block_lt_of_cell? _ _ k0
        have hlt2 := World.block_lt_of_cell? _ _ j0
        dsimp only at hlt1 hlt2
        have HV := Lib.hid (below_step (alloc_below v1 (.cells #[.int .i64 A.life, .int .i64 A.boot, .int .i64 A.n, .int .i64 A.off, .string (S A.data)] 23)) (below_step b4 HX.out (Nat.le_refl _)) (Nat.le_refl _))
        have q9 := alloc_new v1 (.cells #[.int .i64 A.life, .int .i64 A.boot, .int .i64 A.n, .int .i64 A.off, .string (S A.data)] 23)
        clear b4
        go_wp2_with (go_at_call 22; refine (known24_any _).mono ?_; rintro e5 we ⟨rfl, b5⟩)
        all_goals
          go_ret
          exact ⟨rfl, below_step b5 HV.out (Nat.le_refl _)⟩
      · obtain ⟨c1, c2⟩ := sbeq_no hT
        have DN := Lib.hid (show decodeOf (X.take n ++ Y.drop n) = none by
          have h1 := hT
          rw [← HXX.out, ← HYY.out] at h1 ⊢
          exact torn_blank OKA.out HN80.out h1)
        refine (bDecode_any (X.take n ++ Y.drop n) _).mono ?_
        rw [decVal_none DN.out]
        clear hT
        unfold zblk
        rintro e v1 ⟨rfl, b4⟩
        replace k0 := below_cell b4 k0
        replace k1 := below_cell b4 k1
        replace k2 := below_cell b4 k2
        replace k3 := below_cell b4 k3
        replace k4 := below_cell b4 k4
        replace j0 := below_cell b4 j0
        replace j1 := below_cell b4 j1
        replace j2 := below_cell b4 j2
        replace j3 := below_cell b4 j3
        replace j4 := below_cell b4 j4
        have hlt1 := World.block_lt_of_cell? _ _ k0
        have hlt2 := World.block_lt_of_cell? _ _ j0
        dsimp only at hlt1 hlt2
        have HV := Lib.hid (below_step (alloc_below v1 (.cells #[.int .i64 0, .int .i64 0, .int .i64 0, .int .i64 0, .string ⟨#[]⟩] 23)) (below_step b4 HX.out (Nat.le_refl _)) (Nat.le_refl _))
        have q9 := alloc_new v1 (.cells #[.int .i64 0, .int .i64 0, .int .i64 0, .int .i64 0, .string ⟨#[]⟩] 23)
        clear b4
        go_wp2_with (go_at_call 22; refine (known24_any _).mono ?_; rintro e5 we ⟨rfl, b5⟩)
        all_goals
          go_ret
          exact ⟨rfl, below_step b5 HV.out (Nat.le_refl _)⟩
    · rw [he] at hra
      cases hra
      have he0n : (ea != 0) = true := by rw [bne, he0]; rfl
      clear he
      go_wp2_with (fail)
      refine (many_any 0 80 _ (by decide)).mono ?_
      rintro e w3 ⟨rfl, b3⟩
      have HX := Lib.hid (below_step b3 HX.out (Nat.le_refl _))
      clear b3 k0 k1 k2 k3 k4 j0 j1 j2 j3 j4
      go_wp2_with (go_at_call 22; refine (known24_any _).mono ?_; rintro e5 we ⟨rfl, b5⟩)
      go_ret
      exact ⟨rfl, below_step b5 HX.out (Nat.le_refl _)⟩
  case false =>
    rcases name_cases alife aboot an blife bboot bn with ⟨rfl, rfl, rfl⟩ | ⟨HD0, hne⟩
    · go_wp2_with (go_at_call 22; refine (known24_any _).mono ?_; rintro e5 we ⟨rfl, b5⟩)
      go_ret
      exact ⟨rfl, below_step b5 HX.out (Nat.le_refl _)⟩
    rcases enc_split alife aboot an aoff ad with ⟨A, okA, rfl, rfl, rfl, rfl, rfl, he⟩ | ⟨e, he0, he⟩
    · rw [he] at hra
      cases hra
      have OKA := Lib.hid okA
      clear okA he
      rcases enc_split blife bboot bn boff bd with ⟨B, okB, rfl, rfl, rfl, rfl, rfl, he⟩ | ⟨e, he0, he⟩
      · rw [he] at hrb
        cases hrb
        have OKB := Lib.hid okB
        have LY := Lib.hid (B.sec_length okB.2.2.2.2.2.2)
        clear okB he
        have HD := Lib.hid (show ¬ (A.life = B.life ∧ A.boot = B.boot ∧ A.n = B.n) from fun h => HD0.out ⟨by rw [h.1], by rw [h.2.1], by rw [h.2.2]⟩)
        clear HD0
        obtain ⟨Y, hY⟩ : ∃ Y, B.sec = Y := ⟨_, rfl⟩
        rw [hY] at LY ⊢
        have HYY := Lib.hid hY
        clear hY
        rcases hne with h | ⟨h1, h⟩ | ⟨h1, h2, h⟩
        all_goals
          have LX := Lib.hid (A.sec_length OKA.out.2.2.2.2.2.2)
          obtain ⟨X, hX⟩ : ∃ X, A.sec = X := ⟨_, rfl⟩
          rw [hX] at LX ⊢
          have lx := LX.out
          have ly := LY.out
          have e1 : (S X).extract 0 n = S (X.take n) := by rw [S_extract, List.drop_zero]
          have e2 : (S Y).extract n 80 = S (Y.drop n) := by rw [S_extract, List.take_of_length_le (by omega)]
          have DX := Lib.hid (show decodeOf X = some A by rw [← hX]; exact decodeOf_sec OKA.out)
          have HXX := Lib.hid hX
          clear hX
          go_wp2_with (fail)
          go_region
          have HX := Lib.hid HX.out.drew
          go_wp2_with (fail)
          clear e1 e2
          by_cases hT : X.take n ++ Y.drop n = X
          · refine (bDecode_any (X.take n ++ Y.drop n) _).mono ?_
            rw [hT, decVal_some DX.out]
            unfold Blk.val
            rintro e v1 ⟨rfl, b4⟩
            replace k0 := below_cell b4 k0
            replace k1 := below_cell b4 k1
            replace k2 := below_cell b4 k2
            replace k3 := below_cell b4 k3
            replace k4 := below_cell b4 k4
            replace j0 := below_cell b4 j0
            replace j1 := below_cell b4 j1
            replace j2 := below_cell b4 j2
            replace j3 := below_cell b4 j3
            replace j4 := below_cell b4 j4
            have hlt1 := World.block_lt_of_cell? _ _ k0
            have hlt2 := World.block_lt_of_cell? _ _ j0
            dsimp only at hlt1 hlt2
            have HV := Lib.hid (below_step (alloc_below v1 (.cells #[.int .i64 A.life, .int .i64 A.boot, .int .i64 A.n, .int .i64 A.off, .string (S A.data)] 23)) (below_step b4 HX.out (Nat.le_refl _)) (Nat.le_refl _))
            have q9 := alloc_new v1 (.cells #[.int .i64 A.life, .int .i64 A.boot, .int .i64 A.n, .int .i64 A.off, .string (S A.data)] 23)
            clear b4
            go_wp2_with (go_at_call 22; refine (known24_any _).mono ?_; rintro e5 we ⟨rfl, b5⟩)
            all_goals
              go_ret
              exact ⟨rfl, below_step b5 HV.out (Nat.le_refl _)⟩
          · obtain ⟨c1, c2⟩ := sbeq_no hT
            by_cases hU : X.take n ++ Y.drop n = Y
            · refine (bDecode_any (X.take n ++ Y.drop n) _).mono ?_
              have DY := Lib.hid (show decodeOf Y = some B by rw [← HYY.out]; exact decodeOf_sec OKB.out)
              rw [hU] at c1 c2 ⊢
              clear hT hU
              rw [decVal_some DY.out]
              unfold Blk.val
              rintro e v1 ⟨rfl, b4⟩
              replace k0 := below_cell b4 k0
              replace k1 := below_cell b4 k1
              replace k2 := below_cell b4 k2
              replace k3 := below_cell b4 k3
              replace k4 := below_cell b4 k4
              replace j0 := below_cell b4 j0
              replace j1 := below_cell b4 j1
              replace j2 := below_cell b4 j2
              replace j3 := below_cell b4 j3
              replace j4 := below_cell b4 j4
              have hlt1 := World.block_lt_of_cell? _ _ k0
              have hlt2 := World.block_lt_of_cell? _ _ j0
              dsimp only at hlt1 hlt2
              have HV := Lib.hid (below_step (alloc_below v1 (.cells #[.int .i64 B.life, .int .i64 B.boot, .int .i64 B.n, .int .i64 B.off, .string (S B.data)] 23)) (below_step b4 HX.out (Nat.le_refl _)) (Nat.le_refl _))
              have q9 := alloc_new v1 (.cells #[.int .i64 B.life, .int .i64 B.boot, .int .i64 B.n, .int .i64 B.off, .string (S B.data)] 23)
              clear b4
              go_wp2_with (go_at_call 22; refine (known24_any _).mono ?_; rintro e5 we ⟨rfl, b5⟩)
              all_goals
                go_ret
                exact ⟨rfl, below_step b5 HV.out (Nat.le_refl _)⟩
            · obtain ⟨c3, c4⟩ := sbeq_no hU
              have DN := Lib.hid (show decodeOf (X.take n ++ Y.drop n) = none by
                have h1 := hT
                have h2 := hU
                rw [← HXX.out, ← HYY.out] at h1 h2 ⊢
                exact torn_blocks OKA.out OKB.out HD.out HN80.out h1 h2)
              refine (bDecode_any (X.take n ++ Y.drop n) _).mono ?_
              rw [decVal_none DN.out]
              clear hT hU
              unfold zblk
              rintro e v1 ⟨rfl, b4⟩
              replace k0 := below_cell b4 k0
              replace k1 := below_cell b4 k1
              replace k2 := below_cell b4 k2
              replace k3 := below_cell b4 k3
              replace k4 := below_cell b4 k4
              replace j0 := below_cell b4 j0
              replace j1 := below_cell b4 j1
              replace j2 := below_cell b4 j2
              replace j3 := below_cell b4 j3
              replace j4 := below_cell b4 j4
              have hlt1 := World.block_lt_of_cell? _ _ k0
              have hlt2 := World.block_lt_of_cell? _ _ j0
              dsimp only at hlt1 hlt2
              have HV := Lib.hid (below_step (alloc_below v1 (.cells #[.int .i64 0, .int .i64 0, .int .i64 0, .int .i64 0, .string ⟨#[]⟩] 23)) (below_step b4 HX.out (Nat.le_refl _)) (Nat.le_refl _))
              have q9 := alloc_new v1 (.cells #[.int .i64 0, .int .i64 0, .int .i64 0, .int .i64 0, .string ⟨#[]⟩] 23)
              clear b4
              go_wp2_with (go_at_call 22; refine (known24_any _).mono ?_; rintro e5 we ⟨rfl, b5⟩)
              all_goals
                go_ret
                exact ⟨rfl, below_step b5 HV.out (Nat.le_refl _)⟩
      · rw [he] at hrb
        cases hrb
        have he0n : (eb != 0) = true := by rw [bne, he0]; rfl
        clear he HD0
        rcases hne with h | ⟨h1, h⟩ | ⟨h1, h2, h⟩
        all_goals
          go_wp2_with (go_at_call 22; refine (known24_any _).mono ?_; rintro e5 we ⟨rfl, b5⟩)
          go_ret
          exact ⟨rfl, below_step b5 HX.out (Nat.le_refl _)⟩
    · rw [he] at hra
      cases hra
      have he0n : (ea != 0) = true := by rw [bne, he0]; rfl
      clear he HD0
      rcases hne with h | ⟨h1, h⟩ | ⟨h1, h2, h⟩
      all_goals
        go_wp2_with (go_at_call 22; refine (known24_any _).mono ?_; rintro e5 we ⟨rfl, b5⟩)
        go_ret
        exact ⟨rfl, below_step b5 HX.out (Nat.le_refl _)⟩
end Go.Proofs.Ytcdpgkefdnmkeaa
