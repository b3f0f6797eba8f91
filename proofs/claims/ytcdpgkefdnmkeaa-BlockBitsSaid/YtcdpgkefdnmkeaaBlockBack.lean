/- sacristanlaw24.BlockBack returns true, whatever its blocks and its string are, in every world. -/
import Derived.Test.YtcdpgkefdnmkeaaGB
namespace Go.Proofs.Ytcdpgkefdnmkeaa
open Go.RowKit

/-- What Encode returns, by cases. -/
theorem enc_split (life boot n off : Int) (d : List UInt8) :
    (∃ b : Blk, b.Ok ∧ life = b.life ∧ boot = b.boot ∧ n = b.n ∧ off = b.off ∧ d = b.data ∧ encOf life boot n off d = (b.sec, 0)) ∨ ∃ e : Int, (e == 0) = false ∧ encOf life boot n off d = ([], e) := by
  unfold encOf
  by_cases h : 36 < d.length
  · rw [if_pos h]; exact .inr ⟨5, rfl, rfl⟩
  · rw [if_neg h]
    by_cases hc : 0 ≤ life ∧ life ≤ 4294967295 ∧ 0 ≤ n ∧ n ≤ 4294967295 ∧ 1 ≤ boot ∧ boot ≤ 4294967295 ∧ 0 ≤ off ∧ off ≤ 281474976710655 ∧ 1 ≤ d.length
    · rw [if_pos hc]
      refine .inl ⟨⟨life.toNat, boot.toNat, n.toNat, off.toNat, d⟩, ?_, ?_, ?_, ?_, ?_, rfl, rfl⟩
      · unfold Blk.Ok; dsimp only; omega
      · dsimp only; omega
      · dsimp only; omega
      · dsimp only; omega
      · dsimp only; omega
    · rw [if_neg hc]; exact .inr ⟨2, rfl, rfl⟩
theorem Blk.ne_cases {a b : Blk} (h : a ≠ b) : ((a.life : Int) == b.life) = false ∨ (((a.life : Int) == b.life) = true ∧ ((a.boot : Int) == b.boot) = false) ∨ (((a.life : Int) == b.life) = true ∧ ((a.boot : Int) == b.boot) = true ∧ ((a.n : Int) == b.n) = false) ∨
    (((a.life : Int) == b.life) = true ∧ ((a.boot : Int) == b.boot) = true ∧ ((a.n : Int) == b.n) = true ∧ ((a.off : Int) == b.off) = false) ∨
    (((a.life : Int) == b.life) = true ∧ ((a.boot : Int) == b.boot) = true ∧ ((a.n : Int) == b.n) = true ∧ ((a.off : Int) == b.off) = true ∧ ¬ a.data = b.data) := by
  have hb : ∀ x y : Nat, x = y → ((x : Int) == y) = true := fun x y h => by rw [h]; exact beq_self_eq_true _
  have hn : ∀ x y : Nat, ¬ x = y → ((x : Int) == y) = false := fun x y h => beq_eq_false_iff_ne.2 (fun e => h (by omega))
  by_cases h1 : a.life = b.life
  · by_cases h2 : a.boot = b.boot
    · by_cases h3 : a.n = b.n
      · by_cases h4 : a.off = b.off
        · by_cases h5 : a.data = b.data
          · exact absurd (by cases a; cases b; simp_all) h
          · exact .inr (.inr (.inr (.inr ⟨hb _ _ h1, hb _ _ h2, hb _ _ h3, hb _ _ h4, h5⟩)))
        · exact .inr (.inr (.inr (.inl ⟨hb _ _ h1, hb _ _ h2, hb _ _ h3, hn _ _ h4⟩)))
      · exact .inr (.inr (.inl ⟨hb _ _ h1, hb _ _ h2, hn _ _ h3⟩))
    · exact .inr (.inl ⟨hb _ _ h1, hn _ _ h2⟩)
  · exact .inl (hn _ _ h1)
set_option maxRecDepth 100000 in
set_option maxHeartbeats 8000000 in
theorem blockBack_any (alife aboot an aoff : Int) (ad : List UInt8) (blife bboot bn boff : Int) (bd : List UInt8) (a : ByteArray) (w : World) (_h0 : ad.length ≤ 140737488351232) (_h1 : bd.length ≤ 140737488351232) (_h2 : a.size ≤ 140737488351232) :
    Calls Try.prog 4 #[.agg #[.int .i64 alife, .int .i64 aboot, .int .i64 an, .int .i64 aoff, .string (S ad)], .agg #[.int .i64 blife, .int .i64 bboot, .int .i64 bn, .int .i64 boff, .string (S bd)], .string a] w fun e w' => e = .returned (.bool true) ∧ Below w.heap.size w w' := by
  obtain ⟨l, rfl⟩ : ∃ l, a = S l := ⟨a.data.toList, (S_of a).symm⟩
  obtain ⟨n1, n2, n3, n4⟩ := two_new w (.cells #[.int .i64 alife, .int .i64 aboot, .int .i64 an, .int .i64 aoff, .string (S ad)] 23) (.cells #[.int .i64 blife, .int .i64 bboot, .int .i64 bn, .int .i64 boff, .string (S bd)] 23)
  by_cases h0 : 200 < l.length
  · have h0' : (200 : Int) < (l.length : Int) := by omega
    go_enter Try.func4, Try.ntmps4
    go_wp2_with (go_at_call 22; refine (known24_any _).mono ?_; rintro e5 we ⟨rfl, b5⟩)
    go_ret
    exact ⟨rfl, below_step b5 n4 (Nat.le_refl _)⟩
  have h0' : ¬ (200 : Int) < (l.length : Int) := by omega
  by_cases h1 : 200 < ad.length
  · have h1' : (200 : Int) < (ad.length : Int) := by omega
    go_enter Try.func4, Try.ntmps4
    go_wp2_with (go_at_call 22; refine (known24_any _).mono ?_; rintro e5 we ⟨rfl, b5⟩)
    go_ret
    exact ⟨rfl, below_step b5 n4 (Nat.le_refl _)⟩
  have h1' : ¬ (200 : Int) < (ad.length : Int) := by omega
  by_cases h2 : 200 < bd.length
  · have h2' : (200 : Int) < (bd.length : Int) := by omega
    go_enter Try.func4, Try.ntmps4
    go_wp2_with (go_at_call 22; refine (known24_any _).mono ?_; rintro e5 we ⟨rfl, b5⟩)
    go_ret
    exact ⟨rfl, below_step b5 n4 (Nat.le_refl _)⟩
  have h2' : ¬ (200 : Int) < (bd.length : Int) := by omega
  go_enter Try.func4, Try.ntmps4
  go_wp2_with (fail)
  generalize (w.alloc (.cells #[.int .i64 alife, .int .i64 aboot, .int .i64 an, .int .i64 aoff, .string (S ad)] 23)).alloc (.cells #[.int .i64 blife, .int .i64 bboot, .int .i64 bn, .int .i64 boff, .string (S bd)] 23) = W at n1 n2 n3 n4 ⊢
  have k0 : W.cell? ⟨w.heap.size, 0, none⟩ = some (.int .i64 alife) := (cell_of n1 0).trans rfl
  have k1 : W.cell? ⟨w.heap.size, 1, none⟩ = some (.int .i64 aboot) := (cell_of n1 1).trans rfl
  have k2 : W.cell? ⟨w.heap.size, 2, none⟩ = some (.int .i64 an) := (cell_of n1 2).trans rfl
  have k3 : W.cell? ⟨w.heap.size, 3, none⟩ = some (.int .i64 aoff) := (cell_of n1 3).trans rfl
  have k4 : W.cell? ⟨w.heap.size, 4, none⟩ = some (.string (S ad)) := (cell_of n1 4).trans rfl
  have j0 : W.cell? ⟨w.heap.size + 1, 0, none⟩ = some (.int .i64 blife) := (cell_of n2 0).trans rfl
  have j1 : W.cell? ⟨w.heap.size + 1, 1, none⟩ = some (.int .i64 bboot) := (cell_of n2 1).trans rfl
  have j2 : W.cell? ⟨w.heap.size + 1, 2, none⟩ = some (.int .i64 bn) := (cell_of n2 2).trans rfl
  have j3 : W.cell? ⟨w.heap.size + 1, 3, none⟩ = some (.int .i64 boff) := (cell_of n2 3).trans rfl
  have j4 : W.cell? ⟨w.heap.size + 1, 4, none⟩ = some (.string (S bd)) := (cell_of n2 4).trans rfl
  clear n1 n2 n3 h0 h1 h2 h0' h1' h2' _h0 _h1 _h2
  refine (bEncode_any alife aboot an aoff ad W).mono ?_
  rintro e w1 ⟨rfl, b1⟩
  replace k0 := below_cell b1 k0
  replace k1 := below_cell b1 k1
  replace k2 := below_cell b1 k2
  replace k3 := below_cell b1 k3
  replace k4 := below_cell b1 k4
  replace j0 := below_cell b1 j0
  replace j1 := below_cell b1 j1
  replace j2 := below_cell b1 j2
  replace j3 := below_cell b1 j3
  replace j4 := below_cell b1 j4
  have HB1 := Lib.hid (below_step b1 n4 (Nat.le_refl _))
  clear b1 n4
  obtain ⟨⟨xa, ea⟩, hra⟩ : ∃ r, encOf alife aboot an aoff ad = r := ⟨_, rfl⟩
  rw [hra]
  go_wp2_with (fail)
  refine (bEncode_any blife bboot bn boff bd w1).mono ?_
  rintro e w2 ⟨rfl, b2⟩
  replace k0 := below_cell b2 k0
  replace k1 := below_cell b2 k1
  replace k2 := below_cell b2 k2
  replace k3 := below_cell b2 k3
  replace k4 := below_cell b2 k4
  replace j0 := below_cell b2 j0
  replace j1 := below_cell b2 j1
  replace j2 := below_cell b2 j2
  replace j3 := below_cell b2 j3
  replace j4 := below_cell b2 j4
  have HB2 := Lib.hid (below_step b2 HB1.out (Nat.le_refl _))
  clear b2 HB1
  obtain ⟨⟨xb, eb⟩, hrb⟩ : ∃ r, encOf blife bboot bn boff bd = r := ⟨_, rfl⟩
  rw [hrb]
  rcases enc_split alife aboot an aoff ad with ⟨A, okA, rfl, rfl, rfl, rfl, rfl, he⟩ | ⟨e, he0, he⟩
  · rw [he] at hra
    cases hra
    have OKA := Lib.hid okA
    clear okA he
    rcases enc_split blife bboot bn boff bd with ⟨B, okB, rfl, rfl, rfl, rfl, rfl, he⟩ | ⟨e, he0, he⟩
    · rw [he] at hrb
      cases hrb
      have OKB := Lib.hid okB
      clear okB he
      by_cases hAB : A = B
      · subst hAB
        go_wp2_with (fail)
        refine (bDecode_any A.sec _).mono ?_
        rw [decVal_some (decodeOf_sec OKA.out)]
        unfold Blk.val
        rintro e w3 ⟨rfl, b3⟩
        replace k0 := below_cell b3 k0
        replace k1 := below_cell b3 k1
        replace k2 := below_cell b3 k2
        replace k3 := below_cell b3 k3
        replace k4 := below_cell b3 k4
        replace j0 := below_cell b3 j0
        replace j1 := below_cell b3 j1
        replace j2 := below_cell b3 j2
        replace j3 := below_cell b3 j3
        replace j4 := below_cell b3 j4
        have HX := Lib.hid (below_step (alloc_below w3 (.cells #[.int .i64 A.life, .int .i64 A.boot, .int .i64 A.n, .int .i64 A.off, .string (S A.data)] 23)) (below_step b3 HB2.out (Nat.le_refl _)) (Nat.le_refl _))
        have q3 := alloc_new w3 (.cells #[.int .i64 A.life, .int .i64 A.boot, .int .i64 A.n, .int .i64 A.off, .string (S A.data)] 23)
        have hlt1 := World.block_lt_of_cell? _ _ k0
        have hlt2 := World.block_lt_of_cell? _ _ j0
        dsimp only at hlt1 hlt2
        clear b3
        go_wp2_with (fail)
        clear k0 k1 k2 k3 k4 j0 j1 j2 j3 j4 q3 hlt1 hlt2
        revert HX
        generalize w3.alloc (.cells #[.int .i64 A.life, .int .i64 A.boot, .int .i64 A.n, .int .i64 A.off, .string (S A.data)] 23) = X
        intro HX
        cases hdec : decodeOf l with
        | none =>
          refine (bDecode_any l _).mono ?_
          rw [decVal_none hdec]
          unfold zblk
          rintro e v1 ⟨rfl, b4⟩
          have HV := Lib.hid (below_step (alloc_below v1 (.cells #[.int .i64 0, .int .i64 0, .int .i64 0, .int .i64 0, .string ⟨#[]⟩] 23)) (below_step b4 HX.out (Nat.le_refl _)) (Nat.le_refl _))
          clear b4 hdec
          go_wp2_with (go_at_call 22; refine (known24_any _).mono ?_; rintro e5 we ⟨rfl, b5⟩)
          go_ret
          exact ⟨rfl, below_step b5 HV.out (Nat.le_refl _)⟩
        | some c =>
          have hc := Lib.hid (decodeOf_some hdec)
          refine (bDecode_any l _).mono ?_
          rw [decVal_some hdec]
          unfold Blk.val
          rintro e v1 ⟨rfl, b4⟩
          have HV := Lib.hid (below_step (alloc_below v1 (.cells #[.int .i64 c.life, .int .i64 c.boot, .int .i64 c.n, .int .i64 c.off, .string (S c.data)] 23)) (below_step b4 HX.out (Nat.le_refl _)) (Nat.le_refl _))
          clear b4 hdec
          go_wp2_with (fail)
          refine (bEncode_ok c _ hc.out.1).mono ?_
          rw [hc.out.2]
          rintro e v2 ⟨rfl, b6⟩
          have HV2 := Lib.hid (below_step b6 HV.out (Nat.le_refl _))
          clear b6
          go_wp2_with (go_at_call 22; refine (known24_any _).mono ?_; rintro e5 we ⟨rfl, b5⟩)
          go_ret
          exact ⟨rfl, below_step b5 HV2.out (Nat.le_refl _)⟩
      · obtain ⟨hsec, hsec2⟩ := sbeq_no (fun h : A.sec = B.sec => hAB (sec_inj OKA.out OKB.out h))
        have hne := Blk.ne_cases hAB
        clear hAB
        rcases hne with h | ⟨e1, h⟩ | ⟨e1, e2, h⟩ | ⟨e1, e2, e3, h⟩ | ⟨e1, e2, e3, e4, h⟩
        all_goals
          go_wp2_with (fail)
          refine (bDecode_any A.sec _).mono ?_
          rw [decVal_some (decodeOf_sec OKA.out)]
          unfold Blk.val
          rintro e w3 ⟨rfl, b3⟩
          replace k0 := below_cell b3 k0
          replace k1 := below_cell b3 k1
          replace k2 := below_cell b3 k2
          replace k3 := below_cell b3 k3
          replace k4 := below_cell b3 k4
          replace j0 := below_cell b3 j0
          replace j1 := below_cell b3 j1
          replace j2 := below_cell b3 j2
          replace j3 := below_cell b3 j3
          replace j4 := below_cell b3 j4
          have HX := Lib.hid (below_step (alloc_below w3 (.cells #[.int .i64 A.life, .int .i64 A.boot, .int .i64 A.n, .int .i64 A.off, .string (S A.data)] 23)) (below_step b3 HB2.out (Nat.le_refl _)) (Nat.le_refl _))
          have q3 := alloc_new w3 (.cells #[.int .i64 A.life, .int .i64 A.boot, .int .i64 A.n, .int .i64 A.off, .string (S A.data)] 23)
          have hlt1 := World.block_lt_of_cell? _ _ k0
          have hlt2 := World.block_lt_of_cell? _ _ j0
          dsimp only at hlt1 hlt2
          clear b3
          go_wp2_with (fail)
          clear k0 k1 k2 k3 k4 j0 j1 j2 j3 j4 q3 hlt1 hlt2
          revert HX
          generalize w3.alloc (.cells #[.int .i64 A.life, .int .i64 A.boot, .int .i64 A.n, .int .i64 A.off, .string (S A.data)] 23) = X
          intro HX
          cases hdec : decodeOf l with
          | none =>
            refine (bDecode_any l _).mono ?_
            rw [decVal_none hdec]
            unfold zblk
            rintro e v1 ⟨rfl, b4⟩
            have HV := Lib.hid (below_step (alloc_below v1 (.cells #[.int .i64 0, .int .i64 0, .int .i64 0, .int .i64 0, .string ⟨#[]⟩] 23)) (below_step b4 HX.out (Nat.le_refl _)) (Nat.le_refl _))
            clear b4 hdec
            go_wp2_with (go_at_call 22; refine (known24_any _).mono ?_; rintro e5 we ⟨rfl, b5⟩)
            go_ret
            exact ⟨rfl, below_step b5 HV.out (Nat.le_refl _)⟩
          | some c =>
            have hc := Lib.hid (decodeOf_some hdec)
            refine (bDecode_any l _).mono ?_
            rw [decVal_some hdec]
            unfold Blk.val
            rintro e v1 ⟨rfl, b4⟩
            have HV := Lib.hid (below_step (alloc_below v1 (.cells #[.int .i64 c.life, .int .i64 c.boot, .int .i64 c.n, .int .i64 c.off, .string (S c.data)] 23)) (below_step b4 HX.out (Nat.le_refl _)) (Nat.le_refl _))
            clear b4 hdec
            go_wp2_with (fail)
            refine (bEncode_ok c _ hc.out.1).mono ?_
            rw [hc.out.2]
            rintro e v2 ⟨rfl, b6⟩
            have HV2 := Lib.hid (below_step b6 HV.out (Nat.le_refl _))
            clear b6
            go_wp2_with (go_at_call 22; refine (known24_any _).mono ?_; rintro e5 we ⟨rfl, b5⟩)
            go_ret
            exact ⟨rfl, below_step b5 HV2.out (Nat.le_refl _)⟩
    · rw [he] at hrb
      cases hrb
      clear he
      go_wp2_with (fail)
      refine (bDecode_any A.sec _).mono ?_
      rw [decVal_some (decodeOf_sec OKA.out)]
      unfold Blk.val
      rintro e w3 ⟨rfl, b3⟩
      replace k0 := below_cell b3 k0
      replace k1 := below_cell b3 k1
      replace k2 := below_cell b3 k2
      replace k3 := below_cell b3 k3
      replace k4 := below_cell b3 k4
      replace j0 := below_cell b3 j0
      replace j1 := below_cell b3 j1
      replace j2 := below_cell b3 j2
      replace j3 := below_cell b3 j3
      replace j4 := below_cell b3 j4
      have HX := Lib.hid (below_step (alloc_below w3 (.cells #[.int .i64 A.life, .int .i64 A.boot, .int .i64 A.n, .int .i64 A.off, .string (S A.data)] 23)) (below_step b3 HB2.out (Nat.le_refl _)) (Nat.le_refl _))
      have q3 := alloc_new w3 (.cells #[.int .i64 A.life, .int .i64 A.boot, .int .i64 A.n, .int .i64 A.off, .string (S A.data)] 23)
      have hlt1 := World.block_lt_of_cell? _ _ k0
      have hlt2 := World.block_lt_of_cell? _ _ j0
      dsimp only at hlt1 hlt2
      clear b3
      go_wp2_with (fail)
      clear k0 k1 k2 k3 k4 j0 j1 j2 j3 j4 q3 hlt1 hlt2
      revert HX
      generalize w3.alloc (.cells #[.int .i64 A.life, .int .i64 A.boot, .int .i64 A.n, .int .i64 A.off, .string (S A.data)] 23) = X
      intro HX
      cases hdec : decodeOf l with
      | none =>
        refine (bDecode_any l _).mono ?_
        rw [decVal_none hdec]
        unfold zblk
        rintro e v1 ⟨rfl, b4⟩
        have HV := Lib.hid (below_step (alloc_below v1 (.cells #[.int .i64 0, .int .i64 0, .int .i64 0, .int .i64 0, .string ⟨#[]⟩] 23)) (below_step b4 HX.out (Nat.le_refl _)) (Nat.le_refl _))
        clear b4 hdec
        go_wp2_with (go_at_call 22; refine (known24_any _).mono ?_; rintro e5 we ⟨rfl, b5⟩)
        go_ret
        exact ⟨rfl, below_step b5 HV.out (Nat.le_refl _)⟩
      | some c =>
        have hc := Lib.hid (decodeOf_some hdec)
        refine (bDecode_any l _).mono ?_
        rw [decVal_some hdec]
        unfold Blk.val
        rintro e v1 ⟨rfl, b4⟩
        have HV := Lib.hid (below_step (alloc_below v1 (.cells #[.int .i64 c.life, .int .i64 c.boot, .int .i64 c.n, .int .i64 c.off, .string (S c.data)] 23)) (below_step b4 HX.out (Nat.le_refl _)) (Nat.le_refl _))
        clear b4 hdec
        go_wp2_with (fail)
        refine (bEncode_ok c _ hc.out.1).mono ?_
        rw [hc.out.2]
        rintro e v2 ⟨rfl, b6⟩
        have HV2 := Lib.hid (below_step b6 HV.out (Nat.le_refl _))
        clear b6
        go_wp2_with (go_at_call 22; refine (known24_any _).mono ?_; rintro e5 we ⟨rfl, b5⟩)
        go_ret
        exact ⟨rfl, below_step b5 HV2.out (Nat.le_refl _)⟩
  · rw [he] at hra
    cases hra
    clear he
    rcases enc_split blife bboot bn boff bd with ⟨B, okB, rfl, rfl, rfl, rfl, rfl, he⟩ | ⟨e, he0, he⟩
    · rw [he] at hrb
      cases hrb
      clear okB he
      go_wp2_with (fail)
      have HX := HB2
      clear k0 k1 k2 k3 k4 j0 j1 j2 j3 j4
      cases hdec : decodeOf l with
      | none =>
        refine (bDecode_any l _).mono ?_
        rw [decVal_none hdec]
        unfold zblk
        rintro e v1 ⟨rfl, b4⟩
        have HV := Lib.hid (below_step (alloc_below v1 (.cells #[.int .i64 0, .int .i64 0, .int .i64 0, .int .i64 0, .string ⟨#[]⟩] 23)) (below_step b4 HX.out (Nat.le_refl _)) (Nat.le_refl _))
        clear b4 hdec
        go_wp2_with (go_at_call 22; refine (known24_any _).mono ?_; rintro e5 we ⟨rfl, b5⟩)
        go_ret
        exact ⟨rfl, below_step b5 HV.out (Nat.le_refl _)⟩
      | some c =>
        have hc := Lib.hid (decodeOf_some hdec)
        refine (bDecode_any l _).mono ?_
        rw [decVal_some hdec]
        unfold Blk.val
        rintro e v1 ⟨rfl, b4⟩
        have HV := Lib.hid (below_step (alloc_below v1 (.cells #[.int .i64 c.life, .int .i64 c.boot, .int .i64 c.n, .int .i64 c.off, .string (S c.data)] 23)) (below_step b4 HX.out (Nat.le_refl _)) (Nat.le_refl _))
        clear b4 hdec
        go_wp2_with (fail)
        refine (bEncode_ok c _ hc.out.1).mono ?_
        rw [hc.out.2]
        rintro e v2 ⟨rfl, b6⟩
        have HV2 := Lib.hid (below_step b6 HV.out (Nat.le_refl _))
        clear b6
        go_wp2_with (go_at_call 22; refine (known24_any _).mono ?_; rintro e5 we ⟨rfl, b5⟩)
        go_ret
        exact ⟨rfl, below_step b5 HV2.out (Nat.le_refl _)⟩
    · rw [he] at hrb
      cases hrb
      clear he
      go_wp2_with (fail)
      have HX := HB2
      clear k0 k1 k2 k3 k4 j0 j1 j2 j3 j4
      cases hdec : decodeOf l with
      | none =>
        refine (bDecode_any l _).mono ?_
        rw [decVal_none hdec]
        unfold zblk
        rintro e v1 ⟨rfl, b4⟩
        have HV := Lib.hid (below_step (alloc_below v1 (.cells #[.int .i64 0, .int .i64 0, .int .i64 0, .int .i64 0, .string ⟨#[]⟩] 23)) (below_step b4 HX.out (Nat.le_refl _)) (Nat.le_refl _))
        clear b4 hdec
        go_wp2_with (go_at_call 22; refine (known24_any _).mono ?_; rintro e5 we ⟨rfl, b5⟩)
        go_ret
        exact ⟨rfl, below_step b5 HV.out (Nat.le_refl _)⟩
      | some c =>
        have hc := Lib.hid (decodeOf_some hdec)
        refine (bDecode_any l _).mono ?_
        rw [decVal_some hdec]
        unfold Blk.val
        rintro e v1 ⟨rfl, b4⟩
        have HV := Lib.hid (below_step (alloc_below v1 (.cells #[.int .i64 c.life, .int .i64 c.boot, .int .i64 c.n, .int .i64 c.off, .string (S c.data)] 23)) (below_step b4 HX.out (Nat.le_refl _)) (Nat.le_refl _))
        clear b4 hdec
        go_wp2_with (fail)
        refine (bEncode_ok c _ hc.out.1).mono ?_
        rw [hc.out.2]
        rintro e v2 ⟨rfl, b6⟩
        have HV2 := Lib.hid (below_step b6 HV.out (Nat.le_refl _))
        clear b6
        go_wp2_with (go_at_call 22; refine (known24_any _).mono ?_; rintro e5 we ⟨rfl, b5⟩)
        go_ret
        exact ⟨rfl, below_step b5 HV2.out (Nat.le_refl _)⟩
end Go.Proofs.Ytcdpgkefdnmkeaa
