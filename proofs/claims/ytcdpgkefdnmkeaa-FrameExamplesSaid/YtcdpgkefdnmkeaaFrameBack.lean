/- sacristanlaw05.FrameBack returns true, whatever its frames and its string are, in every world. -/
import Derived.Test.YtcdpgkefdnmkeaaGF
namespace Go.Proofs.Ytcdpgkefdnmkeaa
open Go.RowKit

theorem fsbeq_no {a b : List UInt8} (h : ¬ a = b) : (a == b) = false ∧ (a != b) = true := ⟨beq_eq_false_iff_ne.2 h, bne_iff_ne.2 h⟩
/-- What Encode returns, by cases. -/
theorem fenc_split (boot lsn part parts kind : Int) (d : List UInt8) (hk : 0 ≤ kind ∧ kind < 256) :
    (∃ b : Frm, b.Ok ∧ boot = b.boot ∧ lsn = b.lsn ∧ part = b.part ∧ parts = b.parts ∧ kind = b.kind ∧ d = b.data ∧ fencOf boot lsn part parts kind d = (b.sec, 0)) ∨ ∃ e : Int, (e == 0) = false ∧ fencOf boot lsn part parts kind d = ([], e) := by
  unfold fencOf
  by_cases h : 44 < d.length
  · rw [if_pos h]; exact .inr ⟨5, rfl, rfl⟩
  · rw [if_neg h]
    by_cases hc : FOk boot lsn part parts
    · rw [if_pos hc]
      unfold FOk at hc
      refine .inl ⟨⟨boot.toNat, lsn.toNat, part.toNat, parts.toNat, kind.toNat, d⟩, ?_, ?_, ?_, ?_, ?_, ?_, rfl, rfl⟩
      · unfold Frm.Ok; dsimp only; omega
      · dsimp only; omega
      · dsimp only; omega
      · dsimp only; omega
      · dsimp only; omega
      · dsimp only; omega
    · rw [if_neg hc]; exact .inr ⟨2, rfl, rfl⟩
theorem Frm.ne_cases {a b : Frm} (h : a ≠ b) : ((a.boot : Int) == b.boot) = false ∨ (((a.boot : Int) == b.boot) = true ∧ ((a.lsn : Int) == b.lsn) = false) ∨ (((a.boot : Int) == b.boot) = true ∧ ((a.lsn : Int) == b.lsn) = true ∧ ((a.part : Int) == b.part) = false) ∨
    (((a.boot : Int) == b.boot) = true ∧ ((a.lsn : Int) == b.lsn) = true ∧ ((a.part : Int) == b.part) = true ∧ ((a.parts : Int) == b.parts) = false) ∨
    (((a.boot : Int) == b.boot) = true ∧ ((a.lsn : Int) == b.lsn) = true ∧ ((a.part : Int) == b.part) = true ∧ ((a.parts : Int) == b.parts) = true ∧ ((a.kind : Int) == b.kind) = false) ∨
    (((a.boot : Int) == b.boot) = true ∧ ((a.lsn : Int) == b.lsn) = true ∧ ((a.part : Int) == b.part) = true ∧ ((a.parts : Int) == b.parts) = true ∧ ((a.kind : Int) == b.kind) = true ∧ ¬ a.data = b.data) := by
  have hb : ∀ x y : Nat, x = y → ((x : Int) == y) = true := fun x y h => by rw [h]; exact beq_self_eq_true _
  have hn : ∀ x y : Nat, ¬ x = y → ((x : Int) == y) = false := fun x y h => beq_eq_false_iff_ne.2 (fun e => h (by omega))
  by_cases h1 : a.boot = b.boot
  · by_cases h2 : a.lsn = b.lsn
    · by_cases h3 : a.part = b.part
      · by_cases h4 : a.parts = b.parts
        · by_cases h5 : a.kind = b.kind
          · by_cases h6 : a.data = b.data
            · exact absurd (by cases a; cases b; simp_all) h
            · exact .inr (.inr (.inr (.inr (.inr ⟨hb _ _ h1, hb _ _ h2, hb _ _ h3, hb _ _ h4, hb _ _ h5, h6⟩))))
          · exact .inr (.inr (.inr (.inr (.inl ⟨hb _ _ h1, hb _ _ h2, hb _ _ h3, hb _ _ h4, hn _ _ h5⟩))))
        · exact .inr (.inr (.inr (.inl ⟨hb _ _ h1, hb _ _ h2, hb _ _ h3, hn _ _ h4⟩)))
      · exact .inr (.inr (.inl ⟨hb _ _ h1, hb _ _ h2, hn _ _ h3⟩))
    · exact .inr (.inl ⟨hb _ _ h1, hn _ _ h2⟩)
  · exact .inl (hn _ _ h1)
set_option maxRecDepth 100000 in
set_option maxHeartbeats 8000000 in
theorem frameBack_any (aboot alsn apart aparts akind : Int) (ad : List UInt8) (bboot blsn bpart bparts bkind : Int) (bd : List UInt8) (a : ByteArray) (w : World) (hka : 0 ≤ akind ∧ akind < 256) (_h0 : ad.length ≤ 140737488351232) (hkb : 0 ≤ bkind ∧ bkind < 256) (_h1 : bd.length ≤ 140737488351232) (_h2 : a.size ≤ 140737488351232) :
    Calls Try.prog 9 #[.agg #[.int .i64 aboot, .int .i64 alsn, .int .i64 apart, .int .i64 aparts, .int .u8 akind, .string (S ad)], .agg #[.int .i64 bboot, .int .i64 blsn, .int .i64 bpart, .int .i64 bparts, .int .u8 bkind, .string (S bd)], .string a] w fun e w' => e = .returned (.bool true) ∧ Below w.heap.size w w' := by
  obtain ⟨l, rfl⟩ : ∃ l, a = S l := ⟨a.data.toList, (S_of a).symm⟩
  obtain ⟨n1, n2, n3, n4⟩ := two_new w (.cells #[.int .i64 aboot, .int .i64 alsn, .int .i64 apart, .int .i64 aparts, .int .u8 akind, .string (S ad)] 40) (.cells #[.int .i64 bboot, .int .i64 blsn, .int .i64 bpart, .int .i64 bparts, .int .u8 bkind, .string (S bd)] 40)
  by_cases h0 : 200 < l.length
  · have h0' : (200 : Int) < (l.length : Int) := by omega
    go_enter Try.func9, Try.ntmps9
    go_wp2_with (go_at_call 28; refine (known05_any _).mono ?_; rintro e5 we ⟨rfl, b5⟩)
    go_ret
    exact ⟨rfl, below_step b5 n4 (Nat.le_refl _)⟩
  have h0' : ¬ (200 : Int) < (l.length : Int) := by omega
  by_cases h1 : 200 < ad.length
  · have h1' : (200 : Int) < (ad.length : Int) := by omega
    go_enter Try.func9, Try.ntmps9
    go_wp2_with (go_at_call 28; refine (known05_any _).mono ?_; rintro e5 we ⟨rfl, b5⟩)
    go_ret
    exact ⟨rfl, below_step b5 n4 (Nat.le_refl _)⟩
  have h1' : ¬ (200 : Int) < (ad.length : Int) := by omega
  by_cases h2 : 200 < bd.length
  · have h2' : (200 : Int) < (bd.length : Int) := by omega
    go_enter Try.func9, Try.ntmps9
    go_wp2_with (go_at_call 28; refine (known05_any _).mono ?_; rintro e5 we ⟨rfl, b5⟩)
    go_ret
    exact ⟨rfl, below_step b5 n4 (Nat.le_refl _)⟩
  have h2' : ¬ (200 : Int) < (bd.length : Int) := by omega
  go_enter Try.func9, Try.ntmps9
  go_wp2_with (fail)
  generalize (w.alloc (.cells #[.int .i64 aboot, .int .i64 alsn, .int .i64 apart, .int .i64 aparts, .int .u8 akind, .string (S ad)] 40)).alloc (.cells #[.int .i64 bboot, .int .i64 blsn, .int .i64 bpart, .int .i64 bparts, .int .u8 bkind, .string (S bd)] 40) = W at n1 n2 n3 n4 ⊢
  have k0 : W.cell? ⟨w.heap.size, 0, none⟩ = some (.int .i64 aboot) := (cell_of n1 0).trans rfl
  have k1 : W.cell? ⟨w.heap.size, 1, none⟩ = some (.int .i64 alsn) := (cell_of n1 1).trans rfl
  have k2 : W.cell? ⟨w.heap.size, 2, none⟩ = some (.int .i64 apart) := (cell_of n1 2).trans rfl
  have k3 : W.cell? ⟨w.heap.size, 3, none⟩ = some (.int .i64 aparts) := (cell_of n1 3).trans rfl
  have k4 : W.cell? ⟨w.heap.size, 4, none⟩ = some (.int .u8 akind) := (cell_of n1 4).trans rfl
  have k5 : W.cell? ⟨w.heap.size, 5, none⟩ = some (.string (S ad)) := (cell_of n1 5).trans rfl
  have j0 : W.cell? ⟨w.heap.size + 1, 0, none⟩ = some (.int .i64 bboot) := (cell_of n2 0).trans rfl
  have j1 : W.cell? ⟨w.heap.size + 1, 1, none⟩ = some (.int .i64 blsn) := (cell_of n2 1).trans rfl
  have j2 : W.cell? ⟨w.heap.size + 1, 2, none⟩ = some (.int .i64 bpart) := (cell_of n2 2).trans rfl
  have j3 : W.cell? ⟨w.heap.size + 1, 3, none⟩ = some (.int .i64 bparts) := (cell_of n2 3).trans rfl
  have j4 : W.cell? ⟨w.heap.size + 1, 4, none⟩ = some (.int .u8 bkind) := (cell_of n2 4).trans rfl
  have j5 : W.cell? ⟨w.heap.size + 1, 5, none⟩ = some (.string (S bd)) := (cell_of n2 5).trans rfl
  clear n1 n2 n3 h0 h1 h2 h0' h1' h2' _h0 _h1 _h2
  refine (fEncode_any aboot alsn apart aparts akind ad W hka).mono ?_
  rintro e w1 ⟨rfl, b1⟩
  replace k0 := below_cell b1 k0
  replace k1 := below_cell b1 k1
  replace k2 := below_cell b1 k2
  replace k3 := below_cell b1 k3
  replace k4 := below_cell b1 k4
  replace k5 := below_cell b1 k5
  replace j0 := below_cell b1 j0
  replace j1 := below_cell b1 j1
  replace j2 := below_cell b1 j2
  replace j3 := below_cell b1 j3
  replace j4 := below_cell b1 j4
  replace j5 := below_cell b1 j5
  have HB1 := Lib.hid (below_step b1 n4 (Nat.le_refl _))
  clear b1 n4
  obtain ⟨⟨xa, ea⟩, hra⟩ : ∃ r, fencOf aboot alsn apart aparts akind ad = r := ⟨_, rfl⟩
  rw [hra]
  go_wp2_with (fail)
  refine (fEncode_any bboot blsn bpart bparts bkind bd w1 hkb).mono ?_
  rintro e w2 ⟨rfl, b2⟩
  replace k0 := below_cell b2 k0
  replace k1 := below_cell b2 k1
  replace k2 := below_cell b2 k2
  replace k3 := below_cell b2 k3
  replace k4 := below_cell b2 k4
  replace k5 := below_cell b2 k5
  replace j0 := below_cell b2 j0
  replace j1 := below_cell b2 j1
  replace j2 := below_cell b2 j2
  replace j3 := below_cell b2 j3
  replace j4 := below_cell b2 j4
  replace j5 := below_cell b2 j5
  have HB2 := Lib.hid (below_step b2 HB1.out (Nat.le_refl _))
  clear b2 HB1
  obtain ⟨⟨xb, eb⟩, hrb⟩ : ∃ r, fencOf bboot blsn bpart bparts bkind bd = r := ⟨_, rfl⟩
  rw [hrb]
  rcases fenc_split aboot alsn apart aparts akind ad hka with ⟨A, okA, rfl, rfl, rfl, rfl, rfl, rfl, he⟩ | ⟨e, he0, he⟩
  · rw [he] at hra
    cases hra
    have OKA := Lib.hid okA
    clear okA he
    rcases fenc_split bboot blsn bpart bparts bkind bd hkb with ⟨B, okB, rfl, rfl, rfl, rfl, rfl, rfl, he⟩ | ⟨e, he0, he⟩
    · rw [he] at hrb
      cases hrb
      have OKB := Lib.hid okB
      clear okB he
      by_cases hAB : A = B
      · subst hAB
        go_wp2_with (fail)
        refine (fDecode_any A.sec _).mono ?_
        rw [fdecVal_some (fdecodeOf_sec OKA.out)]
        unfold Frm.val
        rintro e w3 ⟨rfl, b3⟩
        replace k0 := below_cell b3 k0
        replace k1 := below_cell b3 k1
        replace k2 := below_cell b3 k2
        replace k3 := below_cell b3 k3
        replace k4 := below_cell b3 k4
        replace k5 := below_cell b3 k5
        replace j0 := below_cell b3 j0
        replace j1 := below_cell b3 j1
        replace j2 := below_cell b3 j2
        replace j3 := below_cell b3 j3
        replace j4 := below_cell b3 j4
        replace j5 := below_cell b3 j5
        have HX := Lib.hid (below_step (alloc_below w3 (.cells #[.int .i64 A.boot, .int .i64 A.lsn, .int .i64 A.part, .int .i64 A.parts, .int .u8 A.kind, .string (S A.data)] 40)) (below_step b3 HB2.out (Nat.le_refl _)) (Nat.le_refl _))
        have q3 := alloc_new w3 (.cells #[.int .i64 A.boot, .int .i64 A.lsn, .int .i64 A.part, .int .i64 A.parts, .int .u8 A.kind, .string (S A.data)] 40)
        have hlt1 := World.block_lt_of_cell? _ _ k0
        have hlt2 := World.block_lt_of_cell? _ _ j0
        dsimp only at hlt1 hlt2
        clear b3
        go_wp2_with (fail)
        clear k0 k1 k2 k3 k4 k5 j0 j1 j2 j3 j4 j5 q3 hlt1 hlt2
        revert HX
        generalize w3.alloc (.cells #[.int .i64 A.boot, .int .i64 A.lsn, .int .i64 A.part, .int .i64 A.parts, .int .u8 A.kind, .string (S A.data)] 40) = X
        intro HX
        cases hdec : fdecodeOf l with
        | none =>
          refine (fDecode_any l _).mono ?_
          rw [fdecVal_none hdec]
          unfold zfrm
          rintro e v1 ⟨rfl, b4⟩
          have HV := Lib.hid (below_step (alloc_below v1 (.cells #[.int .i64 0, .int .i64 0, .int .i64 0, .int .i64 0, .int .u8 0, .string ⟨#[]⟩] 40)) (below_step b4 HX.out (Nat.le_refl _)) (Nat.le_refl _))
          clear b4 hdec
          go_wp2_with (go_at_call 28; refine (known05_any _).mono ?_; rintro e5 we ⟨rfl, b5⟩)
          go_ret
          exact ⟨rfl, below_step b5 HV.out (Nat.le_refl _)⟩
        | some c =>
          have hc := Lib.hid (fdecodeOf_some hdec)
          refine (fDecode_any l _).mono ?_
          rw [fdecVal_some hdec]
          unfold Frm.val
          rintro e v1 ⟨rfl, b4⟩
          have HV := Lib.hid (below_step (alloc_below v1 (.cells #[.int .i64 c.boot, .int .i64 c.lsn, .int .i64 c.part, .int .i64 c.parts, .int .u8 c.kind, .string (S c.data)] 40)) (below_step b4 HX.out (Nat.le_refl _)) (Nat.le_refl _))
          clear b4 hdec
          go_wp2_with (fail)
          refine (fEncode_ok c _ hc.out.1).mono ?_
          rw [hc.out.2]
          rintro e v2 ⟨rfl, b6⟩
          have HV2 := Lib.hid (below_step b6 HV.out (Nat.le_refl _))
          clear b6
          go_wp2_with (go_at_call 28; refine (known05_any _).mono ?_; rintro e5 we ⟨rfl, b5⟩)
          go_ret
          exact ⟨rfl, below_step b5 HV2.out (Nat.le_refl _)⟩
      · obtain ⟨hsec, hsec2⟩ := fsbeq_no (fun h : A.sec = B.sec => hAB (fsec_inj OKA.out OKB.out h))
        have hne := Frm.ne_cases hAB
        clear hAB
        rcases hne with h | ⟨e1, h⟩ | ⟨e1, e2, h⟩ | ⟨e1, e2, e3, h⟩ | ⟨e1, e2, e3, e4, h⟩ | ⟨e1, e2, e3, e4, e5, h⟩
        all_goals
          go_wp2_with (fail)
          refine (fDecode_any A.sec _).mono ?_
          rw [fdecVal_some (fdecodeOf_sec OKA.out)]
          unfold Frm.val
          rintro e w3 ⟨rfl, b3⟩
          replace k0 := below_cell b3 k0
          replace k1 := below_cell b3 k1
          replace k2 := below_cell b3 k2
          replace k3 := below_cell b3 k3
          replace k4 := below_cell b3 k4
          replace k5 := below_cell b3 k5
          replace j0 := below_cell b3 j0
          replace j1 := below_cell b3 j1
          replace j2 := below_cell b3 j2
          replace j3 := below_cell b3 j3
          replace j4 := below_cell b3 j4
          replace j5 := below_cell b3 j5
          have HX := Lib.hid (below_step (alloc_below w3 (.cells #[.int .i64 A.boot, .int .i64 A.lsn, .int .i64 A.part, .int .i64 A.parts, .int .u8 A.kind, .string (S A.data)] 40)) (below_step b3 HB2.out (Nat.le_refl _)) (Nat.le_refl _))
          have q3 := alloc_new w3 (.cells #[.int .i64 A.boot, .int .i64 A.lsn, .int .i64 A.part, .int .i64 A.parts, .int .u8 A.kind, .string (S A.data)] 40)
          have hlt1 := World.block_lt_of_cell? _ _ k0
          have hlt2 := World.block_lt_of_cell? _ _ j0
          dsimp only at hlt1 hlt2
          clear b3
          go_wp2_with (fail)
          clear k0 k1 k2 k3 k4 k5 j0 j1 j2 j3 j4 j5 q3 hlt1 hlt2
          revert HX
          generalize w3.alloc (.cells #[.int .i64 A.boot, .int .i64 A.lsn, .int .i64 A.part, .int .i64 A.parts, .int .u8 A.kind, .string (S A.data)] 40) = X
          intro HX
          cases hdec : fdecodeOf l with
          | none =>
            refine (fDecode_any l _).mono ?_
            rw [fdecVal_none hdec]
            unfold zfrm
            rintro e v1 ⟨rfl, b4⟩
            have HV := Lib.hid (below_step (alloc_below v1 (.cells #[.int .i64 0, .int .i64 0, .int .i64 0, .int .i64 0, .int .u8 0, .string ⟨#[]⟩] 40)) (below_step b4 HX.out (Nat.le_refl _)) (Nat.le_refl _))
            clear b4 hdec
            go_wp2_with (go_at_call 28; refine (known05_any _).mono ?_; rintro e5 we ⟨rfl, b5⟩)
            go_ret
            exact ⟨rfl, below_step b5 HV.out (Nat.le_refl _)⟩
          | some c =>
            have hc := Lib.hid (fdecodeOf_some hdec)
            refine (fDecode_any l _).mono ?_
            rw [fdecVal_some hdec]
            unfold Frm.val
            rintro e v1 ⟨rfl, b4⟩
            have HV := Lib.hid (below_step (alloc_below v1 (.cells #[.int .i64 c.boot, .int .i64 c.lsn, .int .i64 c.part, .int .i64 c.parts, .int .u8 c.kind, .string (S c.data)] 40)) (below_step b4 HX.out (Nat.le_refl _)) (Nat.le_refl _))
            clear b4 hdec
            go_wp2_with (fail)
            refine (fEncode_ok c _ hc.out.1).mono ?_
            rw [hc.out.2]
            rintro e v2 ⟨rfl, b6⟩
            have HV2 := Lib.hid (below_step b6 HV.out (Nat.le_refl _))
            clear b6
            go_wp2_with (go_at_call 28; refine (known05_any _).mono ?_; rintro e5 we ⟨rfl, b5⟩)
            go_ret
            exact ⟨rfl, below_step b5 HV2.out (Nat.le_refl _)⟩
    · rw [he] at hrb
      cases hrb
      clear he
      go_wp2_with (fail)
      refine (fDecode_any A.sec _).mono ?_
      rw [fdecVal_some (fdecodeOf_sec OKA.out)]
      unfold Frm.val
      rintro e w3 ⟨rfl, b3⟩
      replace k0 := below_cell b3 k0
      replace k1 := below_cell b3 k1
      replace k2 := below_cell b3 k2
      replace k3 := below_cell b3 k3
      replace k4 := below_cell b3 k4
      replace k5 := below_cell b3 k5
      replace j0 := below_cell b3 j0
      replace j1 := below_cell b3 j1
      replace j2 := below_cell b3 j2
      replace j3 := below_cell b3 j3
      replace j4 := below_cell b3 j4
      replace j5 := below_cell b3 j5
      have HX := Lib.hid (below_step (alloc_below w3 (.cells #[.int .i64 A.boot, .int .i64 A.lsn, .int .i64 A.part, .int .i64 A.parts, .int .u8 A.kind, .string (S A.data)] 40)) (below_step b3 HB2.out (Nat.le_refl _)) (Nat.le_refl _))
      have q3 := alloc_new w3 (.cells #[.int .i64 A.boot, .int .i64 A.lsn, .int .i64 A.part, .int .i64 A.parts, .int .u8 A.kind, .string (S A.data)] 40)
      have hlt1 := World.block_lt_of_cell? _ _ k0
      have hlt2 := World.block_lt_of_cell? _ _ j0
      dsimp only at hlt1 hlt2
      clear b3
      go_wp2_with (fail)
      clear k0 k1 k2 k3 k4 k5 j0 j1 j2 j3 j4 j5 q3 hlt1 hlt2
      revert HX
      generalize w3.alloc (.cells #[.int .i64 A.boot, .int .i64 A.lsn, .int .i64 A.part, .int .i64 A.parts, .int .u8 A.kind, .string (S A.data)] 40) = X
      intro HX
      cases hdec : fdecodeOf l with
      | none =>
        refine (fDecode_any l _).mono ?_
        rw [fdecVal_none hdec]
        unfold zfrm
        rintro e v1 ⟨rfl, b4⟩
        have HV := Lib.hid (below_step (alloc_below v1 (.cells #[.int .i64 0, .int .i64 0, .int .i64 0, .int .i64 0, .int .u8 0, .string ⟨#[]⟩] 40)) (below_step b4 HX.out (Nat.le_refl _)) (Nat.le_refl _))
        clear b4 hdec
        go_wp2_with (go_at_call 28; refine (known05_any _).mono ?_; rintro e5 we ⟨rfl, b5⟩)
        go_ret
        exact ⟨rfl, below_step b5 HV.out (Nat.le_refl _)⟩
      | some c =>
        have hc := Lib.hid (fdecodeOf_some hdec)
        refine (fDecode_any l _).mono ?_
        rw [fdecVal_some hdec]
        unfold Frm.val
        rintro e v1 ⟨rfl, b4⟩
        have HV := Lib.hid (below_step (alloc_below v1 (.cells #[.int .i64 c.boot, .int .i64 c.lsn, .int .i64 c.part, .int .i64 c.parts, .int .u8 c.kind, .string (S c.data)] 40)) (below_step b4 HX.out (Nat.le_refl _)) (Nat.le_refl _))
        clear b4 hdec
        go_wp2_with (fail)
        refine (fEncode_ok c _ hc.out.1).mono ?_
        rw [hc.out.2]
        rintro e v2 ⟨rfl, b6⟩
        have HV2 := Lib.hid (below_step b6 HV.out (Nat.le_refl _))
        clear b6
        go_wp2_with (go_at_call 28; refine (known05_any _).mono ?_; rintro e5 we ⟨rfl, b5⟩)
        go_ret
        exact ⟨rfl, below_step b5 HV2.out (Nat.le_refl _)⟩
  · rw [he] at hra
    cases hra
    clear he
    rcases fenc_split bboot blsn bpart bparts bkind bd hkb with ⟨B, okB, rfl, rfl, rfl, rfl, rfl, rfl, he⟩ | ⟨e, he0, he⟩
    · rw [he] at hrb
      cases hrb
      clear okB he
      go_wp2_with (fail)
      have HX := HB2
      clear k0 k1 k2 k3 k4 k5 j0 j1 j2 j3 j4 j5
      cases hdec : fdecodeOf l with
      | none =>
        refine (fDecode_any l _).mono ?_
        rw [fdecVal_none hdec]
        unfold zfrm
        rintro e v1 ⟨rfl, b4⟩
        have HV := Lib.hid (below_step (alloc_below v1 (.cells #[.int .i64 0, .int .i64 0, .int .i64 0, .int .i64 0, .int .u8 0, .string ⟨#[]⟩] 40)) (below_step b4 HX.out (Nat.le_refl _)) (Nat.le_refl _))
        clear b4 hdec
        go_wp2_with (go_at_call 28; refine (known05_any _).mono ?_; rintro e5 we ⟨rfl, b5⟩)
        go_ret
        exact ⟨rfl, below_step b5 HV.out (Nat.le_refl _)⟩
      | some c =>
        have hc := Lib.hid (fdecodeOf_some hdec)
        refine (fDecode_any l _).mono ?_
        rw [fdecVal_some hdec]
        unfold Frm.val
        rintro e v1 ⟨rfl, b4⟩
        have HV := Lib.hid (below_step (alloc_below v1 (.cells #[.int .i64 c.boot, .int .i64 c.lsn, .int .i64 c.part, .int .i64 c.parts, .int .u8 c.kind, .string (S c.data)] 40)) (below_step b4 HX.out (Nat.le_refl _)) (Nat.le_refl _))
        clear b4 hdec
        go_wp2_with (fail)
        refine (fEncode_ok c _ hc.out.1).mono ?_
        rw [hc.out.2]
        rintro e v2 ⟨rfl, b6⟩
        have HV2 := Lib.hid (below_step b6 HV.out (Nat.le_refl _))
        clear b6
        go_wp2_with (go_at_call 28; refine (known05_any _).mono ?_; rintro e5 we ⟨rfl, b5⟩)
        go_ret
        exact ⟨rfl, below_step b5 HV2.out (Nat.le_refl _)⟩
    · rw [he] at hrb
      cases hrb
      clear he
      go_wp2_with (fail)
      have HX := HB2
      clear k0 k1 k2 k3 k4 k5 j0 j1 j2 j3 j4 j5
      cases hdec : fdecodeOf l with
      | none =>
        refine (fDecode_any l _).mono ?_
        rw [fdecVal_none hdec]
        unfold zfrm
        rintro e v1 ⟨rfl, b4⟩
        have HV := Lib.hid (below_step (alloc_below v1 (.cells #[.int .i64 0, .int .i64 0, .int .i64 0, .int .i64 0, .int .u8 0, .string ⟨#[]⟩] 40)) (below_step b4 HX.out (Nat.le_refl _)) (Nat.le_refl _))
        clear b4 hdec
        go_wp2_with (go_at_call 28; refine (known05_any _).mono ?_; rintro e5 we ⟨rfl, b5⟩)
        go_ret
        exact ⟨rfl, below_step b5 HV.out (Nat.le_refl _)⟩
      | some c =>
        have hc := Lib.hid (fdecodeOf_some hdec)
        refine (fDecode_any l _).mono ?_
        rw [fdecVal_some hdec]
        unfold Frm.val
        rintro e v1 ⟨rfl, b4⟩
        have HV := Lib.hid (below_step (alloc_below v1 (.cells #[.int .i64 c.boot, .int .i64 c.lsn, .int .i64 c.part, .int .i64 c.parts, .int .u8 c.kind, .string (S c.data)] 40)) (below_step b4 HX.out (Nat.le_refl _)) (Nat.le_refl _))
        clear b4 hdec
        go_wp2_with (fail)
        refine (fEncode_ok c _ hc.out.1).mono ?_
        rw [hc.out.2]
        rintro e v2 ⟨rfl, b6⟩
        have HV2 := Lib.hid (below_step b6 HV.out (Nat.le_refl _))
        clear b6
        go_wp2_with (go_at_call 28; refine (known05_any _).mono ?_; rintro e5 we ⟨rfl, b5⟩)
        go_ret
        exact ⟨rfl, below_step b5 HV2.out (Nat.le_refl _)⟩
end Go.Proofs.Ytcdpgkefdnmkeaa
