/- sacristanlaw05.FrameOrder returns true, whatever its frames are, in every world. -/
import Derived.Test.YtcdpgkefdnmkeaaFrameBack
import Derived.Test.YtcdpgkefdnmkeaaOrder
import Derived.WalkLawsBesides
namespace Go.Proofs.Ytcdpgkefdnmkeaa
open Go.RowKit

theorem fless_cases (A B : Frm) (hless : Op.bytesLess A.sec B.sec = fless A B) (h : ¬ (A.boot = B.boot ∧ A.lsn = B.lsn ∧ A.part = B.part)) :
    (((A.boot : Int) == B.boot) = false ∧ ((A.boot : Int) != B.boot) = true ∧ ((A.lsn : Int) != B.lsn) = true ∧ Op.bytesLess A.sec B.sec = decide (A.boot < B.boot)) ∨
    (((A.boot : Int) == B.boot) = false ∧ ((A.boot : Int) != B.boot) = true ∧ ((A.lsn : Int) != B.lsn) = false ∧ Op.bytesLess A.sec B.sec = decide (A.boot < B.boot)) ∨
    (((A.boot : Int) == B.boot) = true ∧ ((A.boot : Int) != B.boot) = false ∧ ((A.lsn : Int) == B.lsn) = false ∧ ((A.lsn : Int) != B.lsn) = true ∧ Op.bytesLess A.sec B.sec = decide (A.lsn < B.lsn)) ∨
    (((A.boot : Int) == B.boot) = true ∧ ((A.boot : Int) != B.boot) = false ∧ ((A.lsn : Int) == B.lsn) = true ∧ ((A.lsn : Int) != B.lsn) = false ∧ ((A.part : Int) == B.part) = false ∧ Op.bytesLess A.sec B.sec = decide (A.part < B.part)) := by
  have hb : ∀ x y : Nat, x = y → ((x : Int) != y) = false := fun x y h => by rw [h]; exact bne_self_eq_false _
  have hn : ∀ x y : Nat, ¬ x = y → ((x : Int) != y) = true := fun x y h => bne_iff_ne.2 (fun e => h (by omega))
  have hb' : ∀ x y : Nat, x = y → ((x : Int) == y) = true := fun x y h => by rw [h]; exact beq_self_eq_true _
  have hn' : ∀ x y : Nat, ¬ x = y → ((x : Int) == y) = false := fun x y h => beq_eq_false_iff_ne.2 (fun e => h (by omega))
  rw [hless]
  unfold fless
  by_cases h1 : A.boot = B.boot
  · by_cases h2 : A.lsn = B.lsn
    · exact .inr (.inr (.inr ⟨hb' _ _ h1, hb _ _ h1, hb' _ _ h2, hb _ _ h2, hn' _ _ (fun e => h ⟨h1, h2, e⟩), by rw [if_neg (by omega), if_neg (by omega), if_neg (by omega), if_neg (by omega)]⟩))
    · refine .inr (.inr (.inl ⟨hb' _ _ h1, hb _ _ h1, hn' _ _ h2, hn _ _ h2, ?_⟩))
      rw [if_neg (by omega), if_neg (by omega)]
      by_cases h3 : A.lsn < B.lsn
      · rw [if_pos h3, decide_eq_true h3]
      · rw [if_neg h3, if_pos (by omega), decide_eq_false h3]
  · have e : (if A.boot < B.boot then true else if B.boot < A.boot then false else if A.lsn < B.lsn then true else if B.lsn < A.lsn then false else decide (A.part < B.part)) = decide (A.boot < B.boot) := by
      by_cases h3 : A.boot < B.boot
      · rw [if_pos h3, decide_eq_true h3]
      · rw [if_neg h3, if_pos (by omega), decide_eq_false h3]
    by_cases h2 : A.lsn = B.lsn
    · exact .inr (.inl ⟨hn' _ _ h1, hn _ _ h1, hb _ _ h2, e⟩)
    · exact .inl ⟨hn' _ _ h1, hn _ _ h1, hn _ _ h2, e⟩
set_option maxRecDepth 100000 in
set_option maxHeartbeats 8000000 in
theorem frameOrder_any (aboot alsn apart aparts akind : Int) (ad : List UInt8) (bboot blsn bpart bparts bkind : Int) (bd : List UInt8) (w : World) (hka : 0 ≤ akind ∧ akind < 256) (_h0 : ad.length ≤ 140737488351232) (hkb : 0 ≤ bkind ∧ bkind < 256) (_h1 : bd.length ≤ 140737488351232) :
    Calls Try.prog 12 #[.agg #[.int .i64 aboot, .int .i64 alsn, .int .i64 apart, .int .i64 aparts, .int .u8 akind, .string (S ad)], .agg #[.int .i64 bboot, .int .i64 blsn, .int .i64 bpart, .int .i64 bparts, .int .u8 bkind, .string (S bd)]] w fun e w' => e = .returned (.bool true) ∧ Below w.heap.size w w' := by
  obtain ⟨n1, n2, n3, n4⟩ := two_new w (.cells #[.int .i64 aboot, .int .i64 alsn, .int .i64 apart, .int .i64 aparts, .int .u8 akind, .string (S ad)] 40) (.cells #[.int .i64 bboot, .int .i64 blsn, .int .i64 bpart, .int .i64 bparts, .int .u8 bkind, .string (S bd)] 40)
  go_enter Try.func12, Try.ntmps12
  go_wp2_with (fail)
  generalize (w.alloc (.cells #[.int .i64 aboot, .int .i64 alsn, .int .i64 apart, .int .i64 aparts, .int .u8 akind, .string (S ad)] 40)).alloc (.cells #[.int .i64 bboot, .int .i64 blsn, .int .i64 bpart, .int .i64 bparts, .int .u8 bkind, .string (S bd)] 40) = W at n1 n2 n3 n4 ⊢
  have k0 : W.cell? ⟨w.heap.size, 0, none⟩ = some (.int .i64 aboot) := (cell_of n1 0).trans rfl
  have k1 : W.cell? ⟨w.heap.size, 1, none⟩ = some (.int .i64 alsn) := (cell_of n1 1).trans rfl
  have k2 : W.cell? ⟨w.heap.size, 2, none⟩ = some (.int .i64 apart) := (cell_of n1 2).trans rfl
  have k3 : W.cell? ⟨w.heap.size, 3, none⟩ = some (.int .i64 aparts) := (cell_of n1 3).trans rfl
  have k4 : W.cell? ⟨w.heap.size, 4, none⟩ = some (.int .u8 akind) := (cell_of n1 4).trans rfl
  have k5 : W.cell? ⟨w.heap.size, 5, none⟩ = some (.string (S ad)) := (cell_of n1 5).trans rfl
  have j0 : W.cell? ⟨w.heap.size + 1, 0, none⟩ = some (.int .i64 bboot) := (cell_of n2 0).trans rfl
  have j1 : W.cell? ⟨w.heap.size + 1, 1, none⟩ = some (.int .i64 blsn) := (cell_of n2 1).trans rfl
  have j2 : W.cell? ⟨w.heap.size + 1, 2, none⟩ = some (.int .i64 bpart) := (cell_of n2 2).trans rfl
  have j3 : W.cell? ⟨w.heap.size + 1, 3, none⟩ = some (.int .i64 bparts) := (cell_of n2 3).trans rfl
  have j4 : W.cell? ⟨w.heap.size + 1, 4, none⟩ = some (.int .u8 bkind) := (cell_of n2 4).trans rfl
  have j5 : W.cell? ⟨w.heap.size + 1, 5, none⟩ = some (.string (S bd)) := (cell_of n2 5).trans rfl
  clear n1 n2 n3 _h0 _h1
  refine (fEncode_any aboot alsn apart aparts akind ad W hka).mono ?_
  rintro e w1 ⟨rfl, b1⟩
  replace k0 := below_cell b1 k0
  replace k1 := below_cell b1 k1
  replace k2 := below_cell b1 k2
  replace k3 := below_cell b1 k3
  replace k4 := below_cell b1 k4
  replace k5 := below_cell b1 k5
  replace j0 := below_cell b1 j0
  replace j1 := below_cell b1 j1
  replace j2 := below_cell b1 j2
  replace j3 := below_cell b1 j3
  replace j4 := below_cell b1 j4
  replace j5 := below_cell b1 j5
  have HB1 := Lib.hid (below_step b1 n4 (Nat.le_refl _))
  clear b1 n4
  obtain ⟨⟨xa, ea⟩, hra⟩ : ∃ r, fencOf aboot alsn apart aparts akind ad = r := ⟨_, rfl⟩
  rw [hra]
  go_wp2_with (fail)
  refine (fEncode_any bboot blsn bpart bparts bkind bd w1 hkb).mono ?_
  rintro e w2 ⟨rfl, b2⟩
  replace k0 := below_cell b2 k0
  replace k1 := below_cell b2 k1
  replace k2 := below_cell b2 k2
  replace k3 := below_cell b2 k3
  replace k4 := below_cell b2 k4
  replace k5 := below_cell b2 k5
  replace j0 := below_cell b2 j0
  replace j1 := below_cell b2 j1
  replace j2 := below_cell b2 j2
  replace j3 := below_cell b2 j3
  replace j4 := below_cell b2 j4
  replace j5 := below_cell b2 j5
  have HB2 := Lib.hid (below_step b2 HB1.out (Nat.le_refl _))
  clear b2 HB1
  obtain ⟨⟨xb, eb⟩, hrb⟩ : ∃ r, fencOf bboot blsn bpart bparts bkind bd = r := ⟨_, rfl⟩
  rw [hrb]
  rcases fenc_split aboot alsn apart aparts akind ad hka with ⟨A, okA, rfl, rfl, rfl, rfl, rfl, rfl, he⟩ | ⟨e, he0, he⟩
  · rw [he] at hra
    cases hra
    have OKA := Lib.hid okA
    clear okA he
    rcases fenc_split bboot blsn bpart bparts bkind bd hkb with ⟨B, okB, rfl, rfl, rfl, rfl, rfl, rfl, he⟩ | ⟨e, he0, he⟩
    · rw [he] at hrb
      cases hrb
      have OKB := Lib.hid okB
      clear okB he
      by_cases hd' : A.boot = B.boot ∧ A.lsn = B.lsn ∧ A.part = B.part
      · obtain ⟨h1, h2, h3⟩ := hd'
        have e1 : ((A.boot : Int) == B.boot) = true := by rw [h1]; exact beq_self_eq_true _
        have e2 : ((A.lsn : Int) == B.lsn) = true := by rw [h2]; exact beq_self_eq_true _
        have e3 : ((A.part : Int) == B.part) = true := by rw [h3]; exact beq_self_eq_true _
        clear h1 h2 h3
        go_wp2_with (go_at_call 28; refine (known05_any _).mono ?_; rintro e5 we ⟨rfl, b5⟩)
        go_ret
        exact ⟨rfl, below_step b5 HB2.out (Nat.le_refl _)⟩
      · obtain ⟨hs1, hs2⟩ := fsbeq_no (sec_ne OKA.out OKB.out hd')
        have hcs := fless_cases A B (sec_less OKA.out OKB.out hd') hd'
        clear hd'
        rcases hcs with ⟨c0, c1, c2, c3⟩ | ⟨c0, c1, c2, c3⟩ | ⟨c0, c1, c2, c3, c4⟩ | ⟨c0, c1, c2, c3, c4, c5⟩
        all_goals
          go_wp2_with (go_at_call 28; refine (known05_any _).mono ?_; rintro e5 we ⟨rfl, b5⟩)
          go_ret
          exact ⟨rfl, below_step b5 HB2.out (Nat.le_refl _)⟩
    · rw [he] at hrb
      cases hrb
      have he0n : (eb != 0) = true := by rw [bne, he0]; rfl
      clear he
      go_wp2_with (go_at_call 28; refine (known05_any _).mono ?_; rintro e5 we ⟨rfl, b5⟩)
      go_ret
      exact ⟨rfl, below_step b5 HB2.out (Nat.le_refl _)⟩
  · rw [he] at hra
    cases hra
    have he0n : (ea != 0) = true := by rw [bne, he0]; rfl
    clear he
    go_wp2_with (go_at_call 28; refine (known05_any _).mono ?_; rintro e5 we ⟨rfl, b5⟩)
    go_ret
    exact ⟨rfl, below_step b5 HB2.out (Nat.le_refl _)⟩
end Go.Proofs.Ytcdpgkefdnmkeaa
