/- BlockSplits. -/
import Derived.Test.YtgnhpbolmfbngaaSplitAll
import Derived.Test.YtgnhpbolmfbngaaRef24
import Derived.Test.YtgnhpbolmfbngaaKnown24
namespace Go.Proofs.Ytgnhpbolmfbngaa
open Go.RowKit Go.ChangeMaps

theorem err_ok {b : IB} (h : b.d.length ≤ 36) : (BOk b.life b.boot b.n b.off b.d ∧ b.err = 0) ∨ (¬ BOk b.life b.boot b.n b.off b.d ∧ b.err = 2) := by
  unfold IB.err encOf BOk
  rw [if_neg (by omega)]
  by_cases hc : 0 ≤ b.life ∧ b.life ≤ 4294967295 ∧ 0 ≤ b.n ∧ b.n ≤ 4294967295 ∧ 1 ≤ b.boot ∧ b.boot ≤ 4294967295 ∧ 0 ≤ b.off ∧ b.off ≤ 281474976710655 ∧ 1 ≤ b.d.length
  · exact .inl ⟨hc, by rw [if_pos hc]⟩
  · exact .inr ⟨hc, by rw [if_neg hc]⟩
theorem rCheck_any (b : IB) (h : b.d.length ≤ 36) (w : World) : Calls Try.prog 45 #[bval b.life b.boot b.n b.off b.d] w fun e w' => e = .returned (.int .i64 b.err) ∧ Below w.heap.size w w' := by
  rcases err_ok h with ⟨ok, e⟩ | ⟨bad, e⟩
  · rw [e]; exact rCheck_ok _ _ _ _ _ w h ok
  · rw [e]; exact rCheck_arg _ _ _ _ _ w h bad
set_option maxRecDepth 100000 in
set_option maxHeartbeats 4000000 in
theorem rsplit_any (life boot n off : Int) (t : List UInt8) (ht : t.length ≤ 256) (w : World) :
    Calls Try.prog 14 #[.int .i64 life, .int .i64 boot, .int .i64 n, .int .i64 off, .string (S t)] w (SplitR w life boot n off t) := by
  have hti : ¬ (256 : Int) < (t.length : Int) := by omega
  obtain ⟨K, hK⟩ : ∃ K, npieces t = K := ⟨_, rfl⟩
  have HK := Lib.hid hK
  have hK8 : K ≤ 8 := by rw [← hK]; unfold npieces; omega
  have HKT : Hid (∀ k, 36 * k < t.length ↔ k < K) := by unfold Hid; intro k; rw [← hK]; unfold npieces; omega
  clear hK
  have htl : (t.length : Int) ≤ 256 := by omega
  go_enter Try.func14, Try.ntmps14
  go_wp2_with (fail)
  go_loopw [12, 13, 14] (fun v12 v13 _ wr => ∃ k a : Nat, Hid (a = 36 * k) ∧ k ≤ K ∧ v13 = .int .i64 a ∧ Hid (∀ j, j < k → (splitB life boot n off t j).err = 0) ∧ Hid (wr.ownsRow 0 31 5 v12 k (icells (splitL life boot n off t k))) ∧ Hid (Below w.heap.size w wr) ∧ Hid (∀ j, v12.ownBlock = some j → w.heap.size ≤ j)) (fun _ v13 _ _ => 36 * K - (intOf v13).toNat)
  case atStart => exact ⟨0, 0, rfl, Nat.zero_le _, rfl, fun j hj => absurd hj (by omega), World.ownsRow_nil _ _ _ _, .refl _ _, fun j hj => by simp [Value.ownBlock] at hj⟩
  case round =>
    obtain ⟨k, a, hak, hk, rfl, hE, hR, hB, hN⟩ := hrel
    obtain ⟨A0, cap0, rfl⟩ := ownsRow_is hR.out
    by_cases hlt : a < t.length
    · have hkK : k < K := (HKT.out k).1 (by have := hak.out; omega)
      have HKK := Lib.hid hkK
      have hai : (a : Int) ≤ 256 := by omega
      obtain ⟨e, he⟩ : ∃ e : Nat, min (a + 36) t.length = e := ⟨_, rfl⟩
      have hmin : min ((a : Int) + 36) (t.length : Int) = (e : Int) := by omega
      have hae : a ≤ e := by omega
      have hel : e ≤ t.length := by omega
      have hx : (S t).extract a e = S (pieceAt t k) := by
        rw [S_extract]
        congr 1
        unfold pieceAt
        rw [← hak.out]
        by_cases hc : a + 36 ≤ t.length
        · rw [show e = a + 36 by omega]
        · rw [show e = t.length by omega, List.take_of_length_le (Nat.le_refl _), List.take_of_length_le (by omega)]
      clear hkK he
      have hEQ : Hid (icells (splitL life boot n off t (k + 1)) = icells (splitL life boot n off t k) ++ [.int .i64 life, .int .i64 boot, .int .i64 (wrap64 (n + (k : Int))), .int .i64 (wrap64 (off + (a : Int))), .string (S (pieceAt t k))]) := by
        unfold Hid
        rw [splitL_succ, icells_snoc, hak.out]
        rfl
      obtain ⟨b, hb⟩ : ∃ b : IB, b = ⟨life, boot, wrap64 (n + (k : Int)), wrap64 (off + (a : Int)), pieceAt t k⟩ := ⟨_, rfl⟩
      have HBE : Hid (b.err = (splitB life boot n off t k).err) := by unfold Hid splitB; rw [hb, hak.out]
      have hc := fun W => rCheck_any b (by rw [hb]; exact pieceAt_len t k) W
      have hcs := err_cases b (by rw [hb]; exact pieceAt_len t k)
      obtain ⟨er, her⟩ : ∃ er, b.err = er := ⟨_, rfl⟩
      rw [her] at hc hcs HBE
      rw [hb] at hc
      dsimp only at hc
      unfold bval at hc
      have HC := Lib.hid hc
      clear hc hb her
      go_wp2_with (fail)
      have m9 := alloc_new wr (.cells #[.int .i64 life, .int .i64 boot, .int .i64 (wrap64 (n + (k : Int))), .int .i64 (wrap64 (off + (a : Int))), .string (S (pieceAt t k))] 31)
      have b9 := alloc_below wr (.cells #[.int .i64 life, .int .i64 boot, .int .i64 (wrap64 (n + (k : Int))), .int .i64 (wrap64 (off + (a : Int))), .string (S (pieceAt t k))] 31)
      generalize wr.alloc (.cells #[.int .i64 life, .int .i64 boot, .int .i64 (wrap64 (n + (k : Int))), .int .i64 (wrap64 (off + (a : Int))), .string (S (pieceAt t k))] 31) = X at m9 b9 ⊢
      refine (HC.out X).mono ?_
      rintro e2 w2 ⟨rfl, bb⟩
      have HM := Lib.hid ((bb.block _ (Array.getElem?_eq_some_iff.1 m9).1).trans m9)
      have HBX := Lib.hid (below_step bb b9 (Nat.le_refl _))
      have c0 : w2.cell? ⟨wr.heap.size, 0, none⟩ = some (.int .i64 life) := (cell_of HM.out 0).trans rfl
      have c1 : w2.cell? ⟨wr.heap.size, 1, none⟩ = some (.int .i64 boot) := (cell_of HM.out 1).trans rfl
      have c2 : w2.cell? ⟨wr.heap.size, 2, none⟩ = some (.int .i64 (wrap64 (n + (k : Int)))) := (cell_of HM.out 2).trans rfl
      have c3 : w2.cell? ⟨wr.heap.size, 3, none⟩ = some (.int .i64 (wrap64 (off + (a : Int)))) := (cell_of HM.out 3).trans rfl
      have c4 : w2.cell? ⟨wr.heap.size, 4, none⟩ = some (.string (S (pieceAt t k))) := (cell_of HM.out 4).trans rfl
      clear m9 b9 bb HC
      rcases hcs with rfl | rfl
      · have n7 := alloc_new w2 (.cells #[.int .i64 life, .int .i64 boot, .int .i64 (wrap64 (n + (k : Int))), .int .i64 (wrap64 (off + (a : Int))), .string (S (pieceAt t k))] 31)
        have b7 := alloc_below w2 (.cells #[.int .i64 life, .int .i64 boot, .int .i64 (wrap64 (n + (k : Int))), .int .i64 (wrap64 (off + (a : Int))), .string (S (pieceAt t k))] 31)
        have b67 : Below _ _ (w2.alloc (.cells #[.int .i64 life, .int .i64 boot, .int .i64 (wrap64 (n + (k : Int))), .int .i64 (wrap64 (off + (a : Int))), .string (S (pieceAt t k))] 31)) := below_step b7 HBX.out (Nat.le_refl _)
        have ho7 := row_keeps (S := fun _ => False) hR.out (.of_below b67) (fun _ _ => id)
        have hk8 : k ≤ 8 := by omega
        obtain ⟨v', w8, hrun, hown, hgr, hat⟩ := append_run (P := Try.prog) _ 23 23 31 (.agg #[.int .i64 0, .int .i64 0, .int .i64 0, .int .i64 0, .string ⟨#[]⟩]) 5 48 Try.underlying23 (by kernel_rfl) rfl (by decide) (.slice A0 k cap0) k _ ho7
          ⟨w2.heap.size, 0, none⟩ 1 1 [.int .i64 life, .int .i64 boot, .int .i64 (wrap64 (n + (k : Int))), .int .i64 (wrap64 (off + (a : Int))), .string (S (pieceAt t k))] rfl (fun j u hu => by rw [cell_at n7, Nat.zero_add]; simpa using hu) (fun u hu => by simp at hu; rcases hu with rfl | rfl | rfl | rfl | rfl <;> rfl) (by unfold maxLen; omega) (by omega)
        obtain ⟨A', cap', rfl⟩ := ownsRow_is hown
        have HB8 := Lib.hid (grown_below (below_step b67 hB.out (Nat.le_refl _)) hgr (Nat.le_trans hB.out.size b67.size) hN.out)
        have HF8 : Hid (∀ j, (Value.slice A' (k + 1) cap').ownBlock = some j → w.heap.size ≤ j) := fun j hj => by
          rcases hat with hat | hat
          · exact hN.out j (hat.symm.trans hj)
          · rw [hat] at hj
            injection hj with hj
            have h1 := hB.out.size
            have h2 := b67.size
            omega
        have HO8 : Hid (w8.ownsRow 0 31 5 (.slice A' (k + 1) cap') (k + 1) (icells (splitL life boot n off t (k + 1)))) := by
          unfold Hid
          rw [hEQ.out]
          exact hown
        have HRUN := Lib.hid hrun
        clear hrun n7 b7 hgr hat hown b67 ho7 hEQ
        go_wp2_with (at_builtin; refine wpList_append_eq rfl (.tmp 45) (.tmp 47) 23 rfl _ _ rfl rfl _ _ HRUN.out ?_)
        go_roundw
        case rel => exact ⟨k + 1, a + 36, by have := hak.out; unfold Hid; omega, HKK.out, by go_num, fun j hj => by
          by_cases hjk : j = k
          · subst hjk
            exact HBE.out.symm
          · exact hE.out j (by omega), HO8, HB8, HF8⟩
        case measure => simp [intOf]; have := hak.out; have := HKK.out; omega
      · have HBF := Lib.hid (below_step HBX.out hB.out (Nat.le_refl _))
        go_wp2_with (fail)
        go_ret2
        exact .inr ⟨⟨k, by rw [HK.out]; exact HKK.out, HBE.out.symm⟩, rfl, HBF.out⟩
    · have hke : k = K := by
        have h1 := hak.out
        have h2 : ¬ k < K := fun h => by have := (HKT.out k).2 h; omega
        omega
      have HKE := Lib.hid hke
      clear hke
      go_wp2_with (fail)
      go_ret2
      refine .inl ⟨_, fun j hj => hE.out j (by rw [HKE.out, ← HK.out]; exact hj), rfl, ?_, hB.out, hN.out⟩
      rw [HK.out, ← HKE.out]
      exact hR.out
set_option maxRecDepth 100000 in
set_option maxHeartbeats 4000000 in
theorem eqBlocks_same (u v : Value) (K : Nat) (L : List IB) (hK : K ≤ 100) (w : World) (h1 : w.ownsRow 0 31 5 u K (icells L)) (h2 : w.ownsRow 0 31 5 v K (icells L)) :
    Calls Try.prog 15 #[u, v] w fun e w' => e = .returned (.bool true) ∧ Below w.heap.size w w' := by
  have hlen := h1.1
  rw [icells_length] at hlen
  have hLK : L.length = K := by omega
  obtain ⟨A, cap, rfl⟩ := ownsRow_is h1
  obtain ⟨B, cap2, rfl⟩ := ownsRow_is h2
  have H1 := Lib.hid h1
  have H2 := Lib.hid h2
  have HL := Lib.hid hLK
  have hKi : (K : Int) ≤ 100 := by omega
  clear h1 h2 hlen hLK
  go_enter Try.func15, Try.ntmps15
  go_wp2_with (fail)
  go_loopw [5] (fun v5 wr => ∃ i : Nat, i ≤ K ∧ v5 = .int .i64 i ∧ Hid (Below w.heap.size w wr)) (fun v5 _ => K - (intOf v5).toNat)
  case atStart => exact ⟨0, Nat.zero_le _, rfl, .refl _ _⟩
  case round =>
    obtain ⟨i, hi, rfl, hB⟩ := hrel
    by_cases hlt : i < K
    · have r1 := row_keeps (S := fun _ => False) H1.out (.of_below hB.out) (fun _ _ => id)
      have r2 := row_keeps (S := fun _ => False) H2.out (.of_below hB.out) (fun _ _ => id)
      obtain ⟨b, hb⟩ : ∃ b, L[i]? = some b := ⟨_, List.getElem?_eq_getElem (by rw [HL.out]; exact hlt)⟩
      obtain ⟨g, q, hv, z0, z0', z1, z2, z3, z4⟩ := irow_at r1 hb
      obtain ⟨rfl, -, rfl⟩ : A = some ⟨g, 0, none⟩ ∧ K = K ∧ cap = q := by injection hv with a b c; exact ⟨a, rfl, c⟩
      obtain ⟨g2, q2, hv2, y0, y0', y1, y2, y3, y4⟩ := irow_at r2 hb
      obtain ⟨rfl, -, rfl⟩ : B = some ⟨g2, 0, none⟩ ∧ K = K ∧ cap2 = q2 := by injection hv2 with a b c; exact ⟨a, rfl, c⟩
      have HB2 := Lib.hid hB.out.drew
      clear r1 r2 hv hv2 hb
      go_wp2_with (fail)
      go_region
      go_wp2_with (fail)
      go_roundw
      case rel => exact ⟨i + 1, by omega, by go_num, HB2⟩
      case measure => simp [intOf]; omega
    · obtain rfl : K = i := by omega
      go_wp2_with (fail)
      go_ret
      exact ⟨rfl, hB.out⟩
set_option maxRecDepth 100000 in
set_option maxHeartbeats 2000000 in
theorem split_long (life boot n off : Int) (t : List UInt8) (ht : 256 < t.length) (w : World) :
    Calls Try.prog 13 #[.int .i64 life, .int .i64 boot, .int .i64 n, .int .i64 off, .string (S t)] w fun e w' => e = .returned (.tuple #[.slice none 0 0, .int .i64 5]) ∧ Below w.heap.size w w' := by
  obtain ⟨n0, n1, n2, n3, n4, n5⟩ := four_new w (.cells #[.int .i64 life] 3) (.cells #[.int .i64 boot] 3) (.cells #[.int .i64 n] 3) (.cells #[.int .i64 off] 3)
  have hti : (256 : Int) < (t.length : Int) := by omega
  have HB := Lib.hid n5
  clear n0 n1 n2 n3 n4 n5
  go_enter Try.func13, Try.ntmps13
  go_wp2_with (fail)
  go_ret2
  exact ⟨rfl, HB.out⟩
set_option maxRecDepth 100000 in
set_option maxHeartbeats 2000000 in
theorem rsplit_long (life boot n off : Int) (t : List UInt8) (ht : 256 < t.length) (w : World) :
    Calls Try.prog 14 #[.int .i64 life, .int .i64 boot, .int .i64 n, .int .i64 off, .string (S t)] w fun e w' => e = .returned (.tuple #[.slice none 0 0, .int .i64 5]) ∧ Below w.heap.size w w' := by
  have hti : (256 : Int) < (t.length : Int) := by omega
  go_enter Try.func14, Try.ntmps14
  go_wp2_with (fail)
  go_ret2
  exact ⟨rfl, .refl _ _⟩
theorem nil_row (w : World) : w.ownsRow 0 31 5 (.slice none 0 0) 0 (icells []) := World.ownsRow_nil _ _ _ _
set_option maxRecDepth 100000 in
set_option maxHeartbeats 4000000 in
theorem blockSplits_any (life boot n off : Int) (a : ByteArray) (w : World) (_ha : a.size ≤ 140737488351232) :
    Calls Try.prog 3 #[.int .i64 life, .int .i64 boot, .int .i64 n, .int .i64 off, .string a] w fun e w' => e = .returned (.bool true) ∧ Below w.heap.size w w' := by
  obtain ⟨t, rfl⟩ : ∃ t, a = S t := ⟨a.data.toList, (S_of a).symm⟩
  clear _ha
  by_cases hl : 2000 < t.length
  · have hl' : (2000 : Int) < (t.length : Int) := by omega
    go_enter Try.func3, Try.ntmps3
    go_wp2_with (go_at_call 12; refine (known24_any _).mono ?_; rintro e5 we ⟨rfl, b5⟩)
    go_ret
    exact ⟨rfl, b5⟩
  have hl' : ¬ (2000 : Int) < (t.length : Int) := by omega
  by_cases h256 : 256 < t.length
  · have HL := Lib.hid h256
    clear h256 hl
    go_enter Try.func3, Try.ntmps3
    go_wp2_with (fail)
    refine (split_long life boot n off t HL.out w).mono ?_
    rintro e w1 ⟨rfl, b1⟩
    go_wp2_with (fail)
    refine (rsplit_long life boot n off t HL.out w1).mono ?_
    rintro e w2 ⟨rfl, b2⟩
    have HB2 := Lib.hid (below_step b2 b1 (Nat.le_refl _))
    clear b1 b2
    go_wp2_with (fail)
    refine (eqBlocks_same _ _ 0 [] (by omega) w2 (nil_row w2) (nil_row w2)).mono ?_
    rintro e w3 ⟨rfl, b3⟩
    have HB3 := Lib.hid (below_step b3 HB2.out (Nat.le_refl _))
    clear b3 HB2
    go_wp2_with (go_at_call 12; refine (known24_any _).mono ?_; rintro e5 we ⟨rfl, b5⟩)
    go_ret
    exact ⟨rfl, below_step b5 HB3.out (Nat.le_refl _)⟩
  have HL := Lib.hid (show t.length ≤ 256 by omega)
  have hK8 := Lib.hid (show npieces t ≤ 100 by unfold npieces; omega)
  clear h256 hl
  go_enter Try.func3, Try.ntmps3
  go_wp2_with (fail)
  refine (split_any life boot n off t HL.out w).mono ?_
  rintro e w1 hs
  rcases hs with ⟨u, ok, rfl, r1, b1, -⟩ | ⟨bad, rfl, b1⟩
  · go_wp2_with (fail)
    refine (rsplit_any life boot n off t HL.out w1).mono ?_
    rintro e w2 hs2
    rcases hs2 with ⟨v, -, rfl, r2, b2, -⟩ | ⟨⟨k, hk, he⟩, rfl, b2⟩
    · have r1' := row_keeps (S := fun _ => False) r1 (.of_below b2) (fun _ _ => id)
      have HB2 := Lib.hid (below_step b2 b1 (Nat.le_refl _))
      have R1 := Lib.hid r1'
      have R2 := Lib.hid r2
      obtain ⟨A, cap, rfl⟩ := ownsRow_is r1
      obtain ⟨B, cap2, rfl⟩ := ownsRow_is r2
      clear ok r1 r1' r2 b1 b2
      go_wp2_with (fail)
      refine (eqBlocks_same _ _ _ _ hK8.out w2 R1.out R2.out).mono ?_
      rintro e w3 ⟨rfl, b3⟩
      have HB3 := Lib.hid (below_step b3 HB2.out (Nat.le_refl _))
      clear b3 HB2 R1 R2
      go_wp2_with (go_at_call 12; refine (known24_any _).mono ?_; rintro e5 we ⟨rfl, b5⟩)
      go_ret
      exact ⟨rfl, below_step b5 HB3.out (Nat.le_refl _)⟩
    · rw [ok k hk] at he
      cases he
  · go_wp2_with (fail)
    refine (rsplit_any life boot n off t HL.out w1).mono ?_
    rintro e w2 hs2
    rcases hs2 with ⟨v, ok, -, -, -, -⟩ | ⟨-, rfl, b2⟩
    · obtain ⟨k, hk, he⟩ := bad
      rw [ok k hk] at he
      cases he
    · have HB2 := Lib.hid (below_step b2 b1 (Nat.le_refl _))
      clear b1 b2 bad
      go_wp2_with (fail)
      refine (eqBlocks_same _ _ 0 [] (by omega) w2 (nil_row w2) (nil_row w2)).mono ?_
      rintro e w3 ⟨rfl, b3⟩
      have HB3 := Lib.hid (below_step b3 HB2.out (Nat.le_refl _))
      clear b3 HB2
      go_wp2_with (go_at_call 12; refine (known24_any _).mono ?_; rintro e5 we ⟨rfl, b5⟩)
      go_ret
      exact ⟨rfl, below_step b5 HB3.out (Nat.le_refl _)⟩
theorem blockSplits_row (a0 a1 a2 a3 : Int) (a4 : ByteArray) (W : World) (_w0 : (Lit.int .i64 a0).wf = true) (_w1 : (Lit.int .i64 a1).wf = true) (_w2 : (Lit.int .i64 a2).wf = true) (_w3 : (Lit.int .i64 a3).wf = true) (w4 : a4.size ≤ 140737488351232) :
    Calls Try.prog 3 #[.int .i64 a0, .int .i64 a1, .int .i64 a2, .int .i64 a3, .string a4] W fun e w' => e = .returned (.bool true) ∧ Below W.heap.size W w' := blockSplits_any a0 a1 a2 a3 a4 W w4
end Go.Proofs.Ytgnhpbolmfbngaa
