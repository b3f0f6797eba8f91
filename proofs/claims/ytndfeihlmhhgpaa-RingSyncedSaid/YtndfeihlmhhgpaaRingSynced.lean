/- sacristanlaw25.RingSynced returns true, whatever its numbers are and in every world. No conditions. -/
import Derived.Test.YtndfeihlmhhgpaaRingSync
import Derived.Test.YtndfeihlmhhgpaaKnown
import Derived.Test.YtndfeihlmhhgpaaWf
namespace Go.Proofs.Ytndfeihlmhhgpaa
open Go.RowKit Go.Proofs.YtndfeihlmhhgpaaW.PrintWords Go.Proofs.YtndfeihlmhhgpaaW.PrintLast Go.Proofs.YtndfeihlmhhgpaaW.PrintMore

/-- A block is missing: it is from m on, and its bit is 1. -/
def mis (missing : Int) (m k : Nat) : Bool := decide (m ≤ k) && (Go.bits .and .u64 (missing / 2 ^ (k - m)) 1 == 1)
theorem mis_ge {missing : Int} {m k : Nat} (h : mis missing m k = true) : m ≤ k := by
  unfold mis at h
  rw [Bool.and_eq_true] at h
  exact of_decide_eq_true h.1
theorem wrow_at (steps : Int) (a n i : Nat) (h : i < (wrow steps a n).length) : (wrow steps a n)[i] = wblock steps (a + i) := by
  have e : (wrow steps a n)[i]? = some (wblock steps (a + i)) := by
    unfold wrow at h ⊢
    rw [List.length_map, List.length_range'] at h
    rw [List.getElem?_map, List.getElem?_range' h]
    simp
  rw [List.getElem?_eq_getElem h] at e
  exact Option.some.inj e
/-- The start of the last file, and the first block that was not synced. -/
theorem sync_arith (n b s : Int) (h0 : 1 ≤ n) (h1 : n ≤ 60) (h2 : 1 ≤ b) (h3 : b ≤ 64) (_h4 : 0 ≤ s) (_h5 : s ≤ 255) :
    ∃ q st m : Nat, (n - 1) / b = q ∧ (q : Int) * b = st ∧ (st : Int) < n ∧ wrap64 ((st : Int) + s % (n - st + 1)) = m ∧ st ≤ m ∧ (m : Int) ≤ n ∧ (n - 1) / b * b = st := by
  have hd := Int.mul_ediv_add_emod (n - 1) b
  have hr0 := Int.emod_nonneg (n - 1) (by omega : b ≠ 0)
  rw [Int.mul_comm] at hd
  have hq0 : 0 ≤ (n - 1) / b := Int.ediv_nonneg (by omega) (by omega)
  have hqb : 0 ≤ (n - 1) / b * b := Int.mul_nonneg hq0 (by omega)
  obtain ⟨q, hq⟩ : ∃ q : Nat, (n - 1) / b = q := ⟨((n - 1) / b).toNat, by omega⟩
  rw [hq] at hd hq0 hqb
  obtain ⟨st, hst⟩ : ∃ st : Nat, (q : Int) * b = st := ⟨((q : Int) * b).toNat, by omega⟩
  rw [hst] at hd hqb
  have m0 := Int.emod_nonneg s (by omega : n - st + 1 ≠ 0)
  have m1 := Int.emod_lt_of_pos s (by omega : 0 < n - st + 1)
  refine ⟨q, st, ((st : Int) + s % (n - st + 1)).toNat, hq, hst, by omega, ?_, ?_, ?_, by rw [hq]; exact hst⟩
  · rw [w64 (by omega) (by omega)]; omega
  · omega
  · omega
set_option maxRecDepth 100000 in
set_option maxHeartbeats 2000000 in
theorem ringSynced_any (a0 a1 a2 a3 a4 a5 : Int) (w : World) (w0 : (Lit.int .u8 a0).wf = true) (w1 : (Lit.int .u8 a1).wf = true) (w2 : (Lit.int .u8 a2).wf = true) (w3 : (Lit.int .u8 a3).wf = true) (w4 : (Lit.int .u64 a4).wf = true) (w5 : (Lit.int .u64 a5).wf = true) :
    Calls Try.prog 4 #[.int .u8 a0, .int .u8 a1, .int .u8 a2, .int .u8 a3, .int .u64 a4, .int .u64 a5] w fun e w' => e = .returned (.bool true) ∧ Below w.heap.size w w' := by
  obtain ⟨u0, u1⟩ := of_u8 w0
  obtain ⟨u2, u3⟩ := of_u8 w1
  obtain ⟨u4, u5⟩ := of_u8 w2
  obtain ⟨u6, u7⟩ := of_u8 w3
  obtain ⟨u8_, u9⟩ := of_u64 w4
  obtain ⟨u10, u11⟩ := of_u64 w5
  obtain ⟨f0, hf0⟩ : ∃ x, a0.tmod 5 = x := ⟨_, rfl⟩
  obtain ⟨b0, hb0⟩ : ∃ x, a1.tmod 6 = x := ⟨_, rfl⟩
  have f1 : 0 ≤ f0 ∧ f0 ≤ 4 := by rw [Int.tmod_eq_emod_of_nonneg u0] at hf0; omega
  have b1 : 0 ≤ b0 ∧ b0 ≤ 5 := by rw [Int.tmod_eq_emod_of_nonneg u2] at hb0; omega
  obtain ⟨n0, hn0⟩ : ∃ x : Nat, a2.tmod 60 = x := ⟨(a2.tmod 60).toNat, by rw [Int.tmod_eq_emod_of_nonneg u4]; omega⟩
  have n01 : n0 ≤ 59 := by rw [Int.tmod_eq_emod_of_nonneg u4] at hn0; omega
  obtain ⟨f, hf⟩ : ∃ x, 2 + f0 = x := ⟨_, rfl⟩
  obtain ⟨b, hb⟩ : ∃ x, 1 + b0 = x := ⟨_, rfl⟩
  obtain ⟨n, hn⟩ : ∃ x : Nat, 1 + (n0 : Int) = x := ⟨1 + n0, by omega⟩
  obtain ⟨q1, q2⟩ : 2 ≤ f ∧ f ≤ 64 := by omega
  obtain ⟨q3, q4⟩ : 1 ≤ b ∧ b ≤ 64 := by omega
  obtain ⟨n1, n60⟩ : 1 ≤ n ∧ n ≤ 60 := by omega
  clear f1 b1 w0 w1 w2 w3 w4 w5
  obtain ⟨q, st, m, hq, hst, hstn, hm, hsm, hmn, hqb⟩ := sync_arith n b a3 (by omega) (by omega) q3 q4 u6 u7
  have C0 := Lib.hid (rcheck_in q1 q2 q3 q4 (by omega : (0 : Int) ≤ n) (by omega : (n : Int) ≤ 4294967295))
  obtain ⟨c, hc⟩ : ∃ c : Nat, rFirst f b n = c := ⟨(rFirst f b n).toNat, by unfold rFirst; split <;> omega⟩
  have n100 : n ≤ 100 := by omega
  have hcn : c ≤ n := first_le q1 q2 q3 q4 n100 hc
  have HC := Lib.hid hc
  have hmn' : m ≤ n := by omega
  have RS := Lib.hid (recover_synced q1 q2 q3 q4 a5 (mis a4 m) n1 n100 hc (by rw [hqb]; omega) hmn' (fun k hk => mis_ge hk))
  have HQB := Lib.hid hqb
  clear hc hqb
  go_enter Try.func4, Try.ntmps4
  go_wp2_with (go_at_call 16; refine (rFirst_any _ _ _ _).mono ?_; rw [HC.out, C0.out]; rintro e w' ⟨rfl, rfl⟩)
  refine (written_any _ _ c _ rfl u10 u11 n100 _).mono ?_
  rintro e1 wa ⟨v1, rfl, R1, B1⟩
  obtain ⟨A1, c1, rfl⟩ := Kd.R_slice R1
  go_wp2_with (fail)
  have hlw : (wrow a5 c n).length = n - c := by unfold wrow; rw [List.length_map, List.length_range']
  rw [hlw]
  have RL := Lib.hid (show leftOf (mis a4 m) a5 c 0 = [] from rfl)
  clear hq hst hsm hm hf0 hb0 hn0 hf hb hn hstn
  generalize hL : n - c = L at *
  go_loopw [21, 22, 23] (fun v21 v22 v23 wr => ∃ i : Nat, i ≤ L ∧ v23 = .int .i64 i ∧ v22 = .int .i64 (gapOf (mis a4 m) n c i) ∧ Kd.R PW.k29 29 wr wa.heap.size (fun _ => True) v21 (leftOf (mis a4 m) a5 c i) ∧ Below wa.heap.size wa wr) (fun _ _ v23 _ => L - (intOf v23).toNat)
  case atStart => exact ⟨0, by omega, rfl, rfl, Kd.R_nil _ _ _ _ _, Below.refl _ _⟩
  case round =>
    obtain ⟨i, hi, rfl, rfl, HR0, HB0⟩ := hrel
    have R1r := Kd.R_below R1 HB0
    have K1 := (Kd.R_reads' R1r).2.2
    have HR := Lib.hid HR0
    have HB := Lib.hid HB0
    clear HR0 HB0 R1r
    by_cases hlt : i < L
    · have hlt' : (i : Int) < (L : Int) := by omega
      obtain ⟨ad, rfl, r0, r1, r2, r3, r4⟩ := PW.at_T29 K1 (i : Int) (by omega) (by rw [hlw]; exact hlt')
      rw [rd_get _ i (by rw [hlw]; exact hlt), Int.toNat_natCast] at r0 r1 r2 r3 r4
      rw [wrow_at] at r0 r1 r2 r3 r4
      obtain ⟨D, hD⟩ : ∃ D, (wblock a5 (c + i)).f4 = D := ⟨_, rfl⟩
      obtain ⟨b1, hb1⟩ : ∃ x, wboot a5 (c + i + 1) = x := ⟨_, rfl⟩
      obtain ⟨o1, ho1⟩ : ∃ x, woff (c + i) = x := ⟨_, rfl⟩
      have hblk := Lib.hid (show wblock a5 (c + i) = ⟨7, b1, ((c + i : Nat) : Int), o1, D⟩ by rw [← hD, ← hb1, ← ho1]; rfl)
      rw [hblk.out] at r0 r1 r2 r3 r4
      clear hD hb1 ho1 K1
      dsimp only at r0 r1 r2 r3 r4
      obtain ⟨B, hB⟩ : ∃ B, Go.bits .and .u64 (a4 / 2 ^ (c + i - m)) 1 = B := ⟨_, rfl⟩
      have hgap := gap_le (mis a4 m) n c i
      have hcase : (Hid (mis a4 m (c + i) = true) ∧ (m : Int) ≤ ((c + i : Nat) : Int) ∧ B = 1) ∨ (Hid (mis a4 m (c + i) = false) ∧ (m : Int) ≤ ((c + i : Nat) : Int) ∧ ¬ B = 1) ∨ (Hid (mis a4 m (c + i) = false) ∧ ¬ (m : Int) ≤ ((c + i : Nat) : Int)) := by
        unfold mis
        rw [hB]
        by_cases h1 : m ≤ c + i
        · by_cases h2 : B = 1
          · exact .inl ⟨by unfold Hid; rw [decide_eq_true h1, h2]; rfl, by omega, h2⟩
          · exact .inr (.inl ⟨by unfold Hid; rw [beq_eq_false_iff_ne.2 h2, Bool.and_false], by omega, h2⟩)
        · exact .inr (.inr ⟨by unfold Hid; rw [decide_eq_false h1]; rfl, by omega⟩)
      have hns := Lib.hid (leftOf_succ (mis a4 m) a5 c i)
      have hng : Hid (gapOf (mis a4 m) n c (i + 1) = if mis a4 m (c + i) then min (gapOf (mis a4 m) n c i) (c + i) else gapOf (mis a4 m) n c i) := rfl
      obtain ⟨gp, hgp⟩ : ∃ x, gapOf (mis a4 m) n c i = x := ⟨_, rfl⟩
      have HGP := Lib.hid hgp
      rw [hgp] at hgap ⊢
      clear hgp
      rcases hcase with ⟨hX, hmk, rfl⟩ | hcase
      · go_wp2
        go_roundw
        case rel => exact ⟨i + 1, by omega, by rw [Int.natCast_add]; rfl, by rw [hng.out, hX.out, if_pos rfl, HGP.out]; congr 1; split <;> omega, by rw [hns.out, hX.out, if_pos rfl]; exact HR.out, HB.out⟩
        case measure => simp [intOf]; omega
      · have hlen := leftOf_len (mis a4 m) a5 c i
        have hX : Hid (mis a4 m (c + i) = false) := by rcases hcase with h | h <;> exact h.1
        have HLEN := Lib.hid (show ((leftOf (mis a4 m) a5 c i).length + 1) * 48 ≤ 140737488355328 by omega)
        clear hlen
        rcases hcase with ⟨_, hmk, hB1⟩ | ⟨_, hmk⟩
        all_goals
          go_wp2_with ((with_reducible refine gate_builtin (b := .append) (xs := #[.tmp 109, .tmp 114]) rfl ?_); at_builtin; refine Kd.R_append PW.k29 (w0 := wa) wa.heap.size rfl (.tmp 109) (.tmp 114) 26 29 (.agg #[(.int .i64 0), (.int .i64 0), (.int .i64 0), (.int .i64 0), (.string ⟨#[]⟩)]) 48 rfl Try.underlying26 PW.info29 rfl (by decide) (by omega) u21 (leftOf (mis a4 m) a5 c i) (⟨7, b1, ((c + i : Nat) : Int), o1, D⟩ : SB) [.int .i64 7, .int .i64 b1, .int .i64 ((c + i : Nat) : Int), .int .i64 o1, .string D] (fun _ => True) (fun _ => False) rfl (by first | (go_simp; done) | (go_simp; rfl)) ?aP (fun _ hk => hk.elim) ?aF ?aO ?aB ?aS ?aL ?_; (case aP => exact PW.k29_mkM _ _ _ (⟨7, b1, ((c + i : Nat) : Int), o1, D⟩ : SB)); (case aF => exact fun _ _ => trivial); (case aO => exact HR.out); (case aB => exact HB.out); (case aS => exact HB.out.size); (case aL => exact HLEN.out); intro v9 w9 hR9 hB9 _ _; have HR9 := Lib.hid hR9; have HB9 := Lib.hid hB9; clear hR9 hB9)
          go_roundw
          case rel => exact ⟨i + 1, by omega, by rw [Int.natCast_add]; rfl, by rw [hng.out, hX.out, if_neg (by decide), HGP.out], by rw [hns.out, hX.out, if_neg (by decide), hblk.out]; exact HR9.out, HB9.out⟩
          case measure => simp [intOf]; omega
    · obtain rfl : i = L := by omega
      have HR0 := HR.out
      have hsm := leftOf_small (X := mis a4 m) (steps := a5) (c := c) (i := i)
      have hll := leftOf_len (mis a4 m) a5 c i
      have hRS := RS.out
      obtain ⟨A9, c9, rfl⟩ := Kd.R_slice HR0
      have K9 := (Kd.R_reads' HR0).2.2
      have hbel := below_step HB.out B1 (Nat.le_refl _)
      clear HR0 RS HR HB K1 RL B1
      generalize leftOf (mis a4 m) a5 c i = l9 at *
      generalize gapOf (mis a4 m) n c i = gp at *
      have hl200 : l9.length ≤ 200 := by omega
      clear hll
      rcases hRS with ⟨rfl, hp, hg0⟩ | ⟨o, z, hp, hcg, hmg⟩
      · go_wp2_with (fail)
        refine (recover_W f b q1 q2 q3 q4 [] hl200 hsm hp A9 c9 _ K9).mono ?_
        rintro e4 wd ⟨rfl, B4⟩
        unfold Plc.val
        have hbel2 := below_step B4 hbel (Nat.le_refl _)
        have HB4 := below_step (alloc_below wd (.cells #[.int .i64 0, .int .i64 0, .int .i64 0, .int .i64 0] 31)) hbel2 (Nat.le_refl _)
        clear B4 hbel hbel2 K9 hp
        by_cases hgp : gp = 0
        · obtain rfl : m = 0 := hg0 hgp
          subst hgp
          clear hg0
          go_wp2_with (go_at_call 20; refine (known25_any _).mono ?_; rintro e5 we ⟨rfl, B5⟩)
          go_ret
          exact ⟨rfl, below_step B5 HB4 (Nat.le_refl _)⟩
        · clear hg0
          have hgp' : ¬ (0 : Int) = (gp : Int) := by omega
          go_wp2_with (go_at_call 20; refine (known25_any _).mono ?_; rintro e5 we ⟨rfl, B5⟩)
          go_ret
          exact ⟨rfl, below_step B5 HB4 (Nat.le_refl _)⟩
      · go_wp2_with (fail)
        refine (recover_W f b q1 q2 q3 q4 l9 hl200 hsm hp A9 c9 _ K9).mono ?_
        rintro e4 wd ⟨rfl, B4⟩
        unfold Plc.val
        have hbel2 := below_step B4 hbel (Nat.le_refl _)
        have HB4 := below_step (alloc_below wd (.cells #[.int .i64 c, .int .i64 gp, .int .i64 o, .int .i64 z] 31)) hbel2 (Nat.le_refl _)
        clear B4 hbel hbel2 K9 hp
        go_wp2_with (go_at_call 20; refine (known25_any _).mono ?_; rintro e5 we ⟨rfl, B5⟩)
        go_ret
        exact ⟨rfl, below_step B5 HB4 (Nat.le_refl _)⟩
end Go.Proofs.Ytndfeihlmhhgpaa
