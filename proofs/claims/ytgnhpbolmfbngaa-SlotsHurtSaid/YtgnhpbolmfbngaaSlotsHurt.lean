/- SlotsHurt. -/
import Derived.Test.YtgnhpbolmfbngaaHurtPure
import Derived.Lib.SmallJoins
namespace Go.Proofs.Ytgnhpbolmfbngaa
open Go.RowKit Go.ChangeMaps

theorem hurt_val (x : UInt8) {b : Nat} (_hb : b < 256) : ∃ V : UInt8, ¬ V = x ∧ Go.bits .xor .u8 (x.toNat : Int) (Go.bits .or .u8 (b : Int) 1) = (V.toNat : Int) := by
  have w8 : ∀ v : BitVec 8, IntKind.u8.wrap (v.toNat : Int) = (v.toNat : Int) := fun v => by
    have := v.isLt
    rw [IntKind.wrap_u8]
    omega
  obtain ⟨m, hm⟩ : ∃ m : BitVec 8, BitVec.ofInt 8 (b : Int) ||| BitVec.ofInt 8 1 = m := ⟨_, rfl⟩
  have h1 : Go.bits .or .u8 (b : Int) 1 = (m.toNat : Int) := by
    show IntKind.u8.wrap ((BitVec.ofInt 8 (b : Int) ||| BitVec.ofInt 8 1).toNat : Int) = _
    rw [hm, w8]
  have hbit : m.getLsbD 0 = true := by
    rw [← hm, BitVec.getLsbD_or]
    simp
  refine ⟨UInt8.ofBitVec (x.toBitVec ^^^ m), fun e => ?_, ?_⟩
  · have e2 := congrArg (fun z => z.toBitVec.getLsbD 0) e
    simp only [BitVec.getLsbD_xor, hbit] at e2
    simp at e2
  · rw [h1]
    show IntKind.u8.wrap ((BitVec.ofInt 8 (x.toNat : Int) ^^^ BitVec.ofInt 8 (m.toNat : Int)).toNat : Int) = _
    rw [w8]
    have e1 : BitVec.ofInt 8 (x.toNat : Int) = x.toBitVec := by
      rw [BitVec.ofInt_natCast]
      simp
    have e2 : BitVec.ofInt 8 (m.toNat : Int) = m := by
      rw [BitVec.ofInt_natCast]
      simp
    rw [e1, e2]
    rfl
theorem HurtInv.step' {D : Dk} {j : Nat} (h : HurtInv D (j - 1)) (h1 : 1 ≤ j) (hj : j ≤ 25) : HurtInv (D.write (j % 2) (hurtN j).sec).sync j := by
  obtain ⟨i, rfl⟩ : ∃ i, j = i + 1 := ⟨j - 1, by omega⟩
  exact HurtInv.step (by simpa using h) (by omega)
/-- The disk, its fuse, and what they share with nobody. -/
structure HSt (w wr : World) (d f m : Nat) (v : Value) (D : Dk) (z : Fz) : Prop where
  lab : Lab wr d f m v D z
  frm : From w.heap.size d f m v
  bel : Below w.heap.size w wr
theorem HSt.below {w wr w' : World} {d f m : Nat} {v : Value} {D : Dk} {z : Fz} (h : HSt w wr d f m v D z) (b : Below wr.heap.size wr w') : HSt w w' d f m v D z := ⟨h.lab.below b, h.frm, below_step b h.bel (Nat.le_refl _)⟩
theorem HSt.after {w wr w' : World} {d f m : Nat} {v : Value} {D D' : Dk} {z z' : Fz} (h : HSt w wr d f m v D z) (a : DAfter wr w' d f m v D' z') : ∃ v', HSt w w' d f m v' D' z' := by
  obtain ⟨v', h1, k1, n1⟩ := a.lab
  exact ⟨v', h1, h.frm.new n1 h.bel.size, h.frm.below h.bel h.bel.size k1⟩
set_option maxRecDepth 100000 in
set_option maxHeartbeats 20000000 in
theorem slotsHurt_any (cnt at_ bt : Nat) (hcn : cnt < 256) (hat : at_ < 256) (hbt : bt < 256) (w : World) :
    Calls Try.prog 8 #[.int .u8 cnt, .int .u8 at_, .int .u8 bt] w fun e w' => e = .returned (.bool true) ∧ Below w.heap.size w w' := by
  obtain ⟨n, hn⟩ : ∃ n, 2 + cnt % 19 = n := ⟨_, rfl⟩
  have hni : 2 + (cnt : Int) % 19 = (n : Int) := by omega
  have hn2 : 2 ≤ n ∧ n ≤ 20 := by omega
  have HN2 := Lib.hid hn2
  clear hn hn2
  go_enter Try.func8, Try.ntmps8
  go_wp2_with (fail)
  refine (fnew_any w).mono ?_
  rintro e w1 ⟨rfl, hw1⟩
  have HS1 := Lib.hid (show w1.heap.size = w.heap.size + 1 by rw [hw1]; exact alloc_size _ _)
  have HW1 := Lib.hid hw1
  clear hw1
  go_wp2_with (fail)
  refine (dnew_ok 2 w.heap.size w1 (by omega) (by omega) (by have := HS1.out; omega)).mono ?_
  rintro e w2 ⟨rfl, hd, hb⟩
  obtain ⟨h2, F2, B2⟩ := Lab.new HW1.out hd hb
  obtain ⟨d, hdd⟩ : ∃ d, w1.heap.size + 1 = d := ⟨_, rfl⟩
  obtain ⟨m, hmm⟩ : ∃ m, w1.heap.size = m := ⟨_, rfl⟩
  obtain ⟨f, hff⟩ : ∃ f, w.heap.size = f := ⟨_, rfl⟩
  have D2 : HSt w w2 (w1.heap.size + 1) w.heap.size w1.heap.size (.slice none 0 0) (Dk.new 2) .idle := ⟨h2, F2, B2⟩
  rw [hdd, hmm, show HSt w w2 d w.heap.size m (.slice none 0 0) (Dk.new 2) .idle = HSt w w2 d f m (.slice none 0 0) (Dk.new 2) .idle by rw [hff]] at D2
  have H2 := Lib.hid D2
  have HFF := Lib.hid hff
  rw [hdd]
  clear hd hb hdd hmm h2 F2 B2 D2 HW1 hff
  have hn20 : n ≤ 20 := HN2.out.2
  go_wp2_with (fail)
  go_loopw [10, 11, 12] (fun v10 _ _ wr => ∃ j : Nat, 1 ≤ j ∧ j ≤ n + 1 ∧ v10 = .int .i64 j ∧ ∃ v D, Hid (HurtInv D (j - 1)) ∧ Hid (HSt w wr d f m v D .idle)) (fun v10 _ _ _ => n + 1 - (intOf v10).toNat)
  case atStart => exact ⟨1, Nat.le_refl _, by omega, rfl, _, _, ⟨fun _ => rfl, fun h => absurd h (by decide), fun h => absurd h (by decide)⟩, H2⟩
  case round =>
    obtain ⟨j, hj1, hj, rfl, v, D, hI, hS⟩ := hrel
    by_cases hlt : j ≤ n
    · have hji : (j : Int) ≤ 20 := by omega
      have HV : Hid ((hurtN j).val = .agg #[.int .i64 ↑j, .int .i64 (↑j + 3), .int .i64 (↑j % 2), .int .i64 (5 * ↑j), .int .i64 ↑j]) := rfl
      have hc := sSave_ok d f m v D .idle (hurtN j) wr (hurtN_ok hj1 (by omega)) (by rw [hI.out.len.1]; omega) hS.out.lab.disk hS.out.lab.fuse (by rw [hI.out.len.2]; show 0 ≤ 999999; omega)
      rw [HV.out, show saveD D .idle (hurtN j) = (0, (D.write (j % 2) (hurtN j).sec).sync, .idle) from rfl] at hc
      have HC := Lib.hid hc
      clear hc
      go_wp2_with (fail)
      refine HC.out.mono ?_
      rintro e w3 ⟨rfl, ha⟩
      obtain ⟨v3, h3⟩ := hS.out.after ha
      have HS3 := Lib.hid h3
      have HI3 := Lib.hid (hI.out.step' hj1 (by omega))
      have HO3 := Lib.hid (HI3.out.one hj1)
      obtain ⟨D3, hD3⟩ : ∃ D3, (D.write (j % 2) (hurtN j).sec).sync = D3 := ⟨_, rfl⟩
      simp only [hD3] at HS3 HI3 HO3
      clear ha h3 hD3 HC hS hI
      have HLV : Hid (loadVal D3 = .tuple #[.agg #[.int .i64 ↑j, .int .i64 (↑j + 3), .int .i64 (↑j % 2), .int .i64 (5 * ↑j), .int .i64 ↑j], .int .i64 0]) := HO3.out.load
      go_wp2_with (fail)
      refine (sLoad_any d f m _ D3 .idle w3 (by rw [HO3.out.len]; omega) HS3.out.lab.disk HS3.out.lab.fuse rfl).mono ?_
      rw [HLV.out]
      rintro e w4 ⟨rfl, b4⟩
      have HS4 := Lib.hid ((HS3.out.below b4).below (alloc_below w4 (.cells #[.int .i64 ↑j, .int .i64 (↑j + 3), .int .i64 (↑j % 2), .int .i64 (5 * ↑j), .int .i64 ↑j] 40)))
      clear b4 HS3
      go_wp2_with (fail)
      go_roundw
      case rel => exact ⟨j + 1, by omega, by omega, by go_num, v3, D3, by rw [Nat.add_sub_cancel]; exact HI3, HS4⟩
      case measure => simp [intOf]; omega
    · obtain rfl : j = n + 1 := by omega
      rw [Nat.add_sub_cancel] at hI
      have HO := Lib.hid (hI.out.one (by omega))
      obtain ⟨q, hq⟩ : ∃ q, n % 2 = q := ⟨_, rfl⟩
      have hqi : (n : Int) % 2 = (q : Int) := by omega
      obtain ⟨X, hX⟩ : ∃ X, (hurtN n).sec = X := ⟨_, rfl⟩
      have lx : X.length = 80 := by rw [← hX]; exact Hd.sec_length _
      have lxi : (X.length : Int) = 80 := by omega
      have HRD : Hid (doRead D .idle (q : Int) = (X, 0)) := by
        unfold Hid
        rw [doRead_ok (i := q) (by rw [HO.out.len]; omega) rfl, read_emp HO.out.emp, ← hq]
        exact congrArg (fun z => (z, (0 : Int))) (HO.out.mine.trans hX)
      have HXX := Lib.hid hX
      have HQ := Lib.hid hq
      clear hX hq
      go_wp2_with (fail)
      refine (dread_any d f m v D .idle q wr hS.out.lab.disk hS.out.lab.fuse).mono ?_
      rw [HRD.out]
      rintro e w3 ⟨rfl, b3⟩
      have HS3 := Lib.hid (hS.out.below b3)
      clear b3 hS
      obtain ⟨jj, hjj⟩ : ∃ jj, at_ % 80 = jj := ⟨_, rfl⟩
      have hjji : (at_ : Int) % 80 = (jj : Int) := by omega
      have hjt : (at_ : Int).tmod 80 = (jj : Int) := by rw [Int.tmod_eq_emod_of_nonneg (by omega)]; exact hjji
      have hj80 : jj < 80 := by omega
      have hconv := fun W => Lib.run_convert_string_bytes (P := Try.prog) W 9 54 5 (S X) (u := .string) Try.underlying9 Try.underlying54 Try.underlying5
      have BW := Lib.hid (Go.Joins.below_bytesWorld w3.heap.size w3 5 (S X) (Nat.le_refl _))
      have HN9 := Lib.hid (Lib.bytesWorld_at_new w3 5 (S X))
      have HC9 : Hid (∀ j, j < 80 → (Lib.bytesCells w3 5 (S X))[j]? = some (.int .u8 (X.getD j 0).toNat)) := fun j hj => by
        have h1 := Lib.bytesWorld_cell w3 5 (S X) j (by rw [S_size]; omega)
        rw [cell_of HN9.out, S_data] at h1
        exact h1
      obtain ⟨C0, hC0⟩ : ∃ C, Lib.bytesCells w3 5 (S X) = C := ⟨_, rfl⟩
      rw [hC0] at HN9 HC9
      clear hC0 hjj
      obtain ⟨x, hx⟩ : ∃ x, X.getD jj 0 = x := ⟨_, rfl⟩
      obtain ⟨V, hVx, hval⟩ := hurt_val x hbt
      have hM : 80 ≤ C0.size := by
        have h1 := HC9.out 79 (by omega)
        have := (Array.getElem?_eq_some_iff.1 h1).1
        omega
      have HM := Lib.hid hM
      go_upto_region 17 with (fail)
      generalize Lib.bytesWorld w3 5 (S X) = W at BW HN9 ⊢
      have HS4 := Lib.hid (HS3.out.below BW.out)
      obtain ⟨bw, hbw⟩ : ∃ bw, w3.heap.size = bw := ⟨_, rfl⟩
      have HBW := Lib.hid (show ¬ Own d f m v bw by intro ho; have := HS3.out.lab.lt ho; omega)
      have HBB := Lib.hid (show w.heap.size ≤ bw by have := HS3.out.bel.size; omega)
      rw [hbw] at HN9
      have cj : W.cell? ⟨bw, jj, none⟩ = some (.int .u8 (x.toNat : Int)) := by rw [← hx]; exact (cell_of HN9.out jj).trans (HC9.out jj hj80)
      have fj : W.frozen? ⟨bw, jj, none⟩ = false := by simp [World.frozen?, HN9.out]; omega
      clear HS3 BW hM hconv
      try rw [hbw]
      clear hbw
      go_upto_region 18 with (fail)
      rw [setCell_block HN9.out jj (.int .u8 (V.toNat : Int))]
      have kk : Keeps (fun z => z = bw) W (setBlock W bw (.cells (C0.setIfInBounds jj (.int .u8 (V.toNat : Int))) 5 (C0.size, C0.size + 1))) := Keeps.setBlock (S := fun z => z = bw) (.refl _ _) (fun _ => rfl) _
      have HS5 : Hid (HSt w (setBlock W bw (.cells (C0.setIfInBounds jj (.int .u8 (V.toNat : Int))) 5 (C0.size, C0.size + 1))) d f m v D .idle) := ⟨HS4.out.lab.keeps kk (fun z hz e => HBW.out (e ▸ hz)), HS4.out.frm, kk.belowOf HS4.out.bel HS4.out.bel.size (fun z hz e => by have := HBB.out; omega)⟩
      have HC5 := setBlock_same (w := W) (b := bw) (Array.getElem?_eq_some_iff.1 HN9.out).1 (.cells (C0.setIfInBounds jj (.int .u8 (V.toNat : Int))) 5 (C0.size, C0.size + 1))
      have HT5 : ∀ j, j < 80 → (C0.setIfInBounds jj (.int .u8 (V.toNat : Int)))[j]? = some (.int .u8 ((X.set jj V).getD j 0).toNat) := fun j hj => by
        rw [List.getD_eq_getElem?_getD, List.getElem?_set]
        by_cases e : jj = j
        · subst e
          rw [if_pos rfl, if_pos (by omega), Array.getElem?_setIfInBounds_self_of_lt (by have := HM.out; omega)]
          rfl
        · rw [if_neg e, Array.getElem?_setIfInBounds_ne e, HC9.out j hj, ← List.getD_eq_getElem?_getD]
      generalize setBlock W bw (.cells (C0.setIfInBounds jj (.int .u8 (V.toNat : Int))) 5 (C0.size, C0.size + 1)) = W5 at HS5 HC5 ⊢
      generalize C0.setIfInBounds jj (.int .u8 (V.toNat : Int)) = C5 at HC5 HT5
      have HLV : Hid (loadVal (D.write q (X.set jj V)) = .tuple #[(hurtN (n - 1)).val, .int .i64 0]) := by
        unfold Hid
        rw [← HQ.out, ← HXX.out]
        exact hI.out.hurt HN2.out.1 (by omega) hj80 (by rw [HXX.out, hx]; exact hVx)
      obtain ⟨T, hT⟩ : ∃ T, X.set jj V = T := ⟨_, rfl⟩
      have hTl : T.length = 80 := by rw [← hT, List.length_set]; exact lx
      rw [hT] at HT5 HLV
      have hcv := fun cap => run_convert_bytes_arg (P := Try.prog) W5 54 5 Try.underlying54 Try.underlying5 bw 0 80 cap (numsOf T) (by rw [numsOf_length]; exact hTl)
        (fun j hj => by rw [Nat.zero_add, cell_of HC5, HT5 j (by omega)]; simp [numsOf, List.getD_eq_getElem?_getD, List.getElem?_map]; cases T[j]? <;> simp) 9 Try.underlying9
      rw [strOfNums_numsOf, S_mk] at hcv
      have HTL := Lib.hid hTl
      clear kk HC5 HT5 hT hTl cj fj HS4 hx hVx hval
      go_wp2_with (fail)
      refine (dwrite_any d f m v D .idle q T _ HS5.out.lab.disk HS5.out.lab.fuse (by rw [HO.out.emp]; show 0 ≤ 1000000; omega)).mono ?_
      rw [show doWrite D .idle q T = (0, D.write q T, .idle) from (doWrite_at (by rw [HO.out.len, ← HQ.out]; omega) HTL.out).trans (if_pos rfl)]
      rintro e w6 ⟨rfl, ha⟩
      obtain ⟨v6, h6⟩ := HS5.out.after ha
      have HS6 := Lib.hid h6
      clear ha h6 HS5 hcv
      obtain ⟨p, rfl⟩ : ∃ p, n = p + 1 := ⟨n - 1, by have := HN2.out.1; omega⟩
      rw [Nat.add_sub_cancel] at HLV
      have HLV2 : Hid (loadVal (D.write q T) = .tuple #[.agg #[.int .i64 ↑p, .int .i64 (↑p + 3), .int .i64 (↑p % 2), .int .i64 (5 * ↑p), .int .i64 ↑p], .int .i64 0]) := HLV.out
      clear HLV
      go_wp2_with (fail)
      refine (sLoad_any d f m _ (D.write q T) .idle w6 (by show 2 ≤ D.S.length; rw [HO.out.len]; omega) HS6.out.lab.disk HS6.out.lab.fuse rfl).mono ?_
      rw [HLV2.out]
      rintro e w7 ⟨rfl, b7⟩
      have HS7 := Lib.hid ((HS6.out.below b7).below (alloc_below w7 (.cells #[.int .i64 ↑p, .int .i64 (↑p + 3), .int .i64 (↑p % 2), .int .i64 (5 * ↑p), .int .i64 ↑p] 40)))
      clear b7 HS6
      have hp20 : p ≤ 19 := by omega
      go_wp2_with (fail)
      refine (known07_any _).mono ?_
      rintro e w9 ⟨rfl, bk⟩
      have HS9 := Lib.hid (HS7.out.below bk)
      clear bk HS7
      go_wp2_with (fail)
      go_ret
      exact ⟨rfl, HS9.out.bel⟩
theorem slotsHurt_row (a0 a1 a2 : Int) (W : World) (w0 : (Lit.int .u8 a0).wf = true) (w1 : (Lit.int .u8 a1).wf = true) (w2 : (Lit.int .u8 a2).wf = true) :
    Calls Try.prog 8 #[.int .u8 a0, .int .u8 a1, .int .u8 a2] W fun e w' => e = .returned (.bool true) ∧ Below W.heap.size W w' := by
  have hu : ∀ {n : Int}, (Lit.int .u8 n).wf = true → ∃ k : Nat, n = (k : Int) ∧ k < 256 := fun h => by
    simp [Lit.wf, IntKind.min, IntKind.max, IntKind.signed, IntKind.bits] at h
    exact ⟨Int.toNat _, (Int.toNat_of_nonneg h.1).symm, by omega⟩
  obtain ⟨x, rfl, hx⟩ := hu w0
  obtain ⟨y, rfl, hy⟩ := hu w1
  obtain ⟨z, rfl, hz⟩ := hu w2
  exact slotsHurt_any x y z hx hy hz W
end Go.Proofs.Ytgnhpbolmfbngaa
