/- sacristanlaw05.FrameBits returns true, whatever its frame and its numbers are, in every world. -/
import Derived.Test.YtcdpgkefdnmkeaaFrameBack
import Derived.Test.YtcdpgkefdnmkeaaFFlips
import Derived.Test.YtcdpgkefdnmkeaaWf
import Derived.Laws.IdiomStrings
import Derived.Lib.ConvBytes
import Derived.Lib.SmallJoins
namespace Go.Proofs.Ytcdpgkefdnmkeaa
open Go.RowKit Fr

theorem of_u16 {n : Int} (h : (Lit.int .u16 n).wf = true) : 0 ≤ n ∧ n ≤ 65535 := by
  simp [Lit.wf, IntKind.min, IntKind.max, IntKind.signed, IntKind.bits] at h
  omega
def bitI (v : Int) (i : Nat) : Int := Go.bits .and .u32 (v / 2 ^ i) 1
def condI (v : Int) (first i : Nat) : Bool := !(bitI v i == 0) && !((first + i) / 8 == 13)
theorem condI_18 {v : Int} {first i : Nat} (h : condI v first i = true) : (first + i) / 8 ≠ 13 := by
  unfold condI at h
  rw [Bool.and_eq_true] at h
  intro e
  rw [e] at h
  exact absurd h.2 (by decide)
theorem one_set (a : Int) (h0 : 0 ≤ a) (h1 : a ≤ 4294967295) : ¬ bitI (Go.bits .or .u32 a 1) 0 = 0 := by
  obtain ⟨m, rfl⟩ : ∃ m : Nat, a = m := ⟨a.toNat, by omega⟩
  have hm : m < 4294967296 := by omega
  have h2 : Go.bits .or .u32 (m : Int) 1 = ((m ||| 1 : Nat) : Int) := u32_or_nat m 1 hm (by decide)
  have h3 : m ||| 1 < 4294967296 := Nat.or_lt_two_pow (n := 32) hm (by decide)
  unfold bitI
  rw [h2]
  have h4 : ((m ||| 1 : Nat) : Int) / 2 ^ 0 = ((m ||| 1 : Nat) : Int) := by simp
  rw [h4]
  have h5 : Go.bits .and .u32 ((m ||| 1 : Nat) : Int) 1 = (((m ||| 1) % 2 : Nat) : Int) := and1_u32 _ h3
  rw [h5]
  have h7 : (m ||| 1) % 2 = 1 := by simp
  omega
theorem xor_val (u : UInt8) (r : Nat) (hr : r < 8) : Go.bits .xor .u8 (u.toNat : Int) (2 ^ r % 256) = (((UInt8.ofNat (u.toNat ^^^ 2 ^ r)).toNat : Nat) : Int) := by
  have h1 : ((2 : Int) ^ r % 256) = ((2 ^ r : Nat) : Int) := by
    have : r = 0 ∨ r = 1 ∨ r = 2 ∨ r = 3 ∨ r = 4 ∨ r = 5 ∨ r = 6 ∨ r = 7 := by omega
    rcases this with rfl | rfl | rfl | rfl | rfl | rfl | rfl | rfl <;> rfl
  rw [h1, u8_xor_nat _ _ u.toNat_lt (show 2 ^ r < 2 ^ 8 from Nat.pow_lt_pow_right (by decide) hr), UInt8.toNat_ofNat_of_lt' (xor_lt256 u.toNat_lt hr)]
theorem flip_cells {C : Array Value} {T : List UInt8} {p0 q : Nat} {v : Int} (hT : T.length = 80) (hB : ∀ j, j < 80 → C[j]? = some (.int .u8 (T.getD j 0).toNat)) (hq : q = posB (p0 / 8)) (hq80 : q < 80)
    (hv : v = (((UInt8.ofNat ((T.getD q 0).toNat ^^^ 2 ^ (p0 % 8))).toNat : Nat) : Int)) : ∀ j, j < 80 → (C.setIfInBounds q (.int .u8 v))[j]? = some (.int .u8 ((flipS T p0).getD j 0).toNat) := fun j hj => by
  have hlt : q < C.size := (Array.getElem?_eq_some_iff.1 (hB q hq80)).1
  unfold flipS
  rw [← hq, getD_set (by omega)]
  by_cases h : j = q
  · subst h
    rw [Array.getElem?_setIfInBounds_self_of_lt hlt, if_pos rfl, hv]
  · rw [Array.getElem?_setIfInBounds_ne (fun e => h e.symm), if_neg h]
    exact hB j hj
theorem flips_no {cond : Nat → Bool} {first i : Nat} {T : List UInt8} (h : cond i = false) : flips cond first T (i + 1) = flips cond first T i := by
  show (if cond i then _ else _) = _
  rw [h]; rfl
theorem flips_yes {cond : Nat → Bool} {first i : Nat} {T : List UInt8} (h : cond i = true) : flips cond first T (i + 1) = flipS (flips cond first T i) (first + i) := by
  show (if cond i then _ else _) = _
  rw [h]; rfl
theorem setCell_any {w : World} {b : Nat} {C : Array Value} {t : TypeId} {fr : Nat × Nat} (hb : w.heap[b]? = some (.cells C t fr)) (o : Nat) (v : Value) : (w.setCell ⟨b, o, none⟩ v).heap[b]? = some (.cells (C.setIfInBounds o v) t fr) := by
  rw [setCell_block hb]
  exact setBlock_same (Array.getElem?_eq_some_iff.1 hb).1 _
theorem bits_arith (a f N : Nat) (len : Nat) (hN : N = 8 * (14 + len)) (hl2 : len ≤ 44) (hf : f = a % N) : ∃ first : Nat, first < N ∧ first / 8 ≠ 13 ∧ N ≤ 464 ∧ f < N ∧ ((f / 8 = 13 ∧ first = f - 8 ∧ 8 ≤ f) ∨ (f / 8 ≠ 13 ∧ first = f)) := by
  have h1 : f < N := by rw [hf]; exact Nat.mod_lt _ (by omega)
  by_cases h : f / 8 = 13
  · exact ⟨f - 8, by omega, by omega, by omega, h1, .inl ⟨h, rfl, by omega⟩⟩
  · exact ⟨f, h1, h, by omega, h1, .inr ⟨h, rfl⟩⟩
set_option maxRecDepth 100000 in
set_option maxHeartbeats 8000000 in
theorem frameBits_any (boot lsn part parts kind : Int) (d : List UInt8) (a1 a2 : Int) (w : World) (hk : 0 ≤ kind ∧ kind < 256) (_h0 : d.length ≤ 140737488351232) (w1 : (Lit.int .u16 a1).wf = true) (w2 : (Lit.int .u32 a2).wf = true) :
    Calls Try.prog 11 #[.agg #[.int .i64 boot, .int .i64 lsn, .int .i64 part, .int .i64 parts, .int .u8 kind, .string (S d)], .int .u16 a1, .int .u32 a2] w fun e w' => e = .returned (.bool true) ∧ Below w.heap.size w w' := by
  have q0 := alloc_new w (.cells #[.int .i64 boot, .int .i64 lsn, .int .i64 part, .int .i64 parts, .int .u8 kind, .string (S d)] 40)
  have B0 := alloc_below w (.cells #[.int .i64 boot, .int .i64 lsn, .int .i64 part, .int .i64 parts, .int .u8 kind, .string (S d)] 40)
  clear _h0
  go_enter Try.func11, Try.ntmps11
  go_wp2_with (fail)
  generalize w.alloc (.cells #[.int .i64 boot, .int .i64 lsn, .int .i64 part, .int .i64 parts, .int .u8 kind, .string (S d)] 40) = W0 at q0 B0 ⊢
  have k4 : W0.cell? ⟨w.heap.size, 4, none⟩ = some (.int .u8 kind) := (cell_of q0 4).trans rfl
  have k5 : W0.cell? ⟨w.heap.size, 5, none⟩ = some (.string (S d)) := (cell_of q0 5).trans rfl
  have k0 : W0.cell? ⟨w.heap.size, 0, none⟩ = some (.int .i64 boot) := (cell_of q0 0).trans rfl
  have k1 : W0.cell? ⟨w.heap.size, 1, none⟩ = some (.int .i64 lsn) := (cell_of q0 1).trans rfl
  have k2 : W0.cell? ⟨w.heap.size, 2, none⟩ = some (.int .i64 part) := (cell_of q0 2).trans rfl
  have k3 : W0.cell? ⟨w.heap.size, 3, none⟩ = some (.int .i64 parts) := (cell_of q0 3).trans rfl
  clear q0
  refine (fEncode_any boot lsn part parts kind d W0 hk).mono ?_
  rintro e wb ⟨rfl, b1⟩
  replace k4 := below_cell b1 k4
  replace k5 := below_cell b1 k5
  have HX := Lib.hid (below_step b1 B0 (Nat.le_refl _))
  clear b1 B0 k0 k1 k2 k3
  obtain ⟨⟨xa, ea⟩, hra⟩ : ∃ r, fencOf boot lsn part parts kind d = r := ⟨_, rfl⟩
  rw [hra]
  rcases fenc_split boot lsn part parts kind d hk with ⟨A, okA, rfl, rfl, rfl, rfl, rfl, rfl, he⟩ | ⟨e, he0, he⟩
  case inr =>
    rw [he] at hra
    cases hra
    have he0n : (ea != 0) = true := by rw [bne, he0]; rfl
    clear he
    go_wp2_with (go_at_call 28; refine (known05_any _).mono ?_; rintro e5 we ⟨rfl, b5⟩)
    go_ret
    exact ⟨rfl, below_step b5 HX.out (Nat.le_refl _)⟩
  case inl =>
    rw [he] at hra
    cases hra
    have OKA := Lib.hid okA
    have hd36 := okA.2.2.2.2.2.2.2
    clear okA he
    obtain ⟨u0, u1⟩ := of_u16 w1
    obtain ⟨u2, u3⟩ := of_u32 w2
    clear w1 w2
    obtain ⟨an, rfl⟩ : ∃ x : Nat, a1 = x := ⟨a1.toNat, by omega⟩
    obtain ⟨N, hN⟩ : ∃ N : Nat, N = 8 * (14 + A.data.length) := ⟨_, rfl⟩
    obtain ⟨f, hf⟩ : ∃ f : Nat, f = an % N := ⟨_, rfl⟩
    obtain ⟨first, g1, g2, g3, g4, g5⟩ := bits_arith an f N A.data.length hN hd36 hf
    have hNi : 8 * (14 + (A.data.length : Int)) = (N : Int) := by omega
    have hfi : (an : Int) % (N : Int) = (f : Int) := by rw [hf]; rfl
    have hft : (an : Int).tmod (N : Int) = (f : Int) := by rw [Int.tmod_eq_emod_of_nonneg (by omega)]; exact hfi
    have HN := Lib.hid hN
    have LX := Lib.hid (A.sec_length hd36)
    obtain ⟨X, hX⟩ : ∃ X, A.sec = X := ⟨_, rfl⟩
    rw [hX] at LX ⊢
    have HXX := Lib.hid hX
    have lx := LX.out
    have lxi : (X.length : Int) = 80 := by omega
    clear hX hN hf
    have hconv := fun W => Lib.run_convert_string_bytes (P := Try.prog) W 9 36 5 (S X) (u := .string) Try.underlying9 Try.underlying36 Try.underlying5
    have kW : (Lib.bytesWorld wb 5 (S X)).cell? ⟨w.heap.size, 5, none⟩ = some (.string (S A.data)) := (Lib.bytesWorld_old wb _ _ _ (World.block_lt_of_cell? _ _ k5)).trans k5
    have BW := Lib.hid (below_step (Go.Joins.below_bytesWorld wb.heap.size wb 5 (S X) (Nat.le_refl _)) HX.out (Nat.le_refl _))
    have HN9 := Lib.hid (Lib.bytesWorld_at_new wb 5 (S X))
    have HC9 : Hid (∀ j, j < 80 → (Lib.bytesCells wb 5 (S X))[j]? = some (.int .u8 (X.getD j 0).toNat)) := fun j hj => by
      have h1 := Lib.bytesWorld_cell wb 5 (S X) j (by rw [S_size]; omega)
      rw [cell_of HN9.out, S_data] at h1
      exact h1
    have hBw : w.heap.size < wb.heap.size := World.block_lt_of_cell? _ _ k5
    have hBs := Lib.hid (Lib.bytesWorld_size wb 5 (S X))
    obtain ⟨C0, hC0⟩ : ∃ C, Lib.bytesCells wb 5 (S X) = C := ⟨_, rfl⟩
    rw [hC0] at HN9 HC9
    have hM : 80 ≤ C0.size := by
      have h1 := HC9.out 79 (by omega)
      have := (Array.getElem?_eq_some_iff.1 h1).1
      omega
    clear hC0 HX
    obtain ⟨V, hV⟩ : ∃ V, Go.bits .or .u32 a2 1 = V := ⟨_, rfl⟩
    have hf18 : (((f : Int) / 8 = 13) ∧ (f : Int) - 8 = first) ∨ ((((f : Int) / 8 == 13) = false) ∧ first = f) := by
      rcases g5 with ⟨h18, hfirst, hf8⟩ | ⟨h18, hfirst⟩
      · exact .inl ⟨by omega, by omega⟩
      · exact .inr ⟨by rw [beq_eq_false_iff_ne]; omega, hfirst⟩
    clear g5
    have HV0 := Lib.hid (show ¬ bitI V 0 = 0 by rw [← hV]; exact one_set a2 u2 u3)
    rcases hf18 with ⟨e18, ef⟩ | ⟨e18, rfl⟩
    all_goals
      go_wp2_with (fail)
      generalize Lib.bytesWorld wb 5 (S X) = W at BW HN9 hBs ⊢
      clear e18 kW hfi hft hNi k4 k5 hconv
      go_loopw [12] (fun v12 wr => ∃ i : Nat, i ≤ 32 ∧ Hid (first + i ≤ N) ∧ v12 = .int .i64 i ∧ ∃ C : Array Value, Hid (wr.heap[wb.heap.size]? = some (.cells C 5 (C0.size, C0.size + 1))) ∧ Hid (C.size = C0.size) ∧ Hid (∀ j, j < 80 → C[j]? = some (.int .u8 ((flips (condI V first) first X i).getD j 0).toNat)) ∧ Hid (Keeps (· = wb.heap.size) W wr)) (fun v12 _ => 32 - (intOf v12).toNat)
      case atStart => exact ⟨0, by omega, Nat.le_of_lt g1, rfl, C0, HN9.out, rfl, HC9.out, .refl _ _⟩
      case round =>
        obtain ⟨i, hi, hfi, rfl, C, hC, hS, hB, hK⟩ := hrel
        by_cases hlt : i < 32 ∧ first + i < N
        · obtain ⟨l1, l2⟩ := hlt
          have l1' : (i : Int) < 32 := by omega
          have l2' : (first : Int) + i < N := by omega
          obtain ⟨kk, hkk⟩ : ∃ k : Nat, (first + i) / 8 = k := ⟨_, rfl⟩
          obtain ⟨r, hr⟩ : ∃ k : Nat, (first + i) % 8 = k := ⟨_, rfl⟩
          have hk1 : ((first : Int) + i) / 8 = (kk : Int) := by omega
          have hr1 : ((first : Int) + i) % 8 = (r : Int) := by omega
          have hr8 : r < 8 := by omega
          have hk80 : kk < 58 := by omega
          have HKK := Lib.hid hkk
          have HR := Lib.hid hr
          clear hkk hr
          have HK := hK
          by_cases hb0 : bitI V i = 0
          · have hcn : Hid (condI V first i = false) := by unfold Hid condI; rw [hb0]; rfl
            unfold bitI at hb0
            go_wp2
            go_roundw
            case rel => exact ⟨i + 1, by omega, by unfold Hid; omega, by go_num, C, hC, hS, by rw [flips_no hcn.out]; exact hB, hK⟩
            case measure => simp [intOf]; omega
          · have hb0' : (Go.bits .and .u32 (V / 2 ^ i) 1 == 0) = false := by rw [beq_eq_false_iff_ne]; exact hb0
            clear hb0
            by_cases h18 : kk = 13
            · have hcn : Hid (condI V first i = false) := by unfold Hid condI; rw [HKK.out, h18, Bool.and_eq_false_iff]; exact .inr rfl
              subst h18
              go_wp2
              go_roundw
              case rel => exact ⟨i + 1, by omega, by unfold Hid; omega, by go_num, C, hC, hS, by rw [flips_no hcn.out]; exact hB, hK⟩
              case measure => simp [intOf]; omega
            · have h18n : (kk == 13) = false := by rw [beq_eq_false_iff_ne]; exact h18
              have h18' : ((kk : Int) == 13) = false := by rw [beq_eq_false_iff_ne]; omega
              by_cases hgt : 13 < kk
              · have hgt' : (14 : Int) ≤ kk := by omega
                have hcq := Lib.hid (hB.out (kk + 4) (by omega))
                obtain ⟨uu, huu⟩ : ∃ u, (flips (condI V first) first X i).getD (kk + 4) 0 = u := ⟨_, rfl⟩
                have c1 : wr.cell? ⟨wb.heap.size, kk + 4, none⟩ = some (.int .u8 uu.toNat) := by rw [cell_of hC.out, hcq.out, huu]
                have f1 : wr.frozen? ⟨wb.heap.size, kk + 4, none⟩ = false := by simp [World.frozen?, hC.out]; omega
                have hset := Lib.hid (setCell_any hC.out (kk + 4) (.int .u8 (Go.bits .xor .u8 (uu.toNat : Int) (2 ^ r % 256))))
                have HU := Lib.hid huu
                clear huu
                go_wp2
                go_roundw
                case rel => exact ⟨i + 1, by omega, by unfold Hid; omega, by go_num, _, hset.out, by unfold Hid; rw [Array.size_setIfInBounds]; exact hS.out, by
                  unfold Hid
                  rw [flips_yes (show condI V first i = true by unfold condI bitI; rw [hb0', HKK.out, h18n]; rfl)]
                  exact flip_cells (by rw [flips_length]; exact LX.out) hB.out (by rw [HKK.out]; unfold posB; split <;> omega) (by omega) (by rw [HR.out, HU.out]; exact xor_val uu r hr8), HK.out.setCell (fun _ => rfl) _⟩
                case measure => simp [intOf]; omega
              · have hgt' : ¬ (14 : Int) ≤ kk := by omega
                have hcq := Lib.hid (hB.out (kk) (by omega))
                obtain ⟨uu, huu⟩ : ∃ u, (flips (condI V first) first X i).getD (kk) 0 = u := ⟨_, rfl⟩
                have c1 : wr.cell? ⟨wb.heap.size, kk, none⟩ = some (.int .u8 uu.toNat) := by rw [cell_of hC.out, hcq.out, huu]
                have f1 : wr.frozen? ⟨wb.heap.size, kk, none⟩ = false := by simp [World.frozen?, hC.out]; omega
                have hset := Lib.hid (setCell_any hC.out (kk) (.int .u8 (Go.bits .xor .u8 (uu.toNat : Int) (2 ^ r % 256))))
                have HU := Lib.hid huu
                clear huu
                go_wp2
                go_roundw
                case rel => exact ⟨i + 1, by omega, by unfold Hid; omega, by go_num, _, hset.out, by unfold Hid; rw [Array.size_setIfInBounds]; exact hS.out, by
                  unfold Hid
                  rw [flips_yes (show condI V first i = true by unfold condI bitI; rw [hb0', HKK.out, h18n]; rfl)]
                  exact flip_cells (by rw [flips_length]; exact LX.out) hB.out (by rw [HKK.out]; unfold posB; split <;> omega) (by omega) (by rw [HR.out, HU.out]; exact xor_val uu r hr8), HK.out.setCell (fun _ => rfl) _⟩
                case measure => simp [intOf]; omega
        · have hi1 : 1 ≤ i := by
            by_cases h : i = 0
            · exact absurd ⟨by omega, by omega⟩ hlt
            · omega
          have hI := Lib.hid (show first + i ≤ 8 * (14 + A.data.length) by rw [← HN.out]; exact hfi.out)
          have DN := Lib.hid (show fdecodeOf (flips (condI V first) first X i) = none by
            rw [← HXX.out]
            exact flips_none OKA.out hI.out hi1 hi (by
              have h0 := HV0.out
              unfold condI
              rw [show (bitI V 0 == 0) = false from beq_eq_false_iff_ne.2 h0, show ((first + 0) / 8 == 13) = false from beq_eq_false_iff_ne.2 (by omega)]
              rfl) (fun j hj => condI_18 hj))
          obtain ⟨T, hT⟩ : ∃ T, flips (condI V first) first X i = T := ⟨_, rfl⟩
          rw [hT] at DN hB
          have hTl : T.length = 80 := by rw [← hT, flips_length]; exact LX.out
          have hcv := fun cap => run_convert_bytes_arg (P := Try.prog) wr 36 5 Try.underlying36 Try.underlying5 wb.heap.size 0 80 cap (numsOf T) (by rw [numsOf_length]; exact hTl)
            (fun j hj => by rw [Nat.zero_add, cell_of hC.out, hB.out j (by omega)]; simp [numsOf, List.getD_eq_getElem?_getD, List.getElem?_map]; cases T[j]? <;> simp) 9 Try.underlying9
          rw [strOfNums_numsOf, S_mk] at hcv
          have HBr := Lib.hid (hK.out.belowOf BW.out (by have := hBs.out; omega) (fun x hx e => by omega))
          clear hT hTl hB hC hS hK hI
          have hif : (¬ (i : Int) < 32) ∨ ((i : Int) < 32 ∧ ¬ (first : Int) + i < N) := by omega
          clear hlt hfi
          rcases hif with hif | ⟨hif, hif2⟩
          all_goals
            go_wp2_with (fail)
            refine (fDecode_any T _).mono ?_
            rw [fdecVal_none DN.out]
            unfold zfrm
            rintro e v1 ⟨rfl, b4⟩
            have HV9 := Lib.hid (below_step (alloc_below v1 (.cells #[.int .i64 0, .int .i64 0, .int .i64 0, .int .i64 0, .int .u8 0, .string ⟨#[]⟩] 40)) (below_step b4 HBr.out (Nat.le_refl _)) (Nat.le_refl _))
            clear b4 hcv
            go_wp2_with (go_at_call 28; refine (known05_any _).mono ?_; rintro e5 we ⟨rfl, b5⟩)
            go_ret
            exact ⟨rfl, below_step b5 HV9.out (Nat.le_refl _)⟩
end Go.Proofs.Ytcdpgkefdnmkeaa
