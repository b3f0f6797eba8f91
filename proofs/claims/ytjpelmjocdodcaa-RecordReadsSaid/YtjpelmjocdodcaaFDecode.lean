/- frame.Decode: what each call returns. -/
import Derived.Test.YtjpelmjocdodcaaCells
import Derived.Test.YtjpelmjocdodcaaFrmBad
import Derived.Test.YtjpelmjocdodcaaPures
import Derived.Deep.RegionHeld3
import Derived.Deep.DeepCutAuto
import Derived.ScopeJumps
namespace Go.Proofs.Ytjpelmjocdodcaa
open Go.RowKit

set_option maxHeartbeats 400000 in
theorem fnumber_any (l : List UInt8) (i j : Nat) (w : World) (h1 : i < j) (h2 : j ≤ l.length) (h3 : j ≤ i + 7) :
    Calls Try.prog 70 #[.string (S l), .int .i64 i, .int .i64 j] w fun e w' => e = .returned (.int .i64 (un ((l.take j).drop i) : Nat)) ∧ w' = w := by
  have hk : ((l.take j).drop i).length ≤ 7 := by rw [List.length_drop, List.length_take]; omega
  have hk1 : 1 ≤ ((l.take j).drop i).length := by rw [List.length_drop, List.length_take]; omega
  have hu : un ((l.take j).drop i) < 9223372036854775808 := un_lt7 _ hk
  have hx : (S l).extract i j = S ((l.take j).drop i) := S_extract _ _ _
  generalize (l.take j).drop i = m at hk hk1 hu hx
  have h1' : (i : Int) ≤ (j : Int) := by omega
  have h2' : (j : Int) ≤ (l.length : Int) := by omega
  go_enter Try.func70, Try.ntmps70
  go_wp2_with (go_at_call 93; refine (unfixed_any (S m) _ (by rw [S_size]; exact hk1) (by rw [S_size]; omega)).mono ?_; rw [S_data]; rintro e w' ⟨rfl, rfl⟩)
  go_ret
  exact ⟨rfl, rfl⟩

theorem Frm.sec_again (b : Frm) (h : b.data.length ≤ 44) : b.sec.take 11 = b.sec.drop 69 := by
  have e1 : b.sec.take 11 = b.head.take 11 := by
    unfold Frm.sec
    rw [List.take_append, Frm.head_length, show 11 - 14 = 0 from rfl, List.take_zero, List.append_nil]
  have e2 : b.sec.drop 69 = b.head.take 11 := by
    unfold Frm.sec
    rw [show b.head ++ (be 4 (crcSum (b.head ++ b.data)) ++ (b.data ++ (List.replicate (51 - b.data.length) 0 ++ b.head.take 11))) = (b.head ++ (be 4 (crcSum (b.head ++ b.data)) ++ (b.data ++ List.replicate (51 - b.data.length) 0))) ++ b.head.take 11 by simp]
    exact drop_app _ _ _ (by simp; omega)
  rw [e1, e2]

def zfrm : Value := .agg #[.int .i64 0, .int .i64 0, .int .i64 0, .int .i64 0, .int .u8 0, .string ⟨#[]⟩]
/-- What frame.Decode returns for some bytes. -/
def fdecVal (s : List UInt8) : Value := match fdecodeOf s with
  | some b => .tuple #[b.val, .int .i64 0]
  | none => .tuple #[zfrm, .int .i64 12]
theorem fdecVal_none {s : List UInt8} (h : fdecodeOf s = none) : fdecVal s = .tuple #[zfrm, .int .i64 12] := by unfold fdecVal; rw [h]
theorem fdecVal_some {s : List UInt8} {b : Frm} (h : fdecodeOf s = some b) : fdecVal s = .tuple #[b.val, .int .i64 0] := by unfold fdecVal; rw [h]
theorem fdecodeOf_bad {s : List UInt8} (h : ¬ (s.length = 80 ∧ (s.getD 13 0).toNat ≤ 44)) : fdecodeOf s = none := by
  unfold fdecodeOf
  rw [if_neg (fun e => h e.1)]
theorem fdecodeOf_again {s : List UInt8} (h : ¬ s.take 11 = s.drop 69) : fdecodeOf s = none := by
  cases hd : fdecodeOf s with
  | none => rfl
  | some b =>
    obtain ⟨ok, rfl⟩ := fdecodeOf_some hd
    exact absurd (b.sec_again ok.2.2.2.2.2.2.2) h

theorem fwp_cut {P : Program} {c : Code} {Q : Exit → Act → World → Prop} {a : Act} {w : World} {A : Act} {W1 : World} (h : c.wp P (fun e a' w' => e = .normal ∧ a' = A ∧ w' = W1) a w) (k : Q .normal A W1) : c.wp P Q a w :=
  Code.wp_mono (by rintro e a' w' ⟨rfl, rfl, rfl⟩; exact k) h
theorem act_list {a : Act} {n : Nat} (h : a.tmps.size = n) (hd : a.defers = []) : ∃ f : Nat → Value, (∀ i, a.tmps.getD i undef = f i) ∧ a = { tmps := ⟨(List.range n).map f⟩, defers := [] } := by
  refine ⟨fun i => a.tmps.getD i undef, fun _ => rfl, ?_⟩
  obtain ⟨t, d⟩ := a
  obtain rfl : d = [] := hd
  congr 1
  apply Array.ext
  · simpa using h
  · intro i h1 h2
    simp [h1]
set_option maxRecDepth 100000 in
theorem act54 {a : Act} {p : Value} (h : a.tmps.size = 54) (hd : a.defers = []) (h2 : a.tmps.getD 2 undef = p) : ∃ f : Nat → Value, f 2 = p ∧ a = { tmps := #[f 0, f 1, f 2, f 3, f 4, f 5, f 6, f 7, f 8, f 9, f 10, f 11, f 12, f 13, f 14, f 15, f 16, f 17, f 18, f 19, f 20, f 21, f 22, f 23, f 24, f 25, f 26, f 27, f 28, f 29, f 30, f 31, f 32, f 33, f 34, f 35, f 36, f 37, f 38, f 39, f 40, f 41, f 42, f 43, f 44, f 45, f 46, f 47, f 48, f 49, f 50, f 51, f 52, f 53], defers := [] } := by
  obtain ⟨f, h1, h3⟩ := act_list h hd
  exact ⟨f, (h1 2).symm.trans h2, h3⟩
theorem un_13 {l : List UInt8} {u : UInt8} (h80 : l.length = 80) (h13 : l.getD 13 0 = u) : un ((l.take 14).drop 13) = u.toNat := by
  have e : (l.take 14).drop 13 = [u] := by
    rw [← h13]
    apply List.ext_getElem
    · simp [h80]
    · intro i h1 h2
      have hi : i = 0 := by simpa using h2
      subst hi
      simp [List.getD_eq_getElem?_getD, List.getElem?_eq_getElem (show 13 < l.length by omega)]
  rw [e]
  simp [un]
theorem fu_facts {u : UInt8} (h : u.toNat ≤ 44) : IntKind.i64.wrap (18 + (u.toNat : Int)) = 18 + (u.toNat : Int) ∧ (0 : Int) ≤ 18 + (u.toNat : Int) ∧ (18 : Int) ≤ 18 + (u.toNat : Int) ∧ 18 + (u.toNat : Int) ≤ 80 := by
  rw [IntKind.wrap_i64]
  omega
/-- The parts of a sector that Decode reads. -/
theorem fpieces (l : List UInt8) (u : UInt8) (h80 : l.length = 80) (h44 : u.toNat ≤ 44) (h13 : l.getD 13 0 = u) : ∃ l0 l1 l2 l3 l4 l5 pa pb : List UInt8, (l.take 4).drop 0 = l0 ∧ (l.take 10).drop 4 = l1 ∧ (l.take 11).drop 10 = l2 ∧ (l.take 12).drop 11 = l3 ∧ (l.take 13).drop 12 = l4 ∧ (S l).extract 18 (18 + u.toNat) = S l5 ∧ (S l).extract 0 11 = S pa ∧ (S l).extract 69 80 = S pb ∧
    (l0.length = 4 ∧ l1.length = 6 ∧ l2.length = 1 ∧ l3.length = 1 ∧ l4.length = 1 ∧ l5.length = u.toNat) ∧ ffieldsOf l = ⟨un l0, un l1, un l2, un l3, un l4, l5⟩ ∧ pa = l.take 11 ∧ pb = l.drop 69 ∧ un ((l.take 14).drop 13) = u.toNat := by
  refine ⟨_, _, _, _, _, (l.take (18 + u.toNat)).drop 18, l.take 11, l.drop 69, rfl, rfl, rfl, rfl, rfl, S_extract _ _ _, ?_, ?_, ?_, ?_, rfl, rfl, ?_⟩
  · rw [S_extract, List.drop_zero]
  · rw [S_extract, List.take_of_length_le (by omega)]
  · simp only [List.length_drop, List.length_take]; omega
  · unfold ffieldsOf; rw [h13, List.drop_zero]
  · exact un_13 h80 h13
theorem fbeq_yes {a b : List UInt8} (h : a = b) : (a == b) = true ∧ (a != b) = false := by
  subst h
  exact ⟨beq_self_eq_true a, bne_self_eq_false a⟩
theorem fbeq_no {a b : List UInt8} (h : ¬ a = b) : (a == b) = false ∧ (a != b) = true := ⟨beq_eq_false_iff_ne.2 h, bne_iff_ne.2 h⟩

/-- Where Decode stands when it jumps to its end. -/
def FJump (l : List UInt8) (w : World) (a : Act) (w' : World) : Prop :=
  a.tmps.size = 54 ∧ a.defers = [] ∧ a.tmps.getD 2 undef = .pointer (some ⟨w.heap.size, 0, none⟩) ∧ (∃ C : Array Value, C.size = 6 ∧ w'.heap[w.heap.size]? = some (.cells C 77 (0, 0))) ∧ Below w.heap.size w w' ∧ fdecodeOf l = none

set_option maxRecDepth 100000 in
set_option maxHeartbeats 8000000 in
theorem fDecode_any (l : List UInt8) (w : World) :
    Calls Try.prog 44 #[.string (S l)] w fun e w' => e = .returned (fdecVal l) ∧ Below w.heap.size w w' := by
  have HQ := Lib.hid (alloc_new w (.cells #[.int .i64 0, .int .i64 0, .int .i64 0, .int .i64 0, .int .u8 0, .string ⟨#[]⟩] 77))
  have HB := Lib.hid (alloc_below w (.cells #[.int .i64 0, .int .i64 0, .int .i64 0, .int .i64 0, .int .u8 0, .string ⟨#[]⟩] 77))
  go_enter Try.func44, Try.ntmps44
  go_wp2
  refine wp_scope_jumps 0 (FJump l w) (fun _ _ => 0) rfl ?_ ?_
  · by_cases h80 : l.length = 80
    · have h80' : (l.length : Int) = 80 := by omega
      obtain ⟨u, hu⟩ : ∃ u, l.getD 13 0 = u := ⟨_, rfl⟩
      by_cases h44 : u.toNat ≤ 44
      · have h44' : ¬ (44 : Int) < (u.toNat : Int) := by omega
        obtain ⟨l0, l1, l2, l3, l4, l5, pa, pb, x0, x1, x2, x3, x4, x5, xa, xb, hn, hf, hpa, hpb, hun⟩ := fpieces l u h80 h44 hu
        by_cases hag : pa = pb
        · obtain ⟨hcmp, hcmp2⟩ := fbeq_yes hag
          have N9 : Hid (∀ W, Calls Try.prog 70 #[.string (S l), .int .i64 13, .int .i64 14] W fun e w' => e = .returned (.int .i64 (u.toNat : Nat)) ∧ w' = W) := by
            intro W
            have h := fnumber_any l 13 14 W (by omega) (by omega) (by omega)
            rw [hun] at h
            exact h
          have N0 : Hid (∀ W, Calls Try.prog 70 #[.string (S l), .int .i64 0, .int .i64 4] W fun e w' => e = .returned (.int .i64 (un l0 : Nat)) ∧ w' = W) := by
            intro W
            have h := fnumber_any l 0 4 W (by omega) (by omega) (by omega)
            rw [x0] at h
            exact h
          have N1 : Hid (∀ W, Calls Try.prog 70 #[.string (S l), .int .i64 4, .int .i64 10] W fun e w' => e = .returned (.int .i64 (un l1 : Nat)) ∧ w' = W) := by
            intro W
            have h := fnumber_any l 4 10 W (by omega) (by omega) (by omega)
            rw [x1] at h
            exact h
          have N2 : Hid (∀ W, Calls Try.prog 70 #[.string (S l), .int .i64 10, .int .i64 11] W fun e w' => e = .returned (.int .i64 (un l2 : Nat)) ∧ w' = W) := by
            intro W
            have h := fnumber_any l 10 11 W (by omega) (by omega) (by omega)
            rw [x2] at h
            exact h
          have N3 : Hid (∀ W, Calls Try.prog 70 #[.string (S l), .int .i64 11, .int .i64 12] W fun e w' => e = .returned (.int .i64 (un l3 : Nat)) ∧ w' = W) := by
            intro W
            have h := fnumber_any l 11 12 W (by omega) (by omega) (by omega)
            rw [x3] at h
            exact h
          have N4 : Hid (∀ W, Calls Try.prog 70 #[.string (S l), .int .i64 12, .int .i64 13] W fun e w' => e = .returned (.int .i64 (un l4 : Nat)) ∧ w' = W) := by
            intro W
            have h := fnumber_any l 12 13 W (by omega) (by omega) (by omega)
            rw [x4] at h
            exact h
          have HN := Lib.hid hn
          have HF := Lib.hid hf
          clear x0 x1 x2 x3 x4 hun hpa hpb hag hn hf
          go_wp2_with (first | (go_at_call 70; (with_reducible refine (N9.out _).mono ?_); rintro e w' ⟨rfl, rfl⟩))
          go_region
          go_wp2_with (fail)
          obtain ⟨e1, e2, e3, e4⟩ := fu_facts h44
          have x5' : (S l).extract 18 (18 + (u.toNat : Int)).toNat = S l5 := by rw [show (18 + (u.toNat : Int)).toNat = 18 + u.toNat by omega]; exact x5
          have hkd : IntKind.u8.wrap ((un l4 : Nat) : Int) = ((un l4 : Nat) : Int) := by
            have h := un_lt l4
            rw [HN.out.2.2.2.2.1] at h
            rw [IntKind.wrap_u8]
            omega
          apply fwp_cut
          case h =>
            go_region_held3 (fun w' => True) (exact trivial)
              (first | (go_at_call 70; (with_reducible refine (N0.out _).mono ?_); rintro e w' ⟨rfl, rfl⟩) | (go_at_call 70; (with_reducible refine (N1.out _).mono ?_); rintro e w' ⟨rfl, rfl⟩) | (go_at_call 70; (with_reducible refine (N2.out _).mono ?_); rintro e w' ⟨rfl, rfl⟩) | (go_at_call 70; (with_reducible refine (N3.out _).mono ?_); rintro e w' ⟨rfl, rfl⟩) | (go_at_call 70; (with_reducible refine (N4.out _).mono ?_); rintro e w' ⟨rfl, rfl⟩))
            all_goals exact ⟨rfl, rfl, rfl⟩
          case k =>
            clear e1 e2 e3 e4 x5 x5' xa xb hcmp hcmp2 hkd N0 N1 N2 N3 N4 N9
            have n1 := alloc_new w (.cells #[.int .i64 (un l0), .int .i64 (un l1), .int .i64 (un l2), .int .i64 (un l3), .int .u8 (un l4), .string (S l5)] 77)
            have n2 := alloc_below w (.cells #[.int .i64 (un l0), .int .i64 (un l1), .int .i64 (un l2), .int .i64 (un l3), .int .u8 (un l4), .string (S l5)] 77)
            have n3 := alloc_size w (.cells #[.int .i64 (un l0), .int .i64 (un l1), .int .i64 (un l2), .int .i64 (un l3), .int .u8 (un l4), .string (S l5)] 77)
            generalize w.alloc (.cells #[.int .i64 (un l0), .int .i64 (un l1), .int .i64 (un l2), .int .i64 (un l3), .int .u8 (un l4), .string (S l5)] 77) = W at n1 n2 n3 ⊢
            have k0 : W.drew.drew.cell? ⟨w.heap.size, 0, none⟩ = some (.int .i64 (un l0)) := (cell_of n1 0).trans rfl
            have k1 : W.drew.drew.cell? ⟨w.heap.size, 1, none⟩ = some (.int .i64 (un l1)) := (cell_of n1 1).trans rfl
            have k2 : W.drew.drew.cell? ⟨w.heap.size, 2, none⟩ = some (.int .i64 (un l2)) := (cell_of n1 2).trans rfl
            have k3 : W.drew.drew.cell? ⟨w.heap.size, 3, none⟩ = some (.int .i64 (un l3)) := (cell_of n1 3).trans rfl
            have k4 : W.drew.drew.cell? ⟨w.heap.size, 4, none⟩ = some (.int .u8 (un l4)) := (cell_of n1 4).trans rfl
            have k5 : W.drew.drew.cell? ⟨w.heap.size, 5, none⟩ = some (.string (S l5)) := (cell_of n1 5).trans rfl
            have N1 := Lib.hid n1
            have N2 := Lib.hid n2
            have hlt0 : w.heap.size < W.heap.size := by omega
            have HL5 := Lib.hid (show l5.length ≤ 44 by have := HN.out; omega)
            have HDEC : Hid (fdecodeOf l = if (⟨un l0, un l1, un l2, un l3, un l4, l5⟩ : Frm).Ok ∧ (⟨un l0, un l1, un l2, un l3, un l4, l5⟩ : Frm).sec = l then some (⟨un l0, un l1, un l2, un l3, un l4, l5⟩ : Frm) else none) := by
              unfold Hid fdecodeOf
              rw [HF.out, hu]
              by_cases hc : (⟨un l0, un l1, un l2, un l3, un l4, l5⟩ : Frm).Ok ∧ (⟨un l0, un l1, un l2, un l3, un l4, l5⟩ : Frm).sec = l
              · rw [if_pos hc, if_pos ⟨⟨h80, h44⟩, hc⟩]
              · rw [if_neg hc, if_neg (fun h => hc h.2)]
            have HUN : Hid (un l0 < 4294967296 ∧ un l1 < 281474976710656 ∧ un l2 < 256 ∧ un l3 < 256 ∧ un l4 < 256) := by
              have u0 := un_lt l0
              have u1 := un_lt l1
              have u2 := un_lt l2
              have u3 := un_lt l3
              have u4 := un_lt l4
              obtain ⟨g0, g1, g2, g3, g4, g5⟩ := HN.out
              rw [g0] at u0
              rw [g1] at u1
              rw [g2] at u2
              rw [g3] at u3
              rw [g4] at u4
              exact ⟨u0, u1, u2, u3, u4⟩
            clear n1 n2 n3 HN HF h80 h80' hu h44 h44'
            go_wp2_with (fail)
            by_cases hok : (⟨un l0, un l1, un l2, un l3, un l4, l5⟩ : Frm).Ok
            · have HOK := Lib.hid hok
              clear hok
              refine (fEncode_ok (⟨un l0, un l1, un l2, un l3, un l4, l5⟩ : Frm) _ HOK.out).mono ?_
              rintro e w3 ⟨rfl, b3⟩
              have j0 := below_cell b3 k0
              have j1 := below_cell b3 k1
              have j2 := below_cell b3 k2
              have j3 := below_cell b3 k3
              have j4 := below_cell b3 k4
              have j5 := below_cell b3 k5
              have HM := Lib.hid ((b3.block _ hlt0).trans N1.out)
              have HB3 := Lib.hid (below_step b3 N2.out.drew.drew (Nat.le_refl _))
              clear k0 k1 k2 k3 k4 k5 b3
              by_cases hs : (⟨un l0, un l1, un l2, un l3, un l4, l5⟩ : Frm).sec = l
              · have HS := Lib.hid hs
                clear hs
                have HV := Lib.hid (fdecVal_some (by rw [HDEC.out, if_pos ⟨HOK.out, HS.out⟩] : fdecodeOf l = some (⟨un l0, un l1, un l2, un l3, un l4, l5⟩ : Frm)))
                obtain ⟨tt, ht⟩ : ∃ x, (⟨un l0, un l1, un l2, un l3, un l4, l5⟩ : Frm).sec = x := ⟨_, rfl⟩
                obtain ⟨hcmp, hcmp2⟩ := fbeq_yes (ht.symm.trans HS.out)
                rw [ht]
                clear ht HS HDEC
                go_wp2_with (refine wpList_store_block rfl 77 _ _ rfl w.heap.size #[.int .i64 (un l0), .int .i64 (un l1), .int .i64 (un l2), .int .i64 (un l3), .int .u8 (un l4), .string (S l5)] rfl rfl 77 _ HM.out (by kernel_rfl) rfl (by simp [Value.oneCell']) ?_)
                simp only [Exit.jump]
                exact bodyPost_ret (results_cell2 rfl _ _ w.heap.size _ 77 (0, 0) rfl (setBlock_same (Array.getElem?_eq_some_iff.1 HM.out).1 _) _ Try.underlying77 rfl (by kernel_rfl)) rfl ⟨by rw [HV.out]; rfl, (Keeps.setBlock (S := fun x => x = w.heap.size) (.refl _ _) (fun _ => rfl) _).belowOf HB3.out HB3.out.size (fun x hx e => by omega)⟩
              · have HS := Lib.hid hs
                clear hs
                have hd := Lib.hid (by rw [HDEC.out, if_neg (fun h => HS.out h.2)] : fdecodeOf l = none)
                obtain ⟨tt, ht⟩ : ∃ x, (⟨un l0, un l1, un l2, un l3, un l4, l5⟩ : Frm).sec = x := ⟨_, rfl⟩
                obtain ⟨hcmp, hcmp2⟩ := fbeq_no (a := tt) (b := l) (fun h => HS.out (ht.trans h))
                rw [ht]
                clear ht HS HDEC j0 j1 j2 j3 j4 j5
                go_wp2
                go_step3
                exact ⟨rfl, rfl, rfl, rfl, ⟨_, rfl, HM.out⟩, HB3.out, hd.out⟩
            · have hd := Lib.hid (by rw [HDEC.out, if_neg (fun h => hok h.1)] : fdecodeOf l = none)
              have hbad := Lib.hid (show ¬ FOk (un l0 : Nat) (un l1 : Nat) (un l2 : Nat) (un l3 : Nat) from fun h => hok (by
                have hu := HUN.out
                have h4 := HL5.out
                unfold FOk at h
                unfold Frm.Ok
                dsimp only
                omega))
              clear hok
              refine (fEncode_arg _ _ _ _ _ l5 _ HL5.out hbad.out).mono ?_
              rintro e w3 ⟨rfl, b3⟩
              have HM := Lib.hid ((b3.block _ hlt0).trans N1.out)
              have HB3 := Lib.hid (below_step b3 N2.out.drew.drew (Nat.le_refl _))
              clear k0 k1 k2 k3 k4 k5 b3
              go_wp2
              go_step3
              exact ⟨rfl, rfl, rfl, rfl, ⟨_, rfl, HM.out⟩, HB3.out, hd.out⟩
        · obtain ⟨hcmp, hcmp2⟩ := fbeq_no hag
          have hd := Lib.hid (fdecodeOf_again (s := l) (by rw [← hpa, ← hpb]; exact hag))
          have N9 : Hid (∀ W, Calls Try.prog 70 #[.string (S l), .int .i64 13, .int .i64 14] W fun e w' => e = .returned (.int .i64 (u.toNat : Nat)) ∧ w' = W) := by
            intro W
            have h := fnumber_any l 13 14 W (by omega) (by omega) (by omega)
            rw [hun] at h
            exact h
          clear x0 x1 x2 x3 x4 hun hpa hpb hag hn hf
          go_wp2_with (first | (go_at_call 70; (with_reducible refine (N9.out _).mono ?_); rintro e w' ⟨rfl, rfl⟩))
          go_region
          go_wp2
          go_step3
          exact ⟨rfl, rfl, rfl, rfl, ⟨_, rfl, HQ.out⟩, HB.out.drew, hd.out⟩
      · have h44' : (44 : Int) < (u.toNat : Int) := by omega
        have hd := Lib.hid (fdecodeOf_bad (s := l) (fun h => h44 (by rw [← hu]; exact h.2)))
        have hun : un ((l.take 14).drop 13) = u.toNat := un_13 h80 hu
        have N9 : Hid (∀ W, Calls Try.prog 70 #[.string (S l), .int .i64 13, .int .i64 14] W fun e w' => e = .returned (.int .i64 (u.toNat : Nat)) ∧ w' = W) := by
          intro W
          have h := fnumber_any l 13 14 W (by omega) (by omega) (by omega)
          rw [hun] at h
          exact h
        clear hun
        go_wp2_with (first | (go_at_call 70; (with_reducible refine (N9.out _).mono ?_); rintro e w' ⟨rfl, rfl⟩))
        go_step3
        exact ⟨rfl, rfl, rfl, rfl, ⟨_, rfl, HQ.out⟩, HB.out, hd.out⟩
    · have hd := Lib.hid (fdecodeOf_bad (s := l) (fun h => h80 h.1))
      have h80' : ((l.length : Int) == 80) = false := by rw [beq_eq_false_iff_ne]; omega
      have h80n : ((l.length : Int) != 80) = true := by rw [bne_iff_ne]; omega
      go_wp2
      go_step3
      exact ⟨rfl, rfl, rfl, rfl, ⟨_, rfl, HQ.out⟩, HB.out, hd.out⟩
  · rintro a' w' ⟨j1, j2, j3, ⟨C, hC, j4⟩, j5, j6⟩
    obtain ⟨f, hf, rfl⟩ := act54 j1 j2 j3
    have HV := Lib.hid (fdecVal_none j6)
    have J4 := Lib.hid j4
    have J5 := Lib.hid j5
    clear j1 j2 j3 j4 j5 j6
    rw [hf]
    go_wp2_with (refine wpList_store_block rfl 77 _ _ rfl w.heap.size #[.int .i64 0, .int .i64 0, .int .i64 0, .int .i64 0, .int .u8 0, .string ⟨#[]⟩] rfl rfl 77 C J4.out (by kernel_rfl) hC (by simp [Value.oneCell']) ?_)
    simp only [Exit.jump]
    exact bodyPost_ret (results_cell2 rfl _ _ w.heap.size _ 77 (0, 0) rfl (setBlock_same (Array.getElem?_eq_some_iff.1 J4.out).1 _) _ Try.underlying77 rfl (by kernel_rfl)) rfl ⟨by rw [HV.out]; rfl, (Keeps.setBlock (S := fun x => x = w.heap.size) (.refl _ _) (fun _ => rfl) _).belowOf J5.out J5.out.size (fun x hx e => by omega)⟩
end Go.Proofs.Ytjpelmjocdodcaa
