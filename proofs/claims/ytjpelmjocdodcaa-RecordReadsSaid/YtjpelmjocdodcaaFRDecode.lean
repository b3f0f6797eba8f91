/- sacristanref05.Decode: what each call returns. -/
import Derived.Test.YtjpelmjocdodcaaFDecode
import Derived.Test.YtjpelmjocdodcaaRef05Enc
namespace Go.Proofs.Ytjpelmjocdodcaa
open Go.RowKit

theorem getD_S {l : List UInt8} {i : Nat} (h : i < l.length) : l.getD i 0 = (S l)[i]'(by rw [S_size]; exact h) := by
  rw [List.getD_eq_getElem?_getD, List.getElem?_eq_getElem h]
  rfl
theorem u8_wrap (u : UInt8) : IntKind.i64.wrap (u.toNat : Int) = (u.toNat : Int) := by
  have := u.toNat_lt
  rw [IntKind.wrap_i64]
  omega
theorem un_one {l : List UInt8} {i : Nat} {u : UInt8} (h : i < l.length) (hu : l.getD i 0 = u) : un ((l.take (i + 1)).drop i) = u.toNat := by
  have e : (l.take (i + 1)).drop i = [u] := by
    rw [← hu]
    apply List.ext_getElem
    · simp; omega
    · intro k h1 h2
      have hi : k = 0 := by simpa using h2
      subst hi
      simp [List.getD_eq_getElem?_getD, List.getElem?_eq_getElem h]
  rw [e]
  simp [un]

set_option linter.unusedSimpArgs false in
set_option maxRecDepth 100000 in
set_option maxHeartbeats 8000000 in
theorem frDecode_any (l : List UInt8) (w : World) :
    Calls Try.prog 72 #[.string (S l)] w fun e w' => e = .returned (fdecVal l) ∧ Below w.heap.size w w' := by
  have HQ := Lib.hid (alloc_new w (.cells #[.int .i64 0, .int .i64 0, .int .i64 0, .int .i64 0, .int .u8 0, .string ⟨#[]⟩] 77))
  have HB := Lib.hid (alloc_below w (.cells #[.int .i64 0, .int .i64 0, .int .i64 0, .int .i64 0, .int .u8 0, .string ⟨#[]⟩] 77))
  by_cases h80 : l.length = 80
  · have h10 : 10 < (S l).size := by rw [S_size]; omega
    have h11 : 11 < (S l).size := by rw [S_size]; omega
    have h12 : 12 < (S l).size := by rw [S_size]; omega
    have h13 : 13 < (S l).size := by rw [S_size]; omega
    have d10 : l.getD 10 0 = (S l)[10] := getD_S (by omega)
    have d11 : l.getD 11 0 = (S l)[11] := getD_S (by omega)
    have d12 : l.getD 12 0 = (S l)[12] := getD_S (by omega)
    have d13 : l.getD 13 0 = (S l)[13] := getD_S (by omega)
    have h80' : (l.length : Int) = 80 := by omega
    obtain ⟨v2, hv2⟩ : ∃ u, (S l)[10] = u := ⟨_, rfl⟩
    obtain ⟨v3, hv3⟩ : ∃ u, (S l)[11] = u := ⟨_, rfl⟩
    obtain ⟨v4, hv4⟩ : ∃ u, (S l)[12] = u := ⟨_, rfl⟩
    obtain ⟨u, hu⟩ : ∃ u, (S l)[13] = u := ⟨_, rfl⟩
    rw [hv2] at d10
    rw [hv3] at d11
    rw [hv4] at d12
    rw [hu] at d13
    have wu : IntKind.i64.wrap (u.toNat : Int) = (u.toNat : Int) := u8_wrap u
    by_cases h36 : u.toNat ≤ 44
    · obtain ⟨l0, l1, l2, l3, l4, l5, pa, pb, x0, x1, x2, x3, x4, x5, xa, xb, hn, hf, hpa, hpb, hun⟩ := fpieces l u h80 h36 d13
      have y2 : un l2 = v2.toNat := by rw [← x2]; exact un_one (by omega) d10
      have y3 : un l3 = v3.toNat := by rw [← x3]; exact un_one (by omega) d11
      have y4 : un l4 = v4.toNat := by rw [← x4]; exact un_one (by omega) d12
      have z0 : (S l).extract 0 4 = S l0 := by rw [← x0]; exact S_extract _ _ _
      have z1 : (S l).extract 4 10 = S l1 := by rw [← x1]; exact S_extract _ _ _
      rw [y2, y3, y4] at hf
      have M0 := Lib.hid (show 1 ≤ l0.length ∧ l0.length ≤ 7 by omega)
      have M1 := Lib.hid (show 1 ≤ l1.length ∧ l1.length ≤ 7 by omega)
      have w2 : IntKind.i64.wrap (v2.toNat : Int) = (v2.toNat : Int) := u8_wrap v2
      have w3 : IntKind.i64.wrap (v3.toNat : Int) = (v3.toNat : Int) := u8_wrap v3
      have hdec : fdecodeOf l = if (ffieldsOf l).Ok ∧ (ffieldsOf l).sec = l then some (ffieldsOf l) else none := by
        unfold fdecodeOf
        by_cases hc : (ffieldsOf l).Ok ∧ (ffieldsOf l).sec = l
        · rw [if_pos hc, if_pos ⟨⟨h80, by rw [d13]; exact h36⟩, hc⟩]
        · rw [if_neg hc, if_neg (fun h => hc h.2)]
      rw [hf] at hdec
      have HDEC := Lib.hid hdec
      have HL5 := Lib.hid (show l5.length ≤ 44 by omega)
      have HUN := Lib.hid (show un l0 < 4294967296 ∧ un l1 < 281474976710656 ∧ v2.toNat < 256 ∧ v3.toNat < 256 ∧ v4.toNat < 256 by
        have u0 := un_lt l0
        have u1 := un_lt l1
        rw [hn.1] at u0
        rw [hn.2.1] at u1
        exact ⟨u0, u1, v2.toNat_lt, v3.toNat_lt, v4.toNat_lt⟩)
      clear d10 d11 d12 d13 hn hf hdec hpa hpb hun xa xb y2 y3 y4 x0 x1 x2 x3 x4
      go_enter Try.func72, Try.ntmps72
      go_wp2_with (fail)
      obtain ⟨e1, e2, e3, e4⟩ := fu_facts h36
      have x5' : (S l).extract 18 (18 + (u.toNat : Int)).toNat = S l5 := by rw [show (18 + (u.toNat : Int)).toNat = 18 + u.toNat by omega]; exact x5
      apply fwp_cut
      case h =>
        refine wp_region_held_drew (S := fun _ => True) (by kernel_rfl) trivial (fun hHeld => ?_)
        refine wpAnyH_take (i := 0) (oi := ?oi1) (v := ?v1) ?hi1 ?hs1 ?hf1 ?hr1 ?hQ1 ?hy1 ?hS1 ?rest1
        case hi1 => simp only [List.getElem?_toArray, List.getElem?_cons_succ, List.getElem?_cons_zero]; exact rfl
        case hs1 => kernel_rfl
        case hf1 => kernel_rfl
        case hr1 => kernel_rfl
        case hy1 => refine Or.inl ⟨by rfl, ?_⟩; intro w hSw; go_simp; try with_reducible rfl
        case hQ1 => exact fun _ _ _ h => absurd h.1 (fun e => by cases e)
        case hS1 => exact trivial
        simp only [Act.put, List.setIfInBounds_toArray, List.set_cons_zero, List.set_cons_succ]
        refine wpAnyH_take (i := 1) (oi := ?oi2) (v := ?v2) ?hi2 ?hs2 ?hf2 ?hr2 ?hQ2 ?hy2 ?hS2 ?rest2
        case hi2 => simp only [List.getElem?_toArray, List.getElem?_cons_succ, List.getElem?_cons_zero]; exact rfl
        case hs2 => kernel_rfl
        case hf2 => kernel_rfl
        case hr2 => kernel_rfl
        case hy2 => refine Or.inl ⟨by rfl, ?_⟩; intro w hSw; go_simp; try with_reducible rfl
        case hQ2 => exact fun _ _ _ h => absurd h.1 (fun e => by cases e)
        case hS2 => exact trivial
        simp only [Act.put, List.setIfInBounds_toArray, List.set_cons_zero, List.set_cons_succ]
        refine wpAnyH_take (i := 3) (oi := ?oi3) (v := ?v3) ?hi3 ?hs3 ?hf3 ?hr3 ?hQ3 ?hy3 ?hS3 ?rest3
        case hi3 => simp only [List.getElem?_toArray, List.getElem?_cons_succ, List.getElem?_cons_zero]; exact rfl
        case hs3 => kernel_rfl
        case hf3 => kernel_rfl
        case hr3 => kernel_rfl
        case hy3 => refine Or.inl ⟨by rfl, ?_⟩; intro w hSw; go_simp; try with_reducible rfl
        case hQ3 => exact fun _ _ _ h => absurd h.1 (fun e => by cases e)
        case hS3 => exact trivial
        simp only [Act.put, List.setIfInBounds_toArray, List.set_cons_zero, List.set_cons_succ]
        refine wpAnyH_take (i := 4) (oi := ?oi4) (v := ?v4) ?hi4 ?hs4 ?hf4 ?hr4 ?hQ4 ?hy4 ?hS4 ?rest4
        case hi4 => simp only [List.getElem?_toArray, List.getElem?_cons_succ, List.getElem?_cons_zero]; exact rfl
        case hs4 => kernel_rfl
        case hf4 => kernel_rfl
        case hr4 => kernel_rfl
        case hy4 => refine Or.inl ⟨by rfl, ?_⟩; intro w hSw; go_simp; try with_reducible rfl
        case hQ4 => exact fun _ _ _ h => absurd h.1 (fun e => by cases e)
        case hS4 => exact trivial
        simp only [Act.put, List.setIfInBounds_toArray, List.set_cons_zero, List.set_cons_succ]
        refine wpAnyH_take (i := 6) (oi := ?oi5) (v := ?v5) ?hi5 ?hs5 ?hf5 ?hr5 ?hQ5 ?hy5 ?hS5 ?rest5
        case hi5 => simp only [List.getElem?_toArray, List.getElem?_cons_succ, List.getElem?_cons_zero]; exact rfl
        case hs5 => kernel_rfl
        case hf5 => kernel_rfl
        case hr5 => kernel_rfl
        case hy5 => refine Or.inl ⟨by rfl, ?_⟩; intro w hSw; go_simp; try with_reducible rfl
        case hQ5 => exact fun _ _ _ h => absurd h.1 (fun e => by cases e)
        case hS5 => exact trivial
        simp only [Act.put, List.setIfInBounds_toArray, List.set_cons_zero, List.set_cons_succ]
        refine wpAnyH_take (i := 7) (oi := ?oi6) (v := ?v6) ?hi6 ?hs6 ?hf6 ?hr6 ?hQ6 ?hy6 ?hS6 ?rest6
        case hi6 => simp only [List.getElem?_toArray, List.getElem?_cons_succ, List.getElem?_cons_zero]; exact rfl
        case hs6 => kernel_rfl
        case hf6 => kernel_rfl
        case hr6 => kernel_rfl
        case hy6 => refine Or.inl ⟨by rfl, ?_⟩; intro w hSw; go_simp; try with_reducible rfl
        case hQ6 => exact fun _ _ _ h => absurd h.1 (fun e => by cases e)
        case hS6 => exact trivial
        simp only [Act.put, List.setIfInBounds_toArray, List.set_cons_zero, List.set_cons_succ]
        refine wpAnyH_take (i := 8) (oi := ?oi7) (v := ?v7) ?hi7 ?hs7 ?hf7 ?hr7 ?hQ7 ?hy7 ?hS7 ?rest7
        case hi7 => simp only [List.getElem?_toArray, List.getElem?_cons_succ, List.getElem?_cons_zero]; exact rfl
        case hs7 => kernel_rfl
        case hf7 => kernel_rfl
        case hr7 => kernel_rfl
        case hy7 => refine Or.inl ⟨by rfl, ?_⟩; intro w hSw; go_simp; try with_reducible rfl
        case hQ7 => exact fun _ _ _ h => absurd h.1 (fun e => by cases e)
        case hS7 => exact trivial
        simp only [Act.put, List.setIfInBounds_toArray, List.set_cons_zero, List.set_cons_succ]
        refine wpAnyH_take (i := 9) (oi := ?oi8) (v := ?v8) ?hi8 ?hs8 ?hf8 ?hr8 ?hQ8 ?hy8 ?hS8 ?rest8
        case hi8 => simp only [List.getElem?_toArray, List.getElem?_cons_succ, List.getElem?_cons_zero]; exact rfl
        case hs8 => kernel_rfl
        case hf8 => kernel_rfl
        case hr8 => kernel_rfl
        case hy8 => refine Or.inl ⟨by rfl, ?_⟩; intro w hSw; go_simp; try with_reducible rfl
        case hQ8 => exact fun _ _ _ h => absurd h.1 (fun e => by cases e)
        case hS8 => exact trivial
        simp only [Act.put, List.setIfInBounds_toArray, List.set_cons_zero, List.set_cons_succ]
        refine wpAnyH_take (i := 10) (oi := ?oi9) (v := ?v9) ?hi9 ?hs9 ?hf9 ?hr9 ?hQ9 ?hy9 ?hS9 ?rest9
        case hi9 => simp only [List.getElem?_toArray, List.getElem?_cons_succ, List.getElem?_cons_zero]; exact rfl
        case hs9 => kernel_rfl
        case hf9 => kernel_rfl
        case hr9 => kernel_rfl
        case hy9 => refine Or.inl ⟨by rfl, ?_⟩; intro w hSw; go_simp; try with_reducible rfl
        case hQ9 => exact fun _ _ _ h => absurd h.1 (fun e => by cases e)
        case hS9 => exact trivial
        simp only [Act.put, List.setIfInBounds_toArray, List.set_cons_zero, List.set_cons_succ]
        refine wpAnyH_take (i := 11) (oi := ?oi10) (v := ?v10) ?hi10 ?hs10 ?hf10 ?hr10 ?hQ10 ?hy10 ?hS10 ?rest10
        case hi10 => simp only [List.getElem?_toArray, List.getElem?_cons_succ, List.getElem?_cons_zero]; exact rfl
        case hs10 => kernel_rfl
        case hf10 => kernel_rfl
        case hr10 => kernel_rfl
        case hy10 => refine Or.inl ⟨by rfl, ?_⟩; intro w hSw; go_simp; try with_reducible rfl
        case hQ10 => exact fun _ _ _ h => absurd h.1 (fun e => by cases e)
        case hS10 => exact trivial
        simp only [Act.put, List.setIfInBounds_toArray, List.set_cons_zero, List.set_cons_succ]
        refine wpAnyH_take (i := 12) (oi := ?oi11) (v := ?v11) ?hi11 ?hs11 ?hf11 ?hr11 ?hQ11 ?hy11 ?hS11 ?rest11
        case hi11 => simp only [List.getElem?_toArray, List.getElem?_cons_succ, List.getElem?_cons_zero]; exact rfl
        case hs11 => kernel_rfl
        case hf11 => kernel_rfl
        case hr11 => kernel_rfl
        case hy11 => refine Or.inl ⟨by rfl, ?_⟩; intro w hSw; go_simp; try with_reducible rfl
        case hQ11 => exact fun _ _ _ h => absurd h.1 (fun e => by cases e)
        case hS11 => exact trivial
        simp only [Act.put, List.setIfInBounds_toArray, List.set_cons_zero, List.set_cons_succ]
        refine wpAnyH_take (i := 13) (oi := ?oi12) (v := ?v12) ?hi12 ?hs12 ?hf12 ?hr12 ?hQ12 ?hy12 ?hS12 ?rest12
        case hi12 => simp only [List.getElem?_toArray, List.getElem?_cons_succ, List.getElem?_cons_zero]; exact rfl
        case hs12 => kernel_rfl
        case hf12 => kernel_rfl
        case hr12 => kernel_rfl
        case hy12 => refine Or.inl ⟨by rfl, ?_⟩; intro w hSw; go_simp; try with_reducible rfl
        case hQ12 => exact fun _ _ _ h => absurd h.1 (fun e => by cases e)
        case hS12 => exact trivial
        simp only [Act.put, List.setIfInBounds_toArray, List.set_cons_zero, List.set_cons_succ]
        refine wpAnyH_take (i := 14) (oi := ?oi13) (v := ?v13) ?hi13 ?hs13 ?hf13 ?hr13 ?hQ13 ?hy13 ?hS13 ?rest13
        case hi13 => simp only [List.getElem?_toArray, List.getElem?_cons_succ, List.getElem?_cons_zero]; exact rfl
        case hs13 => kernel_rfl
        case hf13 => kernel_rfl
        case hr13 => kernel_rfl
        case hy13 => refine Or.inl ⟨by rfl, ?_⟩; intro w hSw; go_simp; try with_reducible rfl
        case hQ13 => exact fun _ _ _ h => absurd h.1 (fun e => by cases e)
        case hS13 => exact trivial
        simp only [Act.put, List.setIfInBounds_toArray, List.set_cons_zero, List.set_cons_succ]
        refine wpAnyH_take (i := 15) (oi := ?oi14) (v := ?v14) ?hi14 ?hs14 ?hf14 ?hr14 ?hQ14 ?hy14 ?hS14 ?rest14
        case hi14 => simp only [List.getElem?_toArray, List.getElem?_cons_succ, List.getElem?_cons_zero]; exact rfl
        case hs14 => kernel_rfl
        case hf14 => kernel_rfl
        case hr14 => kernel_rfl
        case hy14 => refine Or.inl ⟨by rfl, ?_⟩; intro w hSw; go_simp; try with_reducible rfl
        case hQ14 => exact fun _ _ _ h => absurd h.1 (fun e => by cases e)
        case hS14 => exact trivial
        simp only [Act.put, List.setIfInBounds_toArray, List.set_cons_zero, List.set_cons_succ]
        refine wpAnyH_take (i := 16) (oi := ?oi15) (v := ?v15) ?hi15 ?hs15 ?hf15 ?hr15 ?hQ15 ?hy15 ?hS15 ?rest15
        case hi15 => simp only [List.getElem?_toArray, List.getElem?_cons_succ, List.getElem?_cons_zero]; exact rfl
        case hs15 => kernel_rfl
        case hf15 => kernel_rfl
        case hr15 => kernel_rfl
        case hy15 => refine Or.inl ⟨by rfl, ?_⟩; intro w hSw; go_simp; try with_reducible rfl
        case hQ15 => exact fun _ _ _ h => absurd h.1 (fun e => by cases e)
        case hS15 => exact trivial
        simp only [Act.put, List.setIfInBounds_toArray, List.set_cons_zero, List.set_cons_succ]
        refine wpAnyH_take (i := 17) (oi := ?oi16) (v := ?v16) ?hi16 ?hs16 ?hf16 ?hr16 ?hQ16 ?hy16 ?hS16 ?rest16
        case hi16 => simp only [List.getElem?_toArray, List.getElem?_cons_succ, List.getElem?_cons_zero]; exact rfl
        case hs16 => kernel_rfl
        case hf16 => kernel_rfl
        case hr16 => kernel_rfl
        case hy16 => refine Or.inl ⟨by rfl, ?_⟩; intro w hSw; go_simp; try with_reducible rfl
        case hQ16 => exact fun _ _ _ h => absurd h.1 (fun e => by cases e)
        case hS16 => exact trivial
        simp only [Act.put, List.setIfInBounds_toArray, List.set_cons_zero, List.set_cons_succ]
        refine wpAnyH_take (i := 18) (oi := ?oi17) (v := ?v17) ?hi17 ?hs17 ?hf17 ?hr17 ?hQ17 ?hy17 ?hS17 ?rest17
        case hi17 => simp only [List.getElem?_toArray, List.getElem?_cons_succ, List.getElem?_cons_zero]; exact rfl
        case hs17 => kernel_rfl
        case hf17 => kernel_rfl
        case hr17 => kernel_rfl
        case hy17 => refine Or.inl ⟨by rfl, ?_⟩; intro w hSw; go_simp; try with_reducible rfl
        case hQ17 => exact fun _ _ _ h => absurd h.1 (fun e => by cases e)
        case hS17 => exact trivial
        simp only [Act.put, List.setIfInBounds_toArray, List.set_cons_zero, List.set_cons_succ]
        refine wpAnyH_take (i := 19) (oi := ?oi18) (v := ?v18) ?hi18 ?hs18 ?hf18 ?hr18 ?hQ18 ?hy18 ?hS18 ?rest18
        case hi18 => simp only [List.getElem?_toArray, List.getElem?_cons_succ, List.getElem?_cons_zero]; exact rfl
        case hs18 => kernel_rfl
        case hf18 => kernel_rfl
        case hr18 => kernel_rfl
        case hy18 => refine Or.inl ⟨by rfl, ?_⟩; intro w hSw; go_simp; try with_reducible rfl
        case hQ18 => exact fun _ _ _ h => absurd h.1 (fun e => by cases e)
        case hS18 => exact trivial
        simp only [Act.put, List.setIfInBounds_toArray, List.set_cons_zero, List.set_cons_succ]
        refine wpAnyH_ready (rs := [2, 21]) (by kernel_rfl) (by simp) ?_
        refine AllReadyH.cons (o := ?o19) ?ho19 (fun K hK => ?step19) ?more19
        case ho19 => simp only [List.getElem?_toArray, List.getElem?_cons_succ, List.getElem?_cons_zero]; exact rfl
        case step19 =>
          go_simp
          (first | (go_at_call 94; (with_reducible refine (rnumber_any l0 _ M0.out.1 M0.out.2).mono ?_); rintro e w' ⟨rfl, rfl⟩) | (go_at_call 94; (with_reducible refine (rnumber_any l1 _ M1.out.1 M1.out.2).mono ?_); rintro e w' ⟨rfl, rfl⟩))
          refine hK.out _ _ trivial (fun hHeld => ?_)
          clear hK K
          try simp only [Act.put, List.setIfInBounds_toArray, List.set_cons_zero, List.set_cons_succ]
          refine wpAnyH_ready (rs := [5, 21]) (by kernel_rfl) (by simp) ?_
          refine AllReadyH.cons (o := ?o20) ?ho20 (fun K hK => ?step20) ?more20
          case ho20 => simp only [List.getElem?_toArray, List.getElem?_cons_succ, List.getElem?_cons_zero]; exact rfl
          case step20 =>
            go_simp
            (first | (go_at_call 94; (with_reducible refine (rnumber_any l0 _ M0.out.1 M0.out.2).mono ?_); rintro e w' ⟨rfl, rfl⟩) | (go_at_call 94; (with_reducible refine (rnumber_any l1 _ M1.out.1 M1.out.2).mono ?_); rintro e w' ⟨rfl, rfl⟩))
            refine hK.out _ _ trivial (fun hHeld => ?_)
            clear hK K
            try simp only [Act.put, List.setIfInBounds_toArray, List.set_cons_zero, List.set_cons_succ]
            refine wpAnyH_take (i := 20) (oi := ?oi21) (v := ?v21) ?hi21 ?hs21 ?hf21 ?hr21 ?hQ21 ?hy21 ?hS21 ?rest21
            case hi21 => simp only [List.getElem?_toArray, List.getElem?_cons_succ, List.getElem?_cons_zero]; exact rfl
            case hs21 => kernel_rfl
            case hf21 => kernel_rfl
            case hr21 => kernel_rfl
            case hy21 => refine Or.inl ⟨by rfl, ?_⟩; intro w hSw; go_simp; try with_reducible rfl
            case hQ21 => exact fun _ _ _ h => absurd h.1 (fun e => by cases e)
            case hS21 => exact trivial
            simp only [Act.put, List.setIfInBounds_toArray, List.set_cons_zero, List.set_cons_succ]
            refine wpAnyH_ready (rs := [21]) (by kernel_rfl) (by simp) ?_
            refine AllReadyH.cons (o := ?o22) ?ho22 (fun K hK => ?step22) ?more22
            case ho22 => simp only [List.getElem?_toArray, List.getElem?_cons_succ, List.getElem?_cons_zero]; exact rfl
            case step22 =>
              go_simp
              refine hK.out _ _ trivial (fun hHeld => ?_)
              clear hK K
              try simp only [Act.put, List.setIfInBounds_toArray, List.set_cons_zero, List.set_cons_succ]
              refine wpAnyH_ready (rs := [22]) (by kernel_rfl) (by simp) ?_
              refine AllReadyH.cons (o := ?o23) ?ho23 (fun K hK => ?step23) ?more23
              case ho23 => simp only [List.getElem?_toArray, List.getElem?_cons_succ, List.getElem?_cons_zero]; exact rfl
              case step23 =>
                go_simp
                refine hK.out _ _ trivial (fun hHeld => ?_)
                clear hK K
                try simp only [Act.put, List.setIfInBounds_toArray, List.set_cons_zero, List.set_cons_succ]
                refine wpAnyH_done (by kernel_rfl) ?_ _
                exact ⟨rfl, rfl, rfl⟩
              exact AllReadyH.nil
            exact AllReadyH.nil
          refine AllReadyH.cons (o := ?o24) ?ho24 (fun K hK => ?step24) ?more24
          case ho24 => simp only [List.getElem?_toArray, List.getElem?_cons_succ, List.getElem?_cons_zero]; exact rfl
          case step24 =>
            go_simp
            refine hK.out _ _ trivial (fun hHeld => ?_)
            clear hK K
            try simp only [Act.put, List.setIfInBounds_toArray, List.set_cons_zero, List.set_cons_succ]
            refine wpAnyH_ready (rs := [5]) (by kernel_rfl) (by simp) ?_
            refine AllReadyH.cons (o := ?o25) ?ho25 (fun K hK => ?step25) ?more25
            case ho25 => simp only [List.getElem?_toArray, List.getElem?_cons_succ, List.getElem?_cons_zero]; exact rfl
            case step25 =>
              go_simp
              (first | (go_at_call 94; (with_reducible refine (rnumber_any l0 _ M0.out.1 M0.out.2).mono ?_); rintro e w' ⟨rfl, rfl⟩) | (go_at_call 94; (with_reducible refine (rnumber_any l1 _ M1.out.1 M1.out.2).mono ?_); rintro e w' ⟨rfl, rfl⟩))
              refine hK.out _ _ trivial (fun hHeld => ?_)
              clear hK K
              try simp only [Act.put, List.setIfInBounds_toArray, List.set_cons_zero, List.set_cons_succ]
              refine wpAnyH_take (i := 20) (oi := ?oi26) (v := ?v26) ?hi26 ?hs26 ?hf26 ?hr26 ?hQ26 ?hy26 ?hS26 ?rest26
              case hi26 => simp only [List.getElem?_toArray, List.getElem?_cons_succ, List.getElem?_cons_zero]; exact rfl
              case hs26 => kernel_rfl
              case hf26 => kernel_rfl
              case hr26 => kernel_rfl
              case hy26 => refine Or.inl ⟨by rfl, ?_⟩; intro w hSw; go_simp; try with_reducible rfl
              case hQ26 => exact fun _ _ _ h => absurd h.1 (fun e => by cases e)
              case hS26 => exact trivial
              simp only [Act.put, List.setIfInBounds_toArray, List.set_cons_zero, List.set_cons_succ]
              refine wpAnyH_ready (rs := [22]) (by kernel_rfl) (by simp) ?_
              refine AllReadyH.cons (o := ?o27) ?ho27 (fun K hK => ?step27) ?more27
              case ho27 => simp only [List.getElem?_toArray, List.getElem?_cons_succ, List.getElem?_cons_zero]; exact rfl
              case step27 =>
                go_simp
                refine hK.out _ _ trivial (fun hHeld => ?_)
                clear hK K
                try simp only [Act.put, List.setIfInBounds_toArray, List.set_cons_zero, List.set_cons_succ]
                refine wpAnyH_done (by kernel_rfl) ?_ _
                exact ⟨rfl, rfl, rfl⟩
              exact AllReadyH.nil
            exact AllReadyH.nil
          exact AllReadyH.nil
        refine AllReadyH.cons (o := ?o28) ?ho28 (fun K hK => ?step28) ?more28
        case ho28 => simp only [List.getElem?_toArray, List.getElem?_cons_succ, List.getElem?_cons_zero]; exact rfl
        case step28 =>
          go_simp
          refine hK.out _ _ trivial (fun hHeld => ?_)
          clear hK K
          try simp only [Act.put, List.setIfInBounds_toArray, List.set_cons_zero, List.set_cons_succ]
          refine wpAnyH_ready (rs := [2]) (by kernel_rfl) (by simp) ?_
          refine AllReadyH.cons (o := ?o29) ?ho29 (fun K hK => ?step29) ?more29
          case ho29 => simp only [List.getElem?_toArray, List.getElem?_cons_succ, List.getElem?_cons_zero]; exact rfl
          case step29 =>
            go_simp
            (first | (go_at_call 94; (with_reducible refine (rnumber_any l0 _ M0.out.1 M0.out.2).mono ?_); rintro e w' ⟨rfl, rfl⟩) | (go_at_call 94; (with_reducible refine (rnumber_any l1 _ M1.out.1 M1.out.2).mono ?_); rintro e w' ⟨rfl, rfl⟩))
            refine hK.out _ _ trivial (fun hHeld => ?_)
            clear hK K
            try simp only [Act.put, List.setIfInBounds_toArray, List.set_cons_zero, List.set_cons_succ]
            refine wpAnyH_ready (rs := [5]) (by kernel_rfl) (by simp) ?_
            refine AllReadyH.cons (o := ?o30) ?ho30 (fun K hK => ?step30) ?more30
            case ho30 => simp only [List.getElem?_toArray, List.getElem?_cons_succ, List.getElem?_cons_zero]; exact rfl
            case step30 =>
              go_simp
              (first | (go_at_call 94; (with_reducible refine (rnumber_any l0 _ M0.out.1 M0.out.2).mono ?_); rintro e w' ⟨rfl, rfl⟩) | (go_at_call 94; (with_reducible refine (rnumber_any l1 _ M1.out.1 M1.out.2).mono ?_); rintro e w' ⟨rfl, rfl⟩))
              refine hK.out _ _ trivial (fun hHeld => ?_)
              clear hK K
              try simp only [Act.put, List.setIfInBounds_toArray, List.set_cons_zero, List.set_cons_succ]
              refine wpAnyH_take (i := 20) (oi := ?oi31) (v := ?v31) ?hi31 ?hs31 ?hf31 ?hr31 ?hQ31 ?hy31 ?hS31 ?rest31
              case hi31 => simp only [List.getElem?_toArray, List.getElem?_cons_succ, List.getElem?_cons_zero]; exact rfl
              case hs31 => kernel_rfl
              case hf31 => kernel_rfl
              case hr31 => kernel_rfl
              case hy31 => refine Or.inl ⟨by rfl, ?_⟩; intro w hSw; go_simp; try with_reducible rfl
              case hQ31 => exact fun _ _ _ h => absurd h.1 (fun e => by cases e)
              case hS31 => exact trivial
              simp only [Act.put, List.setIfInBounds_toArray, List.set_cons_zero, List.set_cons_succ]
              refine wpAnyH_ready (rs := [22]) (by kernel_rfl) (by simp) ?_
              refine AllReadyH.cons (o := ?o32) ?ho32 (fun K hK => ?step32) ?more32
              case ho32 => simp only [List.getElem?_toArray, List.getElem?_cons_succ, List.getElem?_cons_zero]; exact rfl
              case step32 =>
                go_simp
                refine hK.out _ _ trivial (fun hHeld => ?_)
                clear hK K
                try simp only [Act.put, List.setIfInBounds_toArray, List.set_cons_zero, List.set_cons_succ]
                refine wpAnyH_done (by kernel_rfl) ?_ _
                exact ⟨rfl, rfl, rfl⟩
              exact AllReadyH.nil
            exact AllReadyH.nil
          exact AllReadyH.nil
        exact AllReadyH.nil
      case k =>
        clear e1 e2 e3 e4 x5 x5' z0 z1 hu hv2 hv3 hv4 h10 h11 h12 h13 M0 M1 w2 w3 wu
        obtain ⟨n1, n2, n3, n4⟩ := two_new w (.cells #[.int .i64 0, .int .i64 0, .int .i64 0, .int .i64 0, .int .u8 0, .string ⟨#[]⟩] 77) (.cells #[.int .i64 (un l0), .int .i64 (un l1), .int .i64 v2.toNat, .int .i64 v3.toNat, .int .u8 v4.toNat, .string (S l5)] 77)
        generalize (w.alloc (.cells #[.int .i64 0, .int .i64 0, .int .i64 0, .int .i64 0, .int .u8 0, .string ⟨#[]⟩] 77)).alloc (.cells #[.int .i64 (un l0), .int .i64 (un l1), .int .i64 v2.toNat, .int .i64 v3.toNat, .int .u8 v4.toNat, .string (S l5)] 77) = W at n1 n2 n3 n4
        have k0 : W.drew.cell? ⟨w.heap.size + 1, 0, none⟩ = some (.int .i64 (un l0)) := (cell_of n2 0).trans rfl
        have k1 : W.drew.cell? ⟨w.heap.size + 1, 1, none⟩ = some (.int .i64 (un l1)) := (cell_of n2 1).trans rfl
        have k2 : W.drew.cell? ⟨w.heap.size + 1, 2, none⟩ = some (.int .i64 v2.toNat) := (cell_of n2 2).trans rfl
        have k3 : W.drew.cell? ⟨w.heap.size + 1, 3, none⟩ = some (.int .i64 v3.toNat) := (cell_of n2 3).trans rfl
        have k4 : W.drew.cell? ⟨w.heap.size + 1, 4, none⟩ = some (.int .u8 v4.toNat) := (cell_of n2 4).trans rfl
        have k5 : W.drew.cell? ⟨w.heap.size + 1, 5, none⟩ = some (.string (S l5)) := (cell_of n2 5).trans rfl
        have N1 := Lib.hid n1
        have N2 := Lib.hid n2
        have N3 := Lib.hid n3
        have N4 := Lib.hid n4
        clear n1 n2 n3 n4 h80 h80' h36
        go_wp2_with (fail)
        have hlt0 : w.heap.size < W.heap.size := by have := N3.out; omega
        by_cases hok : (⟨un l0, un l1, v2.toNat, v3.toNat, v4.toNat, l5⟩ : Frm).Ok
        · have HOK := Lib.hid hok
          clear hok
          refine (frEncode_ok (⟨un l0, un l1, v2.toNat, v3.toNat, v4.toNat, l5⟩ : Frm) _ HOK.out).mono ?_
          rintro e w3 ⟨rfl, b3⟩
          have j0 := below_cell b3 k0
          have j1 := below_cell b3 k1
          have j2 := below_cell b3 k2
          have j3 := below_cell b3 k3
          have j4 := below_cell b3 k4
          have j5 := below_cell b3 k5
          have HM := Lib.hid ((b3.block _ hlt0).trans N1.out)
          have HB3 := Lib.hid (below_step b3 N4.out.drew (Nat.le_refl _))
          clear k0 k1 k2 k3 k4 k5 b3
          by_cases hs : (⟨un l0, un l1, v2.toNat, v3.toNat, v4.toNat, l5⟩ : Frm).sec = l
          · have HS := Lib.hid hs
            clear hs
            have HV := Lib.hid (fdecVal_some (by rw [HDEC.out, if_pos ⟨HOK.out, HS.out⟩] : fdecodeOf l = some (⟨un l0, un l1, v2.toNat, v3.toNat, v4.toNat, l5⟩ : Frm)))
            obtain ⟨tt, ht⟩ : ∃ x, (⟨un l0, un l1, v2.toNat, v3.toNat, v4.toNat, l5⟩ : Frm).sec = x := ⟨_, rfl⟩
            obtain ⟨hcmp, hcmp2⟩ := fbeq_yes (ht.symm.trans HS.out)
            rw [ht]
            clear ht HS HDEC
            go_wp2_with (refine wpList_store_block rfl 77 _ _ rfl w.heap.size #[.int .i64 (un l0), .int .i64 (un l1), .int .i64 v2.toNat, .int .i64 v3.toNat, .int .u8 v4.toNat, .string (S l5)] rfl rfl 77 _ HM.out (by kernel_rfl) rfl (by simp [Value.oneCell']) ?_)
            exact bodyPost_ret (results_cell2 rfl _ _ w.heap.size _ 77 (0, 0) rfl (setBlock_same (Array.getElem?_eq_some_iff.1 HM.out).1 _) _ Try.underlying77 rfl (by kernel_rfl)) rfl ⟨by rw [HV.out]; rfl, (Keeps.setBlock (S := fun x => x = w.heap.size) (.refl _ _) (fun _ => rfl) _).belowOf HB3.out HB3.out.size (fun x hx e => by omega)⟩
          · have HS := Lib.hid hs
            clear hs
            have HV := Lib.hid (fdecVal_none (by rw [HDEC.out, if_neg (fun h => HS.out h.2)] : fdecodeOf l = none))
            obtain ⟨tt, ht⟩ : ∃ x, (⟨un l0, un l1, v2.toNat, v3.toNat, v4.toNat, l5⟩ : Frm).sec = x := ⟨_, rfl⟩
            obtain ⟨hcmp, hcmp2⟩ := fbeq_no (a := tt) (b := l) (fun h => HS.out (ht.trans h))
            rw [ht]
            clear ht HS HDEC j0 j1 j2 j3 j4 j5
            go_wp2_with (refine wpList_store_block rfl 77 _ _ rfl w.heap.size #[.int .i64 0, .int .i64 0, .int .i64 0, .int .i64 0, .int .u8 0, .string ⟨#[]⟩] rfl rfl 77 _ HM.out (by kernel_rfl) rfl (by simp [Value.oneCell']) ?_)
            exact bodyPost_ret (results_cell2 rfl _ _ w.heap.size _ 77 (0, 0) rfl (setBlock_same (Array.getElem?_eq_some_iff.1 HM.out).1 _) _ Try.underlying77 rfl (by kernel_rfl)) rfl ⟨by rw [HV.out]; rfl, (Keeps.setBlock (S := fun x => x = w.heap.size) (.refl _ _) (fun _ => rfl) _).belowOf HB3.out HB3.out.size (fun x hx e => by omega)⟩
        · have HV := Lib.hid (fdecVal_none (by rw [HDEC.out, if_neg (fun h => hok h.1)] : fdecodeOf l = none))
          have hbad := Lib.hid (show ¬ FOk (un l0 : Nat) (un l1 : Nat) (v2.toNat : Nat) (v3.toNat : Nat) from fun h => hok (by
            have hu := HUN.out
            have h4 := HL5.out
            unfold FOk at h
            unfold Frm.Ok
            dsimp only
            omega))
          clear hok
          refine (frEncode_bad _ _ _ _ _ l5 _ (.inr hbad.out)).mono ?_
          rw [if_neg (show ¬ 44 < l5.length by have := HL5.out; omega)]
          rintro e w3 ⟨rfl, b3⟩
          have HM := Lib.hid ((b3.block _ hlt0).trans N1.out)
          have HB3 := Lib.hid (below_step b3 N4.out.drew (Nat.le_refl _))
          clear k0 k1 k2 k3 k4 k5 b3
          go_wp2_with (refine wpList_store_block rfl 77 _ _ rfl w.heap.size #[.int .i64 0, .int .i64 0, .int .i64 0, .int .i64 0, .int .u8 0, .string ⟨#[]⟩] rfl rfl 77 _ HM.out (by kernel_rfl) rfl (by simp [Value.oneCell']) ?_)
          exact bodyPost_ret (results_cell2 rfl _ _ w.heap.size _ 77 (0, 0) rfl (setBlock_same (Array.getElem?_eq_some_iff.1 HM.out).1 _) _ Try.underlying77 rfl (by kernel_rfl)) rfl ⟨by rw [HV.out]; rfl, (Keeps.setBlock (S := fun x => x = w.heap.size) (.refl _ _) (fun _ => rfl) _).belowOf HB3.out HB3.out.size (fun x hx e => by omega)⟩
    · have hd : Hid (fdecVal l = .tuple #[zfrm, .int .i64 12]) := fdecVal_none (fdecodeOf_bad (fun h => h36 (by
        have h2 := h.2
        rw [d13] at h2
        exact h2)))
      have h36' : (44 : Int) < (u.toNat : Int) := by omega
      clear d10 d11 d12 d13
      go_enter Try.func72, Try.ntmps72
      go_wp2
      exact bodyPost_ret (results_cell2 rfl _ _ w.heap.size _ 77 (0, 0) rfl HQ.out _ Try.underlying77 rfl (by kernel_rfl)) rfl ⟨by rw [hd.out]; rfl, HB.out⟩
  · have hd : Hid (fdecVal l = .tuple #[zfrm, .int .i64 12]) := fdecVal_none (fdecodeOf_bad (fun h => h80 h.1))
    have h80' : ((l.length : Int) == 80) = false := by rw [beq_eq_false_iff_ne]; omega
    have h80n : ((l.length : Int) != 80) = true := by rw [bne_iff_ne]; omega
    go_enter Try.func72, Try.ntmps72
    go_wp2
    exact bodyPost_ret (results_cell2 rfl _ _ w.heap.size _ 77 (0, 0) rfl HQ.out _ Try.underlying77 rfl (by kernel_rfl)) rfl ⟨by rw [hd.out]; rfl, HB.out⟩
end Go.Proofs.Ytjpelmjocdodcaa
