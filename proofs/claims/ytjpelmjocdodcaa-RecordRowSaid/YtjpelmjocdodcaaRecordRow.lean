/- RecordRow. -/
import Derived.Test.YtjpelmjocdodcaaRecRow
import Derived.Test.YtjpelmjocdodcaaRowS
import Derived.Test.YtjpelmjocdodcaaTake
import Derived.Test.YtjpelmjocdodcaaKnown06
namespace Go.Proofs.Ytjpelmjocdodcaa
open Go.RowKit Go.ChangeMaps

set_option maxRecDepth 100000 in
set_option maxHeartbeats 8000000 in
theorem recordRow_any (A : Option Addr) (cap : Nat) (l : List (List UInt8)) (g n : Nat) (hg : g < 65536) (hn : n < 256) (w : World) (hp : StrsAt w A l) :
    Calls Try.prog 12 #[.slice A l.length cap, .int .u16 g, .int .u8 n] w fun e w' => e = .returned (.bool true) ∧ Below w.heap.size w w' := by
  have HO := Lib.hid (fun W : World => known06_any W)
  by_cases h12 : 12 < l.length
  · have h12' : (12 : Int) < (l.length : Int) := by omega
    go_enter Try.func12, Try.ntmps12
    go_wp2_with (go_at_call 38; refine (HO.out _).mono ?_; rintro e w2 ⟨rfl, bk⟩)
    go_ret
    exact ⟨rfl, bk⟩
  have h12' : ¬ (12 : Int) < (l.length : Int) := by omega
  have HPS := Lib.hid hp
  have hK : l.length ≤ 12 := by omega
  clear hp
  go_enter Try.func12, Try.ntmps12
  go_wp2_with (fail)
  refine (fnew_any w).mono ?_
  rintro e w1 ⟨rfl, hw1⟩
  have HS1 := Lib.hid (show w1.heap.size = w.heap.size + 1 by rw [hw1]; exact alloc_size _ _)
  have HW1 := Lib.hid hw1
  clear hw1
  go_wp2_with (fail)
  refine (dnew_ok 80 w.heap.size w1 (by omega) (by omega) (by have := HS1.out; omega)).mono ?_
  rintro e w2 ⟨rfl, hd, hbl⟩
  obtain ⟨h2, F2, B2⟩ := Lab.new HW1.out hd hbl
  obtain ⟨d, hdd⟩ : ∃ d, w1.heap.size + 1 = d := ⟨_, rfl⟩
  obtain ⟨m, hmm⟩ : ∃ m, w1.heap.size = m := ⟨_, rfl⟩
  obtain ⟨f, hff⟩ : ∃ f, w.heap.size = f := ⟨_, rfl⟩
  have HH2 : Hid (∃ v, Hall w w2 [⟨d, f, m, v, rowD g n l 0, .idle⟩] []) := by
    have := (Hall.start w).addDisk (s := ⟨w1.heap.size + 1, w.heap.size, w1.heap.size, .slice none 0 0, Dk.new 80, .idle⟩) h2 F2 B2
    rw [hdd, hff, hmm] at this
    exact ⟨_, this⟩
  rw [hdd]
  clear hd hbl h2 F2 B2 hdd hmm hff HW1 HS1
  go_wp2_with (fail)
  go_loopw [9, 10, 11] (fun v9 v10 v11 wr => ∃ i : Nat, i ≤ l.length ∧ v9 = .int .i64 (rowAt l i : Nat) ∧ v10 = .int .i64 (rowBoot g i : Nat) ∧ v11 = .int .i64 i ∧ Hid (∀ j, j < i → (secAt l j).length ≤ 200) ∧ Hid (∃ v, Hall w wr [⟨d, f, m, v, rowD g n l i, .idle⟩] [])) (fun _ _ v11 _ => l.length - (intOf v11).toNat)
  case atStart => exact ⟨0, Nat.zero_le _, rfl, rfl, rfl, fun j hj => absurd hj (by omega), HH2.out⟩
  case round =>
    obtain ⟨i, hi, rfl, rfl, rfl, hS, hr⟩ := hrel
    by_cases hlt : i < l.length
    · obtain ⟨v, hH⟩ := hr.out
      obtain ⟨ad, rfl, c⟩ := (HPS.out.below hH.bel) i hlt
      have HH := Lib.hid hH
      clear hH hr
      obtain ⟨X, hX⟩ : ∃ X, secAt l i = X := ⟨_, rfl⟩
      by_cases h200 : 200 < X.length
      · rw [hX] at c
        have h200' : (200 : Int) < (X.length : Int) := by omega
        go_wp2_with (go_at_call 38; refine (HO.out _).mono ?_; rintro e w5 ⟨rfl, bk⟩)
        go_ret
        exact ⟨rfl, below_step bk HH.out.bel (Nat.le_refl _)⟩
      · have h200' : ¬ (200 : Int) < (X.length : Int) := by omega
        have hS' : ∀ j, j < i + 1 → (secAt l j).length ≤ 200 := fun j hj => by
          by_cases e : j = i
          · subst e; rw [hX]; omega
          · exact hS.out j (by omega)
        have hok := row_ok (g := g) hn (show i < 12 by omega)
        have hs := secs_any (rowBoot g i : Nat) ((n : Int) + 1 + (i : Int)) 2 (by decide) X
        have hpair : recSecs (rowBoot g i : Nat) ((n : Int) + 1 + (i : Int)) 2 X = (rowSecs g n l i, 0) := by
          rw [show (n : Int) + 1 + (i : Int) = ((n + 1 + i : Nat) : Int) by omega, ← hX]
          have : (recSecs (rowBoot g i : Nat) (n + 1 + i : Nat) 2 (secAt l i)).2 = 0 := by rw [recSecs_ok (by rw [hX]; omega) hok]
          rw [← this]
          rfl
        have hlen : (rowSecs g n l i).length = npart X.length := by rw [← hX]; exact rowSecs_len hn (by omega) (by rw [hX]; omega)
        have h80 : ∀ s ∈ rowSecs g n l i, s.length = 80 := fun s hs => recSecs_80 hs
        have hat : rowAt l (i + 1) = rowAt l i + npart X.length := by rw [← hX]; rfl
        have hle := rowAt_le hS'
        have hDP := rowD_P (g := g) hn (show i ≤ 12 by omega) (fun j hj => hS' j (by omega))
        have hDS := rowD_S g n l i
        have hbit := and_u16 g i hg
        have hbo := rowBoot_le g i
        have HBT := Lib.hid (show rowBoot g (i + 1) = rowBoot g i + g / 2 ^ i % 2 from rfl)
        obtain ⟨bt, hbt⟩ : ∃ bt, g / 2 ^ i % 2 = bt := ⟨_, rfl⟩
        have hbt2 : bt < 2 := by omega
        rw [hbt] at HBT hbit
        have HD1 := Lib.hid (show rowD g n l (i + 1) = (rowD g n l i).puts (rowAt l i) (rowSecs g n l i) from rfl)
        obtain ⟨D, hD⟩ : ∃ D, rowD g n l i = D := ⟨_, rfl⟩
        obtain ⟨L, hL⟩ : ∃ L, rowSecs g n l i = L := ⟨_, rfl⟩
        obtain ⟨ro, hro⟩ : ∃ ro, rowAt l i = ro := ⟨_, rfl⟩
        obtain ⟨bo, hbb⟩ : ∃ bo, rowBoot g i = bo := ⟨_, rfl⟩
        rw [hX] at c
        rw [hD] at HH HD1 hDP hDS
        rw [hL] at hpair hlen h80 HD1
        rw [hro] at hat HD1 hDP ⊢
        rw [hbb] at hs hpair hbo HBT ⊢
        rw [hpair] at hs
        have hs2 := fun W => hs W
        dsimp only at hs2
        rw [← hlen] at hat
        have H80 := Lib.hid h80
        have HAT := Lib.hid hat
        have HS2 := Lib.hid hs2
        have HSS := Lib.hid hS'
        have HDP := Lib.hid hDP
        have HDS := Lib.hid hDS
        have hrL : ro + L.length ≤ 60 := by omega
        clear hs hs2 hpair h80 hat hle hlen hok hDP hDS hS' hbt hX hD hL hro hbb hS
        go_wp2_with (fail)
        refine (HS2.out _).mono ?_
        rintro e w3 ⟨A2, cap2, rfl, hr2, b3, hf2⟩
        have HH3 : Hid (Hall w w3 [⟨d, f, m, v, D, .idle⟩] [(.slice A2 L.length cap2, L)]) := (HH.out.below b3).addRow hr2 (fun k hk => ⟨Nat.le_trans HH.out.size (hf2 k hk), fun j s hs ho => by
          cases j with
          | zero => obtain rfl := Option.some.inj hs; have h1 := (HH.out.lab 0 _ rfl).lt ho; have h2 := hf2 k hk; omega
          | succ j => simp at hs, nofun⟩)
        clear hr2 b3 hf2 HH HS2
        have hw := rwrite_any w w3 d f m v D _ 0 _ L HH3.out rfl ro (by rw [HDS.out, List.length_replicate]; omega) H80.out (by rw [HDP.out]; omega)
        go_wp2_with (fail)
        refine hw.mono ?_
        rintro e w4 ⟨rfl, v4, hH4⟩
        have HH4 : Hid (∃ v, Hall w w4 [⟨d, f, m, v, rowD g n l (i + 1), .idle⟩] []) := ⟨v4, by rw [HD1.out]; exact hH4.drop⟩
        clear hH4 hw HH3 c
        go_wp2_with (fail)
        go_roundw
        case rel => exact ⟨i + 1, hlt, by rw [HAT.out]; go_num, by rw [HBT.out]; go_num, by go_num, HSS.out, HH4.out⟩
        case measure => simp [intOf]; omega
    · obtain rfl : l.length = i := by omega
      obtain ⟨v, hH⟩ := hr.out
      have HH := Lib.hid hH
      have HRR := Lib.hid (row_reads (g := g) hn hK hS.out)
      have hle := rowAt_le hS.out
      obtain ⟨E, hE⟩ : ∃ E, rowAt l l.length = E := ⟨_, rfl⟩
      obtain ⟨D, hD⟩ : ∃ D, rowD g n l l.length = D := ⟨_, rfl⟩
      have HE := Lib.hid hE
      rw [hE] at hle HRR ⊢
      rw [hD] at HRR HH
      have hE60 : E ≤ 60 := by omega
      clear hr hH hS hE hD hle
      go_wp2_with (fail)
      obtain ⟨wo, rfl⟩ : ∃ wo : World, wo = wr := ⟨_, rfl⟩
      go_loopw [9, 10, 15] (fun v9 v10 v15 w5 => ∃ i : Nat, i ≤ l.length ∧ v9 = .int .i64 (rowAt l i : Nat) ∧ v10 = .int .i64 (rowPrev g i : Nat) ∧ v15 = .int .i64 i ∧ Hid (Below wo.heap.size wo w5)) (fun _ _ v15 _ => l.length - (intOf v15).toNat)
      case atStart => exact ⟨0, Nat.zero_le _, rfl, rfl, rfl, .refl _ _⟩
      case round =>
        obtain ⟨i, hi, rfl, rfl, rfl, hB⟩ := hrel
        by_cases hlt : i < l.length
        · obtain ⟨ad, rfl, c⟩ := (HPS.out.below (HH.out.below hB.out).bel) i hlt
          have hrd := read_any d f m v D .idle (rowAt l i : Nat) (E : Nat) ((n : Int) + 1 + (i : Int)) (rowPrev g i : Nat) wr ((HH.out.below hB.out).lab 0 _ rfl)
          rw [HRR.out.1 i hlt] at hrd
          have HAT := Lib.hid (show rowAt l (i + 1) = rowAt l i + npart (secAt l i).length from rfl)
          have HPB := Lib.hid (show rowPrev g (i + 1) = rowBoot g i from rfl)
          have hnp := npart_pos (secAt l i).length
          have hpl := rowPrev_le g i
          have hbl := rowBoot_le g i
          have hEl := rowAt_lt l hlt
          rw [HE.out] at hEl
          obtain ⟨X, hX⟩ : ∃ X, secAt l i = X := ⟨_, rfl⟩
          rw [hX] at c hrd HAT hnp hEl
          obtain ⟨np, hnn⟩ : ∃ np, npart X.length = np := ⟨_, rfl⟩
          obtain ⟨ro, hro⟩ : ∃ ro, rowAt l i = ro := ⟨_, rfl⟩
          obtain ⟨bo, hbb⟩ : ∃ bo, rowBoot g i = bo := ⟨_, rfl⟩
          obtain ⟨pb, hpb⟩ : ∃ pb, rowPrev g i = pb := ⟨_, rfl⟩
          rw [hnn] at hrd HAT hnp hEl
          rw [hro] at hrd HAT hEl ⊢
          rw [hbb] at hrd HPB hpl hbl
          rw [hpb] at hrd hpl ⊢
          have g1 : ¬ (bo : Int) < (pb : Int) := by omega
          have g2 : ¬ (np : Int) < 1 := by omega
          have g1' : ¬ bo < pb := by omega
          have g2' : ¬ np = 0 := by omega
          have g3 : ro + np ≤ 60 := by omega
          have g4 : bo ≤ 13 := by omega
          clear hX hnn hro hbb hpb hnp hpl hbl hEl
          go_wp2_with (fail)
          refine hrd.mono ?_
          rintro e w6 ⟨rfl, b6⟩
          have q9 := alloc_new w6 (.cells #[.int .i64 (bo : Nat), .int .i64 ((n : Int) + 1 + (i : Int)), .int .i64 0, .int .i64 (np : Nat), .int .u8 2, .string (S X)] 77)
          have B9 := alloc_below w6 (.cells #[.int .i64 (bo : Nat), .int .i64 ((n : Int) + 1 + (i : Int)), .int .i64 0, .int .i64 (np : Nat), .int .u8 2, .string (S X)] 77)
          have i0 := (cell_of q9 0).trans rfl
          have i1 := (cell_of q9 1).trans rfl
          have i2 := (cell_of q9 2).trans rfl
          have i3 := (cell_of q9 3).trans rfl
          have i4 := (cell_of q9 4).trans rfl
          have i5 := (cell_of q9 5).trans rfl
          have c9 := below_cell B9 (below_cell b6 c)
          have HB9 := Lib.hid (below_step B9 (below_step b6 hB.out (Nat.le_refl _)) (Nat.le_refl _))
          clear b6 B9 q9 hrd c hB
          go_upto_region 22 with (fail)
          obtain ⟨w7, hw7⟩ : ∃ w7, w6.alloc (.cells #[.int .i64 (bo : Nat), .int .i64 ((n : Int) + 1 + (i : Int)), .int .i64 0, .int .i64 (np : Nat), .int .u8 2, .string (S X)] 77) = w7 := ⟨_, rfl⟩
          rw [hw7] at i0 i1 i2 i3 i4 i5 c9 HB9 ⊢
          clear hw7
          have hw1 : IntKind.i64.wrap (n : Int) = (n : Int) := by rw [IntKind.wrap_i64]; omega
          have hw2 : IntKind.i64.wrap ((n : Int) + 1) = (n : Int) + 1 := by rw [IntKind.wrap_i64]; omega
          have hw3 : IntKind.i64.wrap ((n : Int) + 1 + (i : Int)) = (n : Int) + 1 + (i : Int) := by rw [IntKind.wrap_i64]; omega
          have hd : decide ((np : Int) < 1) = false := decide_eq_false (by omega)
          refine wp_region_noPanic ?_
          refine wp_region_held_drew (S := fun w' => w'.cell? ⟨w6.heap.size, 0, none⟩ = some (.int .i64 (bo : Nat)) ∧ w'.cell? ⟨w6.heap.size, 1, none⟩ = some (.int .i64 ((n : Int) + 1 + (i : Int))) ∧ w'.cell? ⟨w6.heap.size, 2, none⟩ = some (.int .i64 0) ∧ w'.cell? ⟨w6.heap.size, 3, none⟩ = some (.int .i64 (np : Nat)) ∧ w'.cell? ⟨w6.heap.size, 4, none⟩ = some (.int .u8 2) ∧ w'.cell? ⟨w6.heap.size, 5, none⟩ = some (.string (S X)) ∧ w'.cell? (ad.add i) = some (.string (S X))) (by kernel_rfl) (⟨i0, i1, i2, i3, i4, i5, c9⟩) (fun hHeld => ?_)
          refine take_w 0 (some 101) ?_ rfl rfl (by kernel_rfl) (by kernel_rfl) (by kernel_rfl) (fun _ _ _ h => h) (by rfl) ?_ (by assumption) ?_
          rotate_left
          · intro w hSw
            (try dsimp only at hSw)
            (try obtain ⟨z0, z1, z2, z3, z4, z5, z6⟩ := hSw)
            go_simp <;> with_reducible rfl
          (try simp only [Act.put, List.setIfInBounds_toArray, List.set_cons_zero, List.set_cons_succ])
          refine take_w 1 (some 102) ?_ rfl rfl (by kernel_rfl) (by kernel_rfl) (by kernel_rfl) (fun _ _ _ h => h) (by rfl) ?_ (by assumption) ?_
          rotate_left
          · intro w hSw
            (try dsimp only at hSw)
            (try obtain ⟨z0, z1, z2, z3, z4, z5, z6⟩ := hSw)
            go_simp <;> with_reducible rfl
          (try simp only [Act.put, List.setIfInBounds_toArray, List.set_cons_zero, List.set_cons_succ])
          refine take_w 2 (some 103) ?_ rfl rfl (by kernel_rfl) (by kernel_rfl) (by kernel_rfl) (fun _ _ _ h => h) (by rfl) ?_ (by assumption) ?_
          rotate_left
          · intro w hSw
            (try dsimp only at hSw)
            (try obtain ⟨z0, z1, z2, z3, z4, z5, z6⟩ := hSw)
            go_simp <;> with_reducible rfl
          (try simp only [Act.put, List.setIfInBounds_toArray, List.set_cons_zero, List.set_cons_succ])
          refine take_w 3 (some 104) ?_ rfl rfl (by kernel_rfl) (by kernel_rfl) (by kernel_rfl) (fun _ _ _ h => h) (by rfl) ?_ (by assumption) ?_
          rotate_left
          · intro w hSw
            (try dsimp only at hSw)
            (try obtain ⟨z0, z1, z2, z3, z4, z5, z6⟩ := hSw)
            go_simp <;> with_reducible rfl
          (try simp only [Act.put, List.setIfInBounds_toArray, List.set_cons_zero, List.set_cons_succ])
          refine take_w 4 (some 105) ?_ rfl rfl (by kernel_rfl) (by kernel_rfl) (by kernel_rfl) (fun _ _ _ h => h) (by rfl) ?_ (by assumption) ?_
          rotate_left
          · intro w hSw
            (try dsimp only at hSw)
            (try obtain ⟨z0, z1, z2, z3, z4, z5, z6⟩ := hSw)
            go_simp <;> with_reducible rfl
          (try simp only [Act.put, List.setIfInBounds_toArray, List.set_cons_zero, List.set_cons_succ])
          refine take_w 5 (some 106) ?_ rfl rfl (by kernel_rfl) (by kernel_rfl) (by kernel_rfl) (fun _ _ _ h => h) (by rfl) ?_ (by assumption) ?_
          rotate_left
          · intro w hSw
            (try dsimp only at hSw)
            (try obtain ⟨z0, z1, z2, z3, z4, z5, z6⟩ := hSw)
            go_simp <;> with_reducible rfl
          (try simp only [Act.put, List.setIfInBounds_toArray, List.set_cons_zero, List.set_cons_succ])
          refine take_w 6 (some 107) ?_ rfl rfl (by kernel_rfl) (by kernel_rfl) (by kernel_rfl) (fun _ _ _ h => h) (by rfl) ?_ (by assumption) ?_
          rotate_left
          · intro w hSw
            (try dsimp only at hSw)
            (try obtain ⟨z0, z1, z2, z3, z4, z5, z6⟩ := hSw)
            go_simp <;> with_reducible rfl
          (try simp only [Act.put, List.setIfInBounds_toArray, List.set_cons_zero, List.set_cons_succ])
          refine take_w 7 (some 108) ?_ rfl rfl (by kernel_rfl) (by kernel_rfl) (by kernel_rfl) (fun _ _ _ h => h) (by rfl) ?_ (by assumption) ?_
          rotate_left
          · intro w hSw
            (try dsimp only at hSw)
            (try obtain ⟨z0, z1, z2, z3, z4, z5, z6⟩ := hSw)
            go_simp <;> with_reducible rfl
          (try simp only [Act.put, List.setIfInBounds_toArray, List.set_cons_zero, List.set_cons_succ])
          refine take_w 8 (some 109) ?_ rfl rfl (by kernel_rfl) (by kernel_rfl) (by kernel_rfl) (fun _ _ _ h => h) (by rfl) ?_ (by assumption) ?_
          rotate_left
          · intro w hSw
            (try dsimp only at hSw)
            (try obtain ⟨z0, z1, z2, z3, z4, z5, z6⟩ := hSw)
            go_simp <;> with_reducible rfl
          (try simp only [Act.put, List.setIfInBounds_toArray, List.set_cons_zero, List.set_cons_succ])
          refine take_w 9 (some 110) ?_ rfl rfl (by kernel_rfl) (by kernel_rfl) (by kernel_rfl) (fun _ _ _ h => h) (by rfl) ?_ (by assumption) ?_
          rotate_left
          · intro w hSw
            (try dsimp only at hSw)
            (try obtain ⟨z0, z1, z2, z3, z4, z5, z6⟩ := hSw)
            go_simp <;> with_reducible rfl
          (try simp only [Act.put, List.setIfInBounds_toArray, List.set_cons_zero, List.set_cons_succ])
          refine take_w 10 (some 111) ?_ rfl rfl (by kernel_rfl) (by kernel_rfl) (by kernel_rfl) (fun _ _ _ h => h) (by rfl) ?_ (by assumption) ?_
          rotate_left
          · intro w hSw
            (try dsimp only at hSw)
            (try obtain ⟨z0, z1, z2, z3, z4, z5, z6⟩ := hSw)
            go_simp <;> with_reducible rfl
          (try simp only [Act.put, List.setIfInBounds_toArray, List.set_cons_zero, List.set_cons_succ])
          refine take_w 11 (some 112) ?_ rfl rfl (by kernel_rfl) (by kernel_rfl) (by kernel_rfl) (fun _ _ _ h => h) (by rfl) ?_ (by assumption) ?_
          rotate_left
          · intro w hSw
            (try dsimp only at hSw)
            (try obtain ⟨z0, z1, z2, z3, z4, z5, z6⟩ := hSw)
            go_simp <;> with_reducible rfl
          (try simp only [Act.put, List.setIfInBounds_toArray, List.set_cons_zero, List.set_cons_succ])
          refine take_w 12 (some 113) ?_ rfl rfl (by kernel_rfl) (by kernel_rfl) (by kernel_rfl) (fun _ _ _ h => h) (by rfl) ?_ (by assumption) ?_
          rotate_left
          · intro w hSw
            (try dsimp only at hSw)
            (try obtain ⟨z0, z1, z2, z3, z4, z5, z6⟩ := hSw)
            go_simp <;> with_reducible rfl
          (try simp only [Act.put, List.setIfInBounds_toArray, List.set_cons_zero, List.set_cons_succ])
          refine take_w 13 (some 114) ?_ rfl rfl (by kernel_rfl) (by kernel_rfl) (by kernel_rfl) (fun _ _ _ h => h) (by rfl) ?_ (by assumption) ?_
          rotate_left
          · intro w hSw
            (try dsimp only at hSw)
            (try obtain ⟨z0, z1, z2, z3, z4, z5, z6⟩ := hSw)
            go_simp <;> with_reducible rfl
          (try simp only [Act.put, List.setIfInBounds_toArray, List.set_cons_zero, List.set_cons_succ])
          refine take_w 14 (some 115) ?_ rfl rfl (by kernel_rfl) (by kernel_rfl) (by kernel_rfl) (fun _ _ _ h => h) (by rfl) ?_ (by assumption) ?_
          rotate_left
          · intro w hSw
            (try dsimp only at hSw)
            (try obtain ⟨z0, z1, z2, z3, z4, z5, z6⟩ := hSw)
            go_simp <;> with_reducible rfl
          (try simp only [Act.put, List.setIfInBounds_toArray, List.set_cons_zero, List.set_cons_succ])
          refine take_w 15 (some 116) ?_ rfl rfl (by kernel_rfl) (by kernel_rfl) (by kernel_rfl) (fun _ _ _ h => h) (by rfl) ?_ (by assumption) ?_
          rotate_left
          · intro w hSw
            (try dsimp only at hSw)
            (try obtain ⟨z0, z1, z2, z3, z4, z5, z6⟩ := hSw)
            go_simp <;> with_reducible rfl
          (try simp only [Act.put, List.setIfInBounds_toArray, List.set_cons_zero, List.set_cons_succ])
          refine take_w 16 (some 117) ?_ rfl rfl (by kernel_rfl) (by kernel_rfl) (by kernel_rfl) (fun _ _ _ h => h) (by rfl) ?_ (by assumption) ?_
          rotate_left
          · intro w hSw
            (try dsimp only at hSw)
            (try obtain ⟨z0, z1, z2, z3, z4, z5, z6⟩ := hSw)
            go_simp <;> with_reducible rfl
          (try simp only [Act.put, List.setIfInBounds_toArray, List.set_cons_zero, List.set_cons_succ])
          refine take_w 17 (some 118) ?_ rfl rfl (by kernel_rfl) (by kernel_rfl) (by kernel_rfl) (fun _ _ _ h => h) (by rfl) ?_ (by assumption) ?_
          rotate_left
          · intro w hSw
            (try dsimp only at hSw)
            (try obtain ⟨z0, z1, z2, z3, z4, z5, z6⟩ := hSw)
            go_simp <;> with_reducible rfl
          (try simp only [Act.put, List.setIfInBounds_toArray, List.set_cons_zero, List.set_cons_succ])
          refine take_w 18 (some 119) ?_ rfl rfl (by kernel_rfl) (by kernel_rfl) (by kernel_rfl) (fun _ _ _ h => h) (by rfl) ?_ (by assumption) ?_
          rotate_left
          · intro w hSw
            (try dsimp only at hSw)
            (try obtain ⟨z0, z1, z2, z3, z4, z5, z6⟩ := hSw)
            go_simp <;> with_reducible rfl
          (try simp only [Act.put, List.setIfInBounds_toArray, List.set_cons_zero, List.set_cons_succ])
          refine take_w 19 (some 120) ?_ rfl rfl (by kernel_rfl) (by kernel_rfl) (by kernel_rfl) (fun _ _ _ h => h) (by rfl) ?_ (by assumption) ?_
          rotate_left
          · intro w hSw
            (try dsimp only at hSw)
            (try obtain ⟨z0, z1, z2, z3, z4, z5, z6⟩ := hSw)
            go_simp <;> with_reducible rfl
          (try simp only [Act.put, List.setIfInBounds_toArray, List.set_cons_zero, List.set_cons_succ])
          refine take_w 20 (some 121) ?_ rfl rfl (by kernel_rfl) (by kernel_rfl) (by kernel_rfl) (fun _ _ _ h => h) (by rfl) ?_ (by assumption) ?_
          rotate_left
          · intro w hSw
            (try dsimp only at hSw)
            (try obtain ⟨z0, z1, z2, z3, z4, z5, z6⟩ := hSw)
            go_simp <;> with_reducible rfl
          (try simp only [Act.put, List.setIfInBounds_toArray, List.set_cons_zero, List.set_cons_succ])
          refine take_w 21 (some 122) ?_ rfl rfl (by kernel_rfl) (by kernel_rfl) (by kernel_rfl) (fun _ _ _ h => h) (by rfl) ?_ (by assumption) ?_
          rotate_left
          · intro w hSw
            (try dsimp only at hSw)
            (try obtain ⟨z0, z1, z2, z3, z4, z5, z6⟩ := hSw)
            go_simp <;> with_reducible rfl
          (try simp only [Act.put, List.setIfInBounds_toArray, List.set_cons_zero, List.set_cons_succ])
          refine take_w 22 (some 123) ?_ rfl rfl (by kernel_rfl) (by kernel_rfl) (by kernel_rfl) (fun _ _ _ h => h) (by rfl) ?_ (by assumption) ?_
          rotate_left
          · intro w hSw
            (try dsimp only at hSw)
            (try obtain ⟨z0, z1, z2, z3, z4, z5, z6⟩ := hSw)
            go_simp <;> with_reducible rfl
          (try simp only [Act.put, List.setIfInBounds_toArray, List.set_cons_zero, List.set_cons_succ])
          refine take_w 23 (some 124) ?_ rfl rfl (by kernel_rfl) (by kernel_rfl) (by kernel_rfl) (fun _ _ _ h => h) (by rfl) ?_ (by assumption) ?_
          rotate_left
          · intro w hSw
            (try dsimp only at hSw)
            (try obtain ⟨z0, z1, z2, z3, z4, z5, z6⟩ := hSw)
            go_simp <;> with_reducible rfl
          (try simp only [Act.put, List.setIfInBounds_toArray, List.set_cons_zero, List.set_cons_succ])
          refine take_w 24 (some 125) ?_ rfl rfl (by kernel_rfl) (by kernel_rfl) (by kernel_rfl) (fun _ _ _ h => h) (by rfl) ?_ (by assumption) ?_
          rotate_left
          · intro w hSw
            (try dsimp only at hSw)
            (try obtain ⟨z0, z1, z2, z3, z4, z5, z6⟩ := hSw)
            go_simp <;> with_reducible rfl
          (try simp only [Act.put, List.setIfInBounds_toArray, List.set_cons_zero, List.set_cons_succ])
          refine take_w 25 (some 126) ?_ rfl rfl (by kernel_rfl) (by kernel_rfl) (by kernel_rfl) (fun _ _ _ h => h) (by rfl) ?_ (by assumption) ?_
          rotate_left
          · intro w hSw
            (try dsimp only at hSw)
            (try obtain ⟨z0, z1, z2, z3, z4, z5, z6⟩ := hSw)
            go_simp <;> with_reducible rfl
          (try simp only [Act.put, List.setIfInBounds_toArray, List.set_cons_zero, List.set_cons_succ])
          refine take_w 26 (some 127) ?_ rfl rfl (by kernel_rfl) (by kernel_rfl) (by kernel_rfl) (fun _ _ _ h => h) (by rfl) ?_ (by assumption) ?_
          rotate_left
          · intro w hSw
            (try dsimp only at hSw)
            (try obtain ⟨z0, z1, z2, z3, z4, z5, z6⟩ := hSw)
            go_simp <;> with_reducible rfl
          (try simp only [Act.put, List.setIfInBounds_toArray, List.set_cons_zero, List.set_cons_succ])
          refine take_w 27 (some 128) ?_ rfl rfl (by kernel_rfl) (by kernel_rfl) (by kernel_rfl) (fun _ _ _ h => h) (by rfl) ?_ (by assumption) ?_
          rotate_left
          · intro w hSw
            (try dsimp only at hSw)
            (try obtain ⟨z0, z1, z2, z3, z4, z5, z6⟩ := hSw)
            go_simp <;> with_reducible rfl
          (try simp only [Act.put, List.setIfInBounds_toArray, List.set_cons_zero, List.set_cons_succ])
          refine take_w 28 (some 129) ?_ rfl rfl (by kernel_rfl) (by kernel_rfl) (by kernel_rfl) (fun _ _ _ h => h) (by rfl) ?_ (by assumption) ?_
          rotate_left
          · intro w hSw
            (try dsimp only at hSw)
            (try obtain ⟨z0, z1, z2, z3, z4, z5, z6⟩ := hSw)
            go_simp <;> with_reducible rfl
          (try simp only [Act.put, List.setIfInBounds_toArray, List.set_cons_zero, List.set_cons_succ])
          refine take_w 29 (some 130) ?_ rfl rfl (by kernel_rfl) (by kernel_rfl) (by kernel_rfl) (fun _ _ _ h => h) (by rfl) ?_ (by assumption) ?_
          rotate_left
          · intro w hSw
            (try dsimp only at hSw)
            (try obtain ⟨z0, z1, z2, z3, z4, z5, z6⟩ := hSw)
            go_simp <;> with_reducible rfl
          (try simp only [Act.put, List.setIfInBounds_toArray, List.set_cons_zero, List.set_cons_succ])
          refine take_w 30 (some 131) ?_ rfl rfl (by kernel_rfl) (by kernel_rfl) (by kernel_rfl) (fun _ _ _ h => h) (by rfl) ?_ (by assumption) ?_
          rotate_left
          · intro w hSw
            (try dsimp only at hSw)
            (try obtain ⟨z0, z1, z2, z3, z4, z5, z6⟩ := hSw)
            go_simp <;> with_reducible rfl
          (try simp only [Act.put, List.setIfInBounds_toArray, List.set_cons_zero, List.set_cons_succ])
          refine take_w 31 (some 132) ?_ rfl rfl (by kernel_rfl) (by kernel_rfl) (by kernel_rfl) (fun _ _ _ h => h) (by rfl) ?_ (by assumption) ?_
          rotate_left
          · intro w hSw
            (try dsimp only at hSw)
            (try obtain ⟨z0, z1, z2, z3, z4, z5, z6⟩ := hSw)
            go_simp <;> with_reducible rfl
          (try simp only [Act.put, List.setIfInBounds_toArray, List.set_cons_zero, List.set_cons_succ])
          refine take_w 32 (some 133) ?_ rfl rfl (by kernel_rfl) (by kernel_rfl) (by kernel_rfl) (fun _ _ _ h => h) (by rfl) ?_ (by assumption) ?_
          rotate_left
          · intro w hSw
            (try dsimp only at hSw)
            (try obtain ⟨z0, z1, z2, z3, z4, z5, z6⟩ := hSw)
            go_simp <;> with_reducible rfl
          (try simp only [Act.put, List.setIfInBounds_toArray, List.set_cons_zero, List.set_cons_succ])
          refine take_w 33 (some 134) ?_ rfl rfl (by kernel_rfl) (by kernel_rfl) (by kernel_rfl) (fun _ _ _ h => h) (by rfl) ?_ (by assumption) ?_
          rotate_left
          · intro w hSw
            (try dsimp only at hSw)
            (try obtain ⟨z0, z1, z2, z3, z4, z5, z6⟩ := hSw)
            go_simp <;> with_reducible rfl
          (try simp only [Act.put, List.setIfInBounds_toArray, List.set_cons_zero, List.set_cons_succ])
          refine take_w 34 (some 135) ?_ rfl rfl (by kernel_rfl) (by kernel_rfl) (by kernel_rfl) (fun _ _ _ h => h) (by rfl) ?_ (by assumption) ?_
          rotate_left
          · intro w hSw
            (try dsimp only at hSw)
            (try obtain ⟨z0, z1, z2, z3, z4, z5, z6⟩ := hSw)
            go_simp <;> with_reducible rfl
          (try simp only [Act.put, List.setIfInBounds_toArray, List.set_cons_zero, List.set_cons_succ])
          refine take_w 35 (some 136) ?_ rfl rfl (by kernel_rfl) (by kernel_rfl) (by kernel_rfl) (fun _ _ _ h => h) (by rfl) ?_ (by assumption) ?_
          rotate_left
          · intro w hSw
            (try dsimp only at hSw)
            (try obtain ⟨z0, z1, z2, z3, z4, z5, z6⟩ := hSw)
            go_simp <;> with_reducible rfl
          (try simp only [Act.put, List.setIfInBounds_toArray, List.set_cons_zero, List.set_cons_succ])
          refine take_w 36 (some 137) ?_ rfl rfl (by kernel_rfl) (by kernel_rfl) (by kernel_rfl) (fun _ _ _ h => h) (by rfl) ?_ (by assumption) ?_
          rotate_left
          · intro w hSw
            (try dsimp only at hSw)
            (try obtain ⟨z0, z1, z2, z3, z4, z5, z6⟩ := hSw)
            go_simp <;> with_reducible rfl
          (try simp only [Act.put, List.setIfInBounds_toArray, List.set_cons_zero, List.set_cons_succ])
          refine take_w 37 (some 138) ?_ rfl rfl (by kernel_rfl) (by kernel_rfl) (by kernel_rfl) (fun _ _ _ h => h) (by rfl) ?_ (by assumption) ?_
          rotate_left
          · intro w hSw
            (try dsimp only at hSw)
            (try obtain ⟨z0, z1, z2, z3, z4, z5, z6⟩ := hSw)
            go_simp <;> with_reducible rfl
          (try simp only [Act.put, List.setIfInBounds_toArray, List.set_cons_zero, List.set_cons_succ])
          refine take_w 38 (some 139) ?_ rfl rfl (by kernel_rfl) (by kernel_rfl) (by kernel_rfl) (fun _ _ _ h => h) (by rfl) ?_ (by assumption) ?_
          rotate_left
          · intro w hSw
            (try dsimp only at hSw)
            (try obtain ⟨z0, z1, z2, z3, z4, z5, z6⟩ := hSw)
            go_simp <;> with_reducible rfl
          (try simp only [Act.put, List.setIfInBounds_toArray, List.set_cons_zero, List.set_cons_succ])
          refine take_w 39 (some 140) ?_ rfl rfl (by kernel_rfl) (by kernel_rfl) (by kernel_rfl) (fun _ _ _ h => h) (by rfl) ?_ (by assumption) ?_
          rotate_left
          · intro w hSw
            (try dsimp only at hSw)
            (try obtain ⟨z0, z1, z2, z3, z4, z5, z6⟩ := hSw)
            go_simp <;> with_reducible rfl
          (try simp only [Act.put, List.setIfInBounds_toArray, List.set_cons_zero, List.set_cons_succ])
          refine take_w 40 (some 141) ?_ rfl rfl (by kernel_rfl) (by kernel_rfl) (by kernel_rfl) (fun _ _ _ h => h) (by rfl) ?_ (by assumption) ?_
          rotate_left
          · intro w hSw
            (try dsimp only at hSw)
            (try obtain ⟨z0, z1, z2, z3, z4, z5, z6⟩ := hSw)
            go_simp <;> with_reducible rfl
          (try simp only [Act.put, List.setIfInBounds_toArray, List.set_cons_zero, List.set_cons_succ])
          refine take_w 41 (some 142) ?_ rfl rfl (by kernel_rfl) (by kernel_rfl) (by kernel_rfl) (fun _ _ _ h => h) (by rfl) ?_ (by assumption) ?_
          rotate_left
          · intro w hSw
            (try dsimp only at hSw)
            (try obtain ⟨z0, z1, z2, z3, z4, z5, z6⟩ := hSw)
            go_simp <;> with_reducible rfl
          (try simp only [Act.put, List.setIfInBounds_toArray, List.set_cons_zero, List.set_cons_succ])
          refine wpAnyH_done (by kernel_rfl) ?_ _
          refine NoPanic.normal ?_
          go_upto_region 24 with (fail)
          go_region
          go_wp2_with (fail)
          go_roundw
          case rel => exact ⟨i + 1, hlt, by rw [HAT.out]; go_num, by rw [HPB.out], by go_num, HB9.out.drew.drew⟩
          case measure => simp [intOf]; omega
        · obtain rfl : l.length = i := by omega
          rw [HE.out]
          have hrd := read_any d f m v D .idle (E : Nat) 80 ((n : Int) + 1 + (l.length : Int)) (rowPrev g l.length : Nat) wr ((HH.out.below hB.out).lab 0 _ rfl)
          rw [HRR.out.2] at hrd
          have HBr := Lib.hid (HH.out.below hB.out).bel
          clear hB
          go_wp2_with (fail)
          refine hrd.mono ?_
          unfold zfrm
          rintro e w6 ⟨rfl, b6⟩
          have HB6 := Lib.hid (below_step b6 HBr.out (Nat.le_refl _))
          clear b6 hrd
          go_wp2_with (go_at_call 38; refine (HO.out _).mono ?_; rintro e w7 ⟨rfl, bk⟩)
          go_ret
          exact ⟨rfl, below_step bk HB6.out (Nat.le_refl _)⟩
theorem recordRow_row (a0 : Option Addr) (c0 : Nat) (z0 : List (List UInt8)) (a1 a2 : Int) (W : World) (w0 : StrsAt W a0 z0) (w1 : (Lit.int .u16 a1).wf = true) (w2 : (Lit.int .u8 a2).wf = true) :
    Calls Try.prog 12 #[.slice a0 z0.length c0, .int .u16 a1, .int .u8 a2] W fun e w' => e = .returned (.bool true) ∧ Below W.heap.size W w' := by
  simp [Lit.wf, IntKind.min, IntKind.max, IntKind.signed, IntKind.bits] at w1 w2
  obtain ⟨n, rfl⟩ := Int.eq_ofNat_of_zero_le w1.1
  obtain ⟨m, rfl⟩ := Int.eq_ofNat_of_zero_le w2.1
  exact recordRow_any a0 c0 z0 n m (by omega) (by omega) W w0
end Go.Proofs.Ytjpelmjocdodcaa
