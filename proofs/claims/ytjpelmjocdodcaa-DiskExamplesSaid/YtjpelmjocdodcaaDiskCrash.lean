/- Package disk: Crash. -/
import Derived.Test.YtjpelmjocdodcaaDiskNew
import Derived.WalkLawsBesides
namespace Go.Proofs.Ytjpelmjocdodcaa
open Go.RowKit Go.ChangeMaps

theorem tearFrom_append (keep torn : Int) (n : Nat) (b : List (Nat × List UInt8)) : ∀ (a : List (Nat × List UInt8)) (k : Nat) (L : List (List UInt8)), tearFrom keep torn n k (a ++ b) L = tearFrom keep torn n (k + a.length) b (tearFrom keep torn n k a L) := by
  intro a
  induction a with
  | nil => intro k L; rfl
  | cons p a ih =>
    intro k L
    rw [List.length_cons, show k + (a.length + 1) = k + 1 + a.length by omega]
    exact ih (k + 1) _
theorem tearFrom_snoc (keep torn : Int) (n : Nat) {P : List (Nat × List UInt8)} {i : Nat} (h : i < P.length) (L : List (List UInt8)) :
    tearFrom keep torn n 0 (P.take (i + 1)) L = tearAt keep torn n i P[i] (tearFrom keep torn n 0 (P.take i) L) := by
  rw [List.take_succ_eq_append_getElem h, tearFrom_append, List.length_take, Nat.min_eq_left (Nat.le_of_lt h), Nat.zero_add]
  rfl
theorem tearAt_length (keep torn : Int) (n k : Nat) (p : Nat × List UInt8) (L : List (List UInt8)) : (tearAt keep torn n k p L).length = L.length := by
  unfold tearAt
  split
  · rw [List.length_set]
  · split
    · rw [List.length_set]
    · rfl
theorem tearFrom_length (keep torn : Int) (n : Nat) : ∀ (P : List (Nat × List UInt8)) (k : Nat) (L : List (List UInt8)), (tearFrom keep torn n k P L).length = L.length := by
  intro P
  induction P with
  | nil => intro k L; rfl
  | cons p P ih => intro k L; exact (ih _ _).trans (tearAt_length ..)
theorem secAt_length {L : List (List UInt8)} (h : ∀ s ∈ L, s.length = 80) {i : Nat} (hi : i < L.length) : (secAt L i).length = 80 := by
  unfold secAt
  rw [List.getD_eq_getElem?_getD, List.getElem?_eq_getElem hi]
  exact h _ (List.getElem_mem hi)
theorem keeps_cell {S : Nat → Prop} {w w' : World} (h : Keeps S w w') {b o : Nat} {v : Value} (hc : w.cell? ⟨b, o, none⟩ = some v) (hn : ¬ S b) : w'.cell? ⟨b, o, none⟩ = some v := h.cell hc hn
set_option maxRecDepth 100000 in
set_option maxHeartbeats 3200000 in
theorem dcrash_any (d f m : Nat) (v : Value) (D : Dk) (keep torn bytes : Int) (w : World) (h : DiskAt w d f m v D) :
    Calls Try.prog 23 #[.pointer (some ⟨d, 0, none⟩), .agg #[.int .u64 keep, .int .i64 torn, .int .i64 bytes]] w fun e w' => e = .returned (.tuple #[]) ∧ DiskAt w' d f m (.slice none 0 0) (D.crash keep torn bytes) ∧ Keeps (fun k => k = d ∨ k = m) w w' := by
  obtain ⟨A, cap, rfl⟩ := ownsRow_is h.row
  have hpl := row_len h.row
  unfold maxLen at hpl
  have ht := tmod80 bytes
  have hw : IntKind.i64.wrap (bytes.tmod 80 + 80) = bytes.tmod 80 + 80 := by rw [IntKind.wrap_i64]; omega
  have ht0 : 0 ≤ bytes.tmod 80 + 80 := by omega
  have hn80 := tearN_lt bytes
  have e1 : (bytes.tmod 80 + 80).tmod 80 = (tearN bytes : Int) := by
    unfold tearN
    rw [Int.tmod_eq_emod_of_nonneg ht0]
    omega
  have e2 : (bytes.tmod 80 + 80) % 80 = (tearN bytes : Int) := by rw [← e1, Int.tmod_eq_emod_of_nonneg ht0]
  obtain ⟨n, hn⟩ : ∃ n, tearN bytes = n := ⟨_, rfl⟩
  have HN := Lib.hid hn
  rw [hn] at e1 e2 hn80
  clear hn ht
  have n1 := alloc_new w (.cells #[.int .u64 keep, .int .i64 torn, .int .i64 bytes] 39)
  have b1 := alloc_below w (.cells #[.int .u64 keep, .int .i64 torn, .int .i64 bytes] 39)
  go_enter Try.func23, Try.ntmps23
  obtain ⟨w1, hw1⟩ : ∃ w1, w.alloc (.cells #[.int .u64 keep, .int .i64 torn, .int .i64 bytes] 39) = w1 := ⟨_, rfl⟩
  rw [hw1] at n1 b1
  have h1 := h.below b1
  have c4 : w1.cell? ⟨d, 4, none⟩ = some (.slice A D.P.length cap) := (cell_of h1.blk 4).trans rfl
  have k0 : w1.cell? ⟨w.heap.size, 0, none⟩ = some (.int .u64 keep) := (cell_of n1 0).trans rfl
  have k1 : w1.cell? ⟨w.heap.size, 1, none⟩ = some (.int .i64 torn) := (cell_of n1 1).trans rfl
  have k2 : w1.cell? ⟨w.heap.size, 2, none⟩ = some (.int .i64 bytes) := (cell_of n1 2).trans rfl
  have H1 := Lib.hid h1
  have B1 := Lib.hid b1
  have hmw : ¬ w.heap.size = m := by obtain ⟨_, hm, _⟩ := h.map; have := hm.lt; omega
  have HMW := Lib.hid hmw
  have HO := Lib.hid h.ok
  clear h h1 b1 n1 hmw
  go_wp2_with (fail)
  clear hw e1 e2 ht0 hw1 c4 k2
  go_loopw [20] (fun v20 wr => ∃ i : Nat, i ≤ D.P.length ∧ v20 = .int .i64 i ∧ Hid (DiskAt wr d f m (.slice A D.P.length cap) ⟨tearFrom keep torn n 0 (D.P.take i) D.S, D.P, D.full⟩ ∧ Keeps (· = m) w1 wr)) (fun v20 _ => D.P.length - (intOf v20).toNat)
  case atStart => exact ⟨0, Nat.zero_le _, rfl, H1.out, .refl _ _⟩
  case round =>
    obtain ⟨i, hi, rfl, hrl⟩ := hrel
    by_cases hlt : i < D.P.length
    · obtain ⟨g, rfl, e0, e1⟩ := wcell_at hrl.out.1.row rfl hlt
      have HP := Lib.hid (HO.out.2.2.2 D.P[i] (List.getElem_mem hlt))
      have HT := Lib.hid (tearFrom_snoc keep torn n hlt D.S)
      obtain ⟨⟨a, s⟩, hp⟩ : ∃ p, D.P[i] = p := ⟨_, rfl⟩
      rw [hp] at e0 e1 HP HT
      dsimp only at e0 e1 HP
      clear hp
      have e0' : wr.cell? (Addr.add ⟨g, 0, none⟩ (i * 2)) = some (.int .i64 (a : Int)) := by rw [add_eq, Nat.zero_add]; exact e0
      have n2 := alloc_new wr (.cells #[.int .i64 a, .string (S s)] 105)
      have b2 := alloc_below wr (.cells #[.int .i64 a, .string (S s)] 105)
      have HMW2 := HMW.out
      have y0 := keeps_cell hrl.out.2 k0 HMW2
      have y1 := keeps_cell hrl.out.2 k1 HMW2
      obtain ⟨w2, hw2⟩ : ∃ w2, wr.alloc (.cells #[.int .i64 a, .string (S s)] 105) = w2 := ⟨_, rfl⟩
      rw [hw2] at n2 b2
      replace y0 := below_cell b2 y0
      replace y1 := below_cell b2 y1
      have x0 : w2.cell? ⟨wr.heap.size, 0, none⟩ = some (.int .i64 a) := (cell_of n2 0).trans rfl
      have x1 : w2.cell? ⟨wr.heap.size, 1, none⟩ = some (.string (S s)) := (cell_of n2 1).trans rfl
      have N2 := Lib.hid n2
      have B2 := Lib.hid b2
      clear n2 b2 k0 k1 HMW2
      have hHw2 : DiskAt w2 d f m (.slice (some ⟨g, 0, none⟩) D.P.length cap) ⟨tearFrom keep torn n 0 (D.P.take i) D.S, D.P, D.full⟩ := hrl.out.1.below B2.out
      have hKw2 : Keeps (· = m) w1 w2 := hrl.out.2.trans (Keeps.of_below B2.out)
      by_cases htn : (i : Int) = torn
      · have HA : Hid (tearAt keep torn n i (a, s) (tearFrom keep torn n 0 (D.P.take i) D.S) = (tearFrom keep torn n 0 (D.P.take i) D.S).set a (s.take n ++ (secAt (tearFrom keep torn n 0 (D.P.take i) D.S) a).drop n)) := by
          unfold Hid tearAt; rw [if_pos htn]
        have htn' : ((i : Int) == torn) = true := beq_iff_eq.2 htn
        clear htn
        obtain ⟨X, hX⟩ : ∃ X, secAt (tearFrom keep torn n 0 (D.P.take i) D.S) a = X := ⟨_, rfl⟩
        have hXl : X.length = 80 := by rw [← hX]; exact secAt_length hHw2.ok.2.2.1 (by rw [tearFrom_length]; exact HP.out.1)
        rw [hX] at HA
        have hsl : s.length = 80 := HP.out.2
        have t1 : (S s).extract 0 n = S (s.take n) := by rw [S_extract, List.drop_zero]
        have t2 : (S X).extract n 80 = S (X.drop n) := by rw [S_extract, List.take_of_length_le (by omega)]
        have hn80' : (n : Int) ≤ 80 := by omega
        have t3 : (s.take n).length = n := by rw [List.length_take]; omega
        have t4 : (X.drop n).length = 80 - n := by rw [List.length_drop]; omega
        have t5 : ¬ (9223372036854775807 < n + (80 - n)) := by omega
        have HX := Lib.hid hX
        have HW2 := Lib.hid hHw2
        have HK2 := Lib.hid hKw2
        have F1 := free_of N2.out 1
        have HLn := Lib.hid (show (s.take n ++ X.drop n).length = 80 by rw [List.length_append, t3, t4]; omega)
        have DW := Lib.hid (hHw2.below (w' := w2.drew) (Below.refl _ _).drew)
        clear hX hHw2 hKw2
        go_wp2_with (fail)
        go_region_with (go_at_call 51; refine (dkept_any d f m _ _ a _ DW.out (by rw [tearFrom_length]; exact HP.out.1)).mono ?_; dsimp only; rw [HX.out]; rintro e w3 ⟨rfl, b3⟩; have u0 := below_cell (a := ⟨wr.heap.size, 0, none⟩) b3 x0; have u1 := below_cell (a := ⟨wr.heap.size, 1, none⟩) b3 x1; have u2 := (b3.frozen (p := ⟨wr.heap.size, 1, none⟩) (World.block_lt_of_cell? _ _ x1)).trans F1)
        all_goals
          have z0 : (w3.setCell ⟨wr.heap.size, 1, none⟩ (.string (S (s.take n ++ X.drop n)))).cell? ⟨wr.heap.size, 0, none⟩ = some (.int .i64 a) := by go_simp
          have z1 : (w3.setCell ⟨wr.heap.size, 1, none⟩ (.string (S (s.take n ++ X.drop n)))).cell? ⟨wr.heap.size, 1, none⟩ = some (.string (S (s.take n ++ X.drop n))) := by go_simp
          have kset : Keeps (· = wr.heap.size) w3 (w3.setCell ⟨wr.heap.size, 1, none⟩ (.string (S (s.take n ++ X.drop n)))) := Keeps.setCell (S := (· = wr.heap.size)) (.refl _ _) (fun _ => rfl) _
          have h0 := hrl.out.1
          have hdl := (Array.getElem?_eq_some_iff.1 h0.blk).1
          have hml : m < wr.heap.size := by obtain ⟨_, hm, _⟩ := h0.map; exact hm.lt
          have hgl : ∀ k, (Value.slice (some ⟨g, 0, none⟩) D.P.length cap).ownBlock = some k → ¬ k = wr.heap.size := fun k hk e => by
            rcases h0.row.2 with ⟨h, _⟩ | ⟨g', _, _, h, _, hg, _⟩
            · cases h
            · simp only [Value.slice.injEq, Option.some.injEq, Addr.mk.injEq] at h
              have := (Array.getElem?_eq_some_iff.1 hg).1
              simp [Value.ownBlock] at hk
              omega
          have H4 := (DW.out.below b3).keeps kset (by omega) (by omega) hgl
          have K4 : Keeps (· = m) w1 (w3.setCell ⟨wr.heap.size, 1, none⟩ (.string (S (s.take n ++ X.drop n)))) := by
            have hb4 : Below wr.heap.size wr (w3.setCell ⟨wr.heap.size, 1, none⟩ (.string (S (s.take n ++ X.drop n)))) := ((B2.out.drew.trans (b3.mono B2.out.size))).setCell (Nat.le_refl _) _
            exact hrl.out.2.trans (Keeps.of_below hb4)
          generalize w3.setCell ⟨wr.heap.size, 1, none⟩ (.string (S (s.take n ++ X.drop n))) = w4 at z0 z1 H4 K4 ⊢
          clear t1 t2 t3 t4 t5 u0 u1 u2 x0 x1 y0 y1 kset b3 hsl hXl h0 hdl hml hgl
          obtain ⟨T, hT⟩ : ∃ T, s.take n ++ X.drop n = T := ⟨_, rfl⟩
          have HL := HLn
          rw [hT] at z1 HL HA
          clear HLn
          have H2 := Lib.hid (H4.below (w' := w4.drew) (Below.refl _ _).drew)
          have K2 := Lib.hid K4.drew
          clear H4 K4
          go_wp2_with (fail)
          go_region_with (go_at_call 54; refine (dkeep_any d f m _ _ a T _ H2.out (by rw [tearFrom_length]; exact HP.out.1) HL.out).mono ?_; rintro e w5 ⟨rfl, k5, h5⟩)
          have H5 := Lib.hid h5
          have K5 := Lib.hid (K2.out.trans k5)
          clear h5 k5 z0 z1
          go_wp2_with (fail)
          go_roundw
          case rel => exact ⟨i + 1, by omega, by go_num, by unfold Hid; rw [HT.out, HA.out]; exact ⟨H5.out, K5.out⟩⟩
          case measure => simp [intOf]; omega
      · have htn' : ((i : Int) == torn) = false := beq_eq_false_iff_ne.2 htn
        cases hkb : keepB keep i
        · have HA : Hid (tearAt keep torn n i (a, s) (tearFrom keep torn n 0 (D.P.take i) D.S) = tearFrom keep torn n 0 (D.P.take i) D.S) := by
            unfold Hid tearAt; rw [if_neg htn, hkb]; rfl
          have hb : (Go.bits .and .u64 (keep / 2 ^ (i % 64)) 1 == 0) = true := by
            unfold keepB at hkb
            cases h : (Go.bits .and .u64 (keep / 2 ^ (i % 64)) 1 == 0) <;> simp_all
          have HW2 := Lib.hid hHw2
          have HK2 := Lib.hid hKw2
          clear hkb hHw2 hKw2
          go_wp2_with (fail)
          go_roundw
          case rel => exact ⟨i + 1, by omega, by go_num, by unfold Hid; rw [HT.out, HA.out]; exact ⟨HW2.out, HK2.out⟩⟩
          case measure => simp [intOf]; omega
        · have HA : Hid (tearAt keep torn n i (a, s) (tearFrom keep torn n 0 (D.P.take i) D.S) = (tearFrom keep torn n 0 (D.P.take i) D.S).set a s) := by
            unfold Hid tearAt; rw [if_neg htn, hkb]; rfl
          have hb : (Go.bits .and .u64 (keep / 2 ^ (i % 64)) 1 == 0) = false := by
            unfold keepB at hkb
            cases h : (Go.bits .and .u64 (keep / 2 ^ (i % 64)) 1 == 0) <;> simp_all
          have H2 := Lib.hid (hHw2.below (w' := w2.drew) (Below.refl _ _).drew)
          have K2 := Lib.hid (hKw2.drew)
          have HL := Lib.hid HP.out.2
          clear hkb hHw2 hKw2
          go_wp2_with (fail)
          go_region_with (go_at_call 54; refine (dkeep_any d f m _ _ a s _ H2.out (by rw [tearFrom_length]; exact HP.out.1) HL.out).mono ?_; rintro e w5 ⟨rfl, k5, h5⟩)
          have H5 := Lib.hid h5
          have K5 := Lib.hid (K2.out.trans k5)
          clear h5 k5 x0 x1
          go_wp2_with (fail)
          go_roundw
          case rel => exact ⟨i + 1, by omega, by go_num, by unfold Hid; rw [HT.out, HA.out]; exact ⟨H5.out, K5.out⟩⟩
          case measure => simp [intOf]; omega
    · obtain rfl : i = D.P.length := by omega
      rw [List.take_length] at hrl
      have x4 : wr.cell? ⟨d, 4, none⟩ = some (.slice A D.P.length cap) := (cell_of hrl.out.1.blk 4).trans rfl
      have f4 := free_of hrl.out.1.blk 4
      have HR := hrl
      clear hrl hlt hi k0 k1
      go_wp2
      go_end0
      have h4 := HR.out.1
      have e := setCell_block h4.blk 4 (.slice none 0 0)
      rw [e]
      have k4 : Keeps (fun k => k = d ∨ k = m) wr (setBlock wr d (.cells ((dcells f m (.slice A D.P.length cap) ⟨tearFrom keep torn n 0 D.P D.S, D.P, D.full⟩).setIfInBounds 4 (.slice none 0 0)) 103 (0, 0))) := Keeps.setBlock (S := fun k => k = d ∨ k = m) (.refl _ _) (fun _ => .inl rfl) _
      refine ⟨rfl, ?_, ((Keeps.of_below B1.out).trans (HR.out.2.mono (fun _ _ hk => .inr hk))).trans k4⟩
      unfold Dk.crash
      rw [HN.out]
      exact h4.noPend
end Go.Proofs.Ytjpelmjocdodcaa
