/- SlotsDoes. -/
import Derived.Test.YtgnhpbolmfbngaaSlotsBoth
import Derived.Test.YtgnhpbolmfbngaaBothSame
import Derived.Test.YtgnhpbolmfbngaaBothCrash
import Derived.Test.YtgnhpbolmfbngaaKnown07
import Derived.Test.YtgnhpbolmfbngaaRowA
import Derived.Test.YtgnhpbolmfbngaaTake
namespace Go.Proofs.Ytgnhpbolmfbngaa
open Go.RowKit Go.ChangeMaps

theorem ldAll_is (D : Dk) (z : Fz) : ∃ a b c d e er : Int, ldAll D z = .tuple #[.agg #[.int .i64 a, .int .i64 b, .int .i64 c, .int .i64 d, .int .i64 e], .int .i64 er] := by
  unfold ldAll
  split
  · exact ⟨_, _, _, _, _, _, rfl⟩
  · split
    · exact ⟨_, _, _, _, _, _, rfl⟩
    · unfold loadVal
      split
      · exact ⟨_, _, _, _, _, _, rfl⟩
      · cases newest D with
        | none => exact ⟨_, _, _, _, _, _, rfl⟩
        | some h => exact ⟨_, _, _, _, _, _, rfl⟩
set_option maxRecDepth 100000 in
set_option maxHeartbeats 8000000 in
theorem slotsDoes_any (n : Nat) (hn : n < 256) (A : Option Addr) (cap : Nat) (l : List Act7) (w : World) (hp : Acts7At w A l) :
    Calls Try.prog 11 #[.int .u8 n, .slice A l.length cap] w fun e w' => e = .returned (.bool true) ∧ Below w.heap.size w w' := by
  have HO := Lib.hid (fun W : World => known07_any W)
  by_cases h60 : 60 < l.length
  · have h60' : (60 : Int) < (l.length : Int) := by omega
    go_enter Try.func11, Try.ntmps11
    go_wp2_with (go_at_call 19; refine (HO.out _).mono ?_; rintro e w2 ⟨rfl, bk⟩)
    go_ret
    exact ⟨rfl, bk⟩
  have h60' : ¬ (60 : Int) < (l.length : Int) := by omega
  have HPS := Lib.hid hp
  obtain ⟨q, hq⟩ : ∃ q, n % 4 + 1 = q := ⟨_, rfl⟩
  have hqi : (n : Int) % 4 + 1 = (q : Int) := by omega
  have hq4 : 1 ≤ q ∧ q ≤ 4 := by omega
  have HQ := Lib.hid hq4
  clear hp hq hq4
  go_enter Try.func11, Try.ntmps11
  go_wp2_with (fail)
  refine (newboth_ok q w HQ.out.1 (by have := HQ.out.2; omega)).mono ?_
  rintro e w1 ⟨x, d, f, m, v, r, g, sb, pv, rfl, hB⟩
  have HB1 : Hid (∃ v pv D z, BothAt w w1 x d f m v r g sb pv D z D z ∧ D.P.length ≤ 0) := ⟨_, _, _, _, hB, by show 0 ≤ 0; omega⟩
  clear hB hqi
  go_wp2_with (fail)
  go_loopw [6] (fun v6 wr => ∃ i : Nat, i ≤ l.length ∧ v6 = .int .i64 i ∧ Hid (∃ v pv D z, BothAt w wr x d f m v r g sb pv D z D z ∧ D.P.length ≤ i)) (fun v6 _ => l.length - (intOf v6).toNat)
  case atStart => exact ⟨0, Nat.zero_le _, rfl, HB1.out⟩
  case round =>
    obtain ⟨i, hi, rfl, hr⟩ := hrel
    by_cases hlt : i < l.length
    · obtain ⟨v, pv, D, z, hB, hPl⟩ := hr.out
      obtain ⟨ad, rfl, hd, hk, c0, c1, c2, c3, c4, c5, c6, c7, c8, c9⟩ := (HPS.out.below hB.bel) i hlt
      obtain ⟨⟨ac, seq, boot, area, first, snaps, k, keep, torn, bytes⟩, hp⟩ : ∃ p, l[i] = p := ⟨_, rfl⟩
      rw [hp] at hd hk c0 c1 c2 c3 c4 c5 c6 c7 c8 c9
      dsimp only at hd hk c0 c1 c2 c3 c4 c5 c6 c7 c8 c9
      have HB := Lib.hid hB
      have HOW : Hid (¬ Own d f m v wr.heap.size ∧ ¬ ROwn r g sb pv wr.heap.size) := ⟨fun ho => by have := hB.lab.lt ho; omega, fun ho => by have := hB.rat.rlt hB.rfz ho; omega⟩
      have hl60 : i < 60 := by omega
      have n2 := alloc_new wr (.cells #[.int .u8 (ac : Nat), .int .i64 seq, .int .i64 boot, .int .i64 area, .int .i64 first, .int .i64 snaps, .int .i64 k, .int .u64 keep, .int .i64 torn, .int .i64 bytes] 78)
      have b2 := alloc_below wr (.cells #[.int .u8 (ac : Nat), .int .i64 seq, .int .i64 boot, .int .i64 area, .int .i64 first, .int .i64 snaps, .int .i64 k, .int .u64 keep, .int .i64 torn, .int .i64 bytes] 78)
      go_upto_region 10 with (fail)
      obtain ⟨w2, hw2⟩ : ∃ w2, wr.alloc (.cells #[.int .u8 (ac : Nat), .int .i64 seq, .int .i64 boot, .int .i64 area, .int .i64 first, .int .i64 snaps, .int .i64 k, .int .u64 keep, .int .i64 torn, .int .i64 bytes] 78) = w2 := ⟨_, rfl⟩
      rw [hw2] at n2 b2 ⊢
      have HB2 := Lib.hid (HB.out.below b2)
      have N2 := Lib.hid n2
      have e0 := (cell_of n2 0).trans rfl
      have e6 := (cell_of n2 6).trans rfl
      clear n2 b2 hw2 hB hr c0 c1 c2 c3 c4 c5 c6 c7 c8 c9 hp HB
      rcases (show ac % 5 = 0 ∨ ac % 5 = 1 ∨ ac % 5 = 2 ∨ ac % 5 = 3 ∨ ac % 5 = 4 by omega) with hm | hm | hm | hm | hm
      · have hmi : (ac : Int) % 5 = 0 := by omega
        have hPs := svAll_len D z seq boot area first snaps
        have HBd := Lib.hid (HB2.out.below (Below.refl _ w2).drew)
        have hs1 := sSave_all w w2.drew x d f m v r g sb pv D z D z seq boot area first snaps HBd.out (by omega)
        have hs2 : ∀ W v' D' z', BothAt w W x d f m v' r g sb pv D' z' D z → Calls Try.prog 38 #[.pointer (some ⟨r, 0, none⟩), .agg #[.int .i64 seq, .int .i64 boot, .int .i64 area, .int .i64 first, .int .i64 snaps]] W fun e w' => e = .returned (.int .i64 (svAll D z seq boot area first snaps).1) ∧ RAfter W w' r g sb pv (svAll D z seq boot area first snaps).2.1 (svAll D z seq boot area first snaps).2.2 := fun W v' D' z' h => rSave_all w W x d f m v' r g sb pv D' z' D z seq boot area first snaps h (by omega)
        unfold hval at hs1
        obtain ⟨⟨s1, D1, z1⟩, hsv⟩ : ∃ p, (svAll D z seq boot area first snaps) = p := ⟨_, rfl⟩
        rw [hsv] at hs1 hs2 hPs
        dsimp only at hs1 hs2 hPs
        have HS1 := Lib.hid hs1
        have HS2 := Lib.hid hs2
        have HOFF : Hid (¬ Own d f m v wr.heap.size) := HOW.out.1
        have HROFF : Hid (¬ ROwn r g sb pv wr.heap.size) := HOW.out.2
        have HS : Hid (∀ (W : World) (v' pv' : Value) (D' : Dk) (z' : Fz) (E' : Dk) (y' : Fz), BothAt w W x d f m v' r g sb pv' D' z' E' y' → W.heap[wr.heap.size]? = some (.cells #[.int .u8 (ac : Nat), .int .i64 seq, .int .i64 boot, .int .i64 area, .int .i64 first, .int .i64 snaps, .int .i64 k, .int .u64 keep, .int .i64 torn, .int .i64 bytes] 78 (0, 0)) → W.cell? ⟨x, 1, none⟩ = some (.pointer (some ⟨d, 0, none⟩)) ∧ W.cell? ⟨x, 3, none⟩ = some (.pointer (some ⟨r, 0, none⟩)) ∧ W.cell? ⟨wr.heap.size, 1, none⟩ = some (.int .i64 seq) ∧ W.cell? ⟨wr.heap.size, 2, none⟩ = some (.int .i64 boot) ∧ W.cell? ⟨wr.heap.size, 3, none⟩ = some (.int .i64 area) ∧ W.cell? ⟨wr.heap.size, 4, none⟩ = some (.int .i64 first) ∧ W.cell? ⟨wr.heap.size, 5, none⟩ = some (.int .i64 snaps)) := fun W v' pv' D' z' E' y' h hn => ⟨h.x1, h.x3, (cell_of hn 1).trans rfl, (cell_of hn 2).trans rfl, (cell_of hn 3).trans rfl, (cell_of hn 4).trans rfl, (cell_of hn 5).trans rfl⟩
        have hl2 := (Array.getElem?_eq_some_iff.1 N2.out).1
        clear hs1 hs2 hsv
        go_upto_region 15 with (fail)
        refine wp_region_noPanic ?_
        go_region_held3 (fun W => W.cell? ⟨x, 1, none⟩ = some (.pointer (some ⟨d, 0, none⟩)) ∧ W.cell? ⟨x, 3, none⟩ = some (.pointer (some ⟨r, 0, none⟩)) ∧ W.cell? ⟨wr.heap.size, 1, none⟩ = some (.int .i64 seq) ∧ W.cell? ⟨wr.heap.size, 2, none⟩ = some (.int .i64 boot) ∧ W.cell? ⟨wr.heap.size, 3, none⟩ = some (.int .i64 area) ∧ W.cell? ⟨wr.heap.size, 4, none⟩ = some (.int .i64 first) ∧ W.cell? ⟨wr.heap.size, 5, none⟩ = some (.int .i64 snaps))
          (first | exact HS.out _ _ _ _ _ _ _ HBd.out N2.out | exact HS.out _ _ _ _ _ _ _ HB3.out N3.out | exact HS.out _ _ _ _ _ _ _ (HB3.out.rchange h4 z4 k4 (fun _ h => h) n4) ((k4.block _ (Array.getElem?_eq_some_iff.1 N3.out).1 HROFF.out).trans N3.out))
          (first | (go_at_call 38; refine (HS2.out _ _ _ _ HB3.out).mono ?_; rintro e w4 ⟨rfl, ha4⟩; obtain ⟨pv4, h4, z4, k4, n4⟩ := ha4) | (go_at_call 26; refine HS1.out.mono ?_; rintro e w3 ⟨rfl, ha3⟩; obtain ⟨v3, h3, k3, n3⟩ := ha3.lab; have HB3 := Lib.hid (HBd.out.dchange h3 k3 (fun _ h => h) n3); have N3 := Lib.hid ((k3.block _ hl2 HOFF.out).trans N2.out)))
        refine NoPanic.normal ?_
        have HE : Hid (BothAt w w4 x d f m v3 r g sb pv4 D1 z1 D1 z1 ∧ D1.P.length ≤ i + 1) := ⟨HB3.out.rchange h4 z4 k4 (fun _ h => h) n4, by omega⟩
        clear h3 k3 n3 h4 z4 k4 n4 HB3 N3 HS HS1 HS2 HOFF HROFF HBd HB2 N2 ha3 e0 e6
        go_wp2_with (fail)
        refine (same_any w _ x d f m _ r g sb _ _ _ HE.out.1 (by have := HE.out.2; omega)).mono ?_
        rintro e w9 ⟨rfl, b9⟩
        have HF := Lib.hid (HE.out.1.below b9)
        clear b9
        go_wp2_with (fail)
        go_roundw
        case rel => exact ⟨i + 1, hlt, by go_num, _, _, _, _, HF.out, HE.out.2⟩
        case measure => simp [intOf]; omega
      · have hmi : (ac : Int) % 5 = 1 := by omega
        obtain ⟨a1, a2, a3, a4, a5, er, hld⟩ := ldAll_is D z
        have hl1 := sLoad_all d f m v D z w2 HB2.out.lab
        rw [hld] at hl1
        have HL2 : Hid (∀ W, RefAt W r g sb pv D → RFzAt W g z → Calls Try.prog 39 #[.pointer (some ⟨r, 0, none⟩)] W fun e w' => e = .returned (.tuple #[.agg #[.int .i64 a1, .int .i64 a2, .int .i64 a3, .int .i64 a4, .int .i64 a5], .int .i64 er]) ∧ Below W.heap.size W w') := fun W h1 h2 => by
          have := rLoad_all r g sb pv D z W h1 h2
          rw [hld] at this
          exact this
        have cx1 := HB2.out.x1
        clear hld
        go_wp2_with (fail)
        refine hl1.mono ?_
        rintro e w3 ⟨rfl, b3⟩
        have n4 := alloc_new w3 (.cells #[.int .i64 a1, .int .i64 a2, .int .i64 a3, .int .i64 a4, .int .i64 a5] 40)
        have b4 := below_step (alloc_below w3 (.cells #[.int .i64 a1, .int .i64 a2, .int .i64 a3, .int .i64 a4, .int .i64 a5] 40)) b3 (Nat.le_refl _)
        go_upto_region 19 with (fail)
        obtain ⟨w4, hw4⟩ : ∃ w4, w3.alloc (.cells #[.int .i64 a1, .int .i64 a2, .int .i64 a3, .int .i64 a4, .int .i64 a5] 40) = w4 := ⟨_, rfl⟩
        rw [hw4] at n4 b4 ⊢
        have HB4 := Lib.hid (HB2.out.below b4)
        have N4 := Lib.hid n4
        clear b3 b4 n4 hw4 hl1 cx1 HB2 N2 e0 e6
        have cx3 := HB4.out.x3
        go_wp2_with (fail)
        refine (HL2.out _ HB4.out.rat HB4.out.rfz).mono ?_
        rintro e w5 ⟨rfl, b5⟩
        have n6 := alloc_new w5 (.cells #[.int .i64 a1, .int .i64 a2, .int .i64 a3, .int .i64 a4, .int .i64 a5] 40)
        have b6 := below_step (alloc_below w5 (.cells #[.int .i64 a1, .int .i64 a2, .int .i64 a3, .int .i64 a4, .int .i64 a5] 40)) b5 (Nat.le_refl _)
        have n4' := (b6.block _ (Array.getElem?_eq_some_iff.1 N4.out).1).trans N4.out
        have i0 := (cell_of n6 0).trans rfl
        have i1 := (cell_of n6 1).trans rfl
        have i2 := (cell_of n6 2).trans rfl
        have i3 := (cell_of n6 3).trans rfl
        have i4 := (cell_of n6 4).trans rfl
        have j0 := (cell_of n4' 0).trans rfl
        have j1 := (cell_of n4' 1).trans rfl
        have j2 := (cell_of n4' 2).trans rfl
        have j3 := (cell_of n4' 3).trans rfl
        have j4 := (cell_of n4' 4).trans rfl
        have HE : Hid (BothAt w (w5.alloc (.cells #[.int .i64 a1, .int .i64 a2, .int .i64 a3, .int .i64 a4, .int .i64 a5] 40)) x d f m v r g sb pv D z D z ∧ D.P.length ≤ i + 1) := ⟨HB4.out.below b6, by omega⟩
        clear b5 b6 n6 n4' N4 HB4 cx3 HL2
        go_wp2_with (fail)
        refine (same_any w _ x d f m _ r g sb _ _ _ HE.out.1 (by have := HE.out.2; omega)).mono ?_
        rintro e w9 ⟨rfl, b9⟩
        have HF := Lib.hid (HE.out.1.below b9)
        clear b9
        go_wp2_with (fail)
        go_roundw
        case rel => exact ⟨i + 1, hlt, by go_num, _, _, _, _, HF.out, HE.out.2⟩
        case measure => simp [intOf]; omega
      · have hmi : (ac : Int) % 5 = 2 := by omega
        go_wp2_with (fail)
        refine (botharm_any w w2 x d f m v r g sb pv D z D k HB2.out hk).mono ?_
        rintro e w3 ⟨rfl, h3⟩
        have HE : Hid (BothAt w w3 x d f m v r g sb pv D (z.arm k).2 D (z.arm k).2 ∧ D.P.length ≤ i + 1) := ⟨h3, by omega⟩
        clear h3 HB2 N2 e0 e6
        go_wp2_with (fail)
        refine (same_any w _ x d f m _ r g sb _ _ _ HE.out.1 (by have := HE.out.2; omega)).mono ?_
        rintro e w9 ⟨rfl, b9⟩
        have HF := Lib.hid (HE.out.1.below b9)
        clear b9
        go_wp2_with (fail)
        go_roundw
        case rel => exact ⟨i + 1, hlt, by go_num, _, _, _, _, HF.out, HE.out.2⟩
        case measure => simp [intOf]; omega
      · have hmi : (ac : Int) % 5 = 3 := by omega
        have e7 := (cell_of N2.out 7).trans rfl
        have e8 := (cell_of N2.out 8).trans rfl
        have e9 := (cell_of N2.out 9).trans rfl
        go_wp2_with (fail)
        refine (bothcrash_any w w2 x d f m v r g sb pv D z D z keep torn bytes HB2.out).mono ?_
        rintro e w3 ⟨rfl, h3, -⟩
        have HE : Hid (BothAt w w3 x d f m (.slice none 0 0) r g sb (.slice none 0 0) (D.crash keep torn bytes) .idle (D.crash keep torn bytes) .idle ∧ (D.crash keep torn bytes).P.length ≤ i + 1) := ⟨h3, Nat.zero_le _⟩
        clear h3 HB2 N2 e0 e6 e7 e8 e9
        go_wp2_with (fail)
        refine (same_any w _ x d f m _ r g sb _ _ _ HE.out.1 (by have := HE.out.2; omega)).mono ?_
        rintro e w9 ⟨rfl, b9⟩
        have HF := Lib.hid (HE.out.1.below b9)
        clear b9
        go_wp2_with (fail)
        go_roundw
        case rel => exact ⟨i + 1, hlt, by go_num, _, _, _, _, HF.out, HE.out.2⟩
        case measure => simp [intOf]; omega
      · have hmi : (ac : Int) % 5 = 4 := by omega
        have e1 := (cell_of N2.out 1).trans rfl
        have e2 := (cell_of N2.out 2).trans rfl
        have e3 := (cell_of N2.out 3).trans rfl
        have e4 := (cell_of N2.out 4).trans rfl
        have e5 := (cell_of N2.out 5).trans rfl
        have hen := srEncode_any seq boot area first snaps w2
        unfold hval at hen
        obtain ⟨⟨s0, er⟩, hee⟩ : ∃ p, hencOf seq boot area first snaps = p := ⟨_, rfl⟩
        rw [hee] at hen
        dsimp only at hen
        clear hee
        go_wp2_with (fail)
        refine hen.mono ?_
        rintro e w3 ⟨rfl, b3⟩
        have HB3 := Lib.hid (HB2.out.below b3)
        have N3 := Lib.hid ((b3.block _ (Array.getElem?_eq_some_iff.1 N2.out).1).trans N2.out)
        clear b3 hen e0 e1 e2 e3 e4 e5 e6 HB2 N2
        go_upto_region 12 with (fail)
        by_cases her : er = 0
        · subst her
          have HBd := Lib.hid (HB3.out.below (Below.refl _ w3).drew)
          have hw1 := dwrite_any d f m v D z k s0 w3.drew HBd.out.lab.disk HBd.out.lab.fuse (by omega)
          have hw2 : ∀ W v' D' z', BothAt w W x d f m v' r g sb pv D' z' D z → Calls Try.prog 41 #[.pointer (some ⟨r, 0, none⟩), .int .i64 k, .string (S s0)] W fun e w' => e = .returned (.int .i64 (doWrite D z k s0).1) ∧ RAfter W w' r g sb pv (doWrite D z k s0).2.1 (doWrite D z k s0).2.2 := fun W v' D' z' h => rdwrite_any r g sb pv D z k s0 W h.rat h.rfz (by omega)
          have hlen : (doWrite D z k s0).2.1.P.length ≤ D.P.length + 1 := by
            unfold doWrite
            split
            · split
              · split
                · show (D.P ++ [_]).length ≤ _; simp
                · exact Nat.le_succ _
              · exact Nat.le_succ _
            · exact Nat.le_succ _
          obtain ⟨⟨s1, D1, z1⟩, hsv⟩ : ∃ p, doWrite D z k s0 = p := ⟨_, rfl⟩
          rw [hsv] at hw1 hw2 hlen
          dsimp only at hw1 hw2 hlen
          have HS1 := Lib.hid hw1
          have HS2 := Lib.hid hw2
          have HS : Hid (∀ (W : World) (v' pv' : Value) (D' : Dk) (z' : Fz) (E' : Dk) (y' : Fz), BothAt w W x d f m v' r g sb pv' D' z' E' y' → W.heap[wr.heap.size]? = some (.cells #[.int .u8 (ac : Nat), .int .i64 seq, .int .i64 boot, .int .i64 area, .int .i64 first, .int .i64 snaps, .int .i64 k, .int .u64 keep, .int .i64 torn, .int .i64 bytes] 78 (0, 0)) → W.cell? ⟨x, 1, none⟩ = some (.pointer (some ⟨d, 0, none⟩)) ∧ W.cell? ⟨x, 3, none⟩ = some (.pointer (some ⟨r, 0, none⟩)) ∧ W.cell? ⟨wr.heap.size, 6, none⟩ = some (.int .i64 k)) := fun W v' pv' D' z' E' y' h hn => ⟨h.x1, h.x3, (cell_of hn 6).trans rfl⟩
          have hl2 := (Array.getElem?_eq_some_iff.1 N3.out).1
          clear hw1 hw2 hsv
          refine wp_region_noPanic ?_
          go_region_held3 (fun W => W.cell? ⟨x, 1, none⟩ = some (.pointer (some ⟨d, 0, none⟩)) ∧ W.cell? ⟨x, 3, none⟩ = some (.pointer (some ⟨r, 0, none⟩)) ∧ W.cell? ⟨wr.heap.size, 6, none⟩ = some (.int .i64 k))
            (first | exact HS.out _ _ _ _ _ _ _ HBd.out N3.out | exact HS.out _ _ _ _ _ _ _ HB4.out N4.out | exact HS.out _ _ _ _ _ _ _ (HB4.out.rchange h5 z5 k5 (fun _ h => h) n5) ((k5.block _ (Array.getElem?_eq_some_iff.1 N4.out).1 HOW.out.2).trans N4.out))
            (first | (go_at_call 41; refine (HS2.out _ _ _ _ HB4.out).mono ?_; rintro e w5 ⟨rfl, ha5⟩; obtain ⟨pv5, h5, z5, k5, n5⟩ := ha5) | (go_at_call 29; refine HS1.out.mono ?_; rintro e w4 ⟨rfl, ha4⟩; obtain ⟨v4, h4, k4, n4⟩ := ha4.lab; have HB4 := Lib.hid (HBd.out.dchange h4 k4 (fun _ h => h) n4); have N4 := Lib.hid ((k4.block _ hl2 HOW.out.1).trans N3.out)))
          refine NoPanic.normal ?_
          have HE : Hid (BothAt w w5 x d f m v4 r g sb pv5 D1 z1 D1 z1 ∧ D1.P.length ≤ i + 1) := ⟨HB4.out.rchange h5 z5 k5 (fun _ h => h) n5, by omega⟩
          clear h4 k4 n4 h5 z5 k5 n5 HB4 N4 HS HS1 HS2 HBd HB3 N3 ha4
          go_wp2_with (fail)
          refine (same_any w _ x d f m _ r g sb _ _ _ HE.out.1 (by have := HE.out.2; omega)).mono ?_
          rintro e w9 ⟨rfl, b9⟩
          have HF := Lib.hid (HE.out.1.below b9)
          clear b9
          go_wp2_with (fail)
          go_roundw
          case rel => exact ⟨i + 1, hlt, by go_num, _, _, _, _, HF.out, HE.out.2⟩
          case measure => simp [intOf]; omega
        · have hne : (er == 0) = false := beq_eq_false_iff_ne.2 her
          refine wp_region_noPanic ?_
          refine wp_region_held_drew (S := (fun _ => True)) (by kernel_rfl) (trivial) (fun hHeld => ?_)
          refine take_w 0 (some 44) ?_ rfl rfl (by kernel_rfl) (by kernel_rfl) (by kernel_rfl) (fun _ _ _ h => h) (by rfl) ?_ (by assumption) ?_
          rotate_left
          · intro w hSw
            (try dsimp only at hSw)
            (try obtain ⟨z0, z1, z2, z3, z4, z5, z6⟩ := hSw)
            go_simp <;> with_reducible rfl
          (try simp only [Act.put, List.setIfInBounds_toArray, List.set_cons_zero, List.set_cons_succ])
          refine take_w 1 (some 45) ?_ rfl rfl (by kernel_rfl) (by kernel_rfl) (by kernel_rfl) (fun _ _ _ h => h) (by rfl) ?_ (by assumption) ?_
          rotate_left
          · intro w hSw
            (try dsimp only at hSw)
            (try obtain ⟨z0, z1, z2, z3, z4, z5, z6⟩ := hSw)
            go_simp <;> with_reducible rfl
          (try simp only [Act.put, List.setIfInBounds_toArray, List.set_cons_zero, List.set_cons_succ])
          refine take_w 2 (some 46) ?_ rfl rfl (by kernel_rfl) (by kernel_rfl) (by kernel_rfl) (fun _ _ _ h => h) (by rfl) ?_ (by assumption) ?_
          rotate_left
          · intro w hSw
            (try dsimp only at hSw)
            (try obtain ⟨z0, z1, z2, z3, z4, z5, z6⟩ := hSw)
            go_simp <;> with_reducible rfl
          (try simp only [Act.put, List.setIfInBounds_toArray, List.set_cons_zero, List.set_cons_succ])
          refine take_u 3 (some 47) rfl rfl (by kernel_rfl) (by kernel_rfl) (by kernel_rfl) (fun _ _ _ h => h) (by rfl) (by assumption) ?_
          (try simp only [Act.put, List.setIfInBounds_toArray, List.set_cons_zero, List.set_cons_succ])
          refine take_u 4 (some 48) rfl rfl (by kernel_rfl) (by kernel_rfl) (by kernel_rfl) (fun _ _ _ h => h) (by rfl) (by assumption) ?_
          (try simp only [Act.put, List.setIfInBounds_toArray, List.set_cons_zero, List.set_cons_succ])
          refine take_u 5 (some 49) rfl rfl (by kernel_rfl) (by kernel_rfl) (by kernel_rfl) (fun _ _ _ h => h) (by rfl) (by assumption) ?_
          (try simp only [Act.put, List.setIfInBounds_toArray, List.set_cons_zero, List.set_cons_succ])
          refine take_u 6 (some 50) rfl rfl (by kernel_rfl) (by kernel_rfl) (by kernel_rfl) (fun _ _ _ h => h) (by rfl) (by assumption) ?_
          (try simp only [Act.put, List.setIfInBounds_toArray, List.set_cons_zero, List.set_cons_succ])
          refine take_u 7 (some 51) rfl rfl (by kernel_rfl) (by kernel_rfl) (by kernel_rfl) (fun _ _ _ h => h) (by rfl) (by assumption) ?_
          (try simp only [Act.put, List.setIfInBounds_toArray, List.set_cons_zero, List.set_cons_succ])
          refine take_u 8 (some 52) rfl rfl (by kernel_rfl) (by kernel_rfl) (by kernel_rfl) (fun _ _ _ h => h) (by rfl) (by assumption) ?_
          (try simp only [Act.put, List.setIfInBounds_toArray, List.set_cons_zero, List.set_cons_succ])
          refine take_u 9 (some 53) rfl rfl (by kernel_rfl) (by kernel_rfl) (by kernel_rfl) (fun _ _ _ h => h) (by rfl) (by assumption) ?_
          (try simp only [Act.put, List.setIfInBounds_toArray, List.set_cons_zero, List.set_cons_succ])
          refine take_u 10 (some 54) rfl rfl (by kernel_rfl) (by kernel_rfl) (by kernel_rfl) (fun _ _ _ h => h) (by rfl) (by assumption) ?_
          (try simp only [Act.put, List.setIfInBounds_toArray, List.set_cons_zero, List.set_cons_succ])
          refine take_u 11 (some 55) rfl rfl (by kernel_rfl) (by kernel_rfl) (by kernel_rfl) (fun _ _ _ h => h) (by rfl) (by assumption) ?_
          (try simp only [Act.put, List.setIfInBounds_toArray, List.set_cons_zero, List.set_cons_succ])
          refine take_u 12 (some 56) rfl rfl (by kernel_rfl) (by kernel_rfl) (by kernel_rfl) (fun _ _ _ h => h) (by rfl) (by assumption) ?_
          (try simp only [Act.put, List.setIfInBounds_toArray, List.set_cons_zero, List.set_cons_succ])
          refine take_u 13 (some 57) rfl rfl (by kernel_rfl) (by kernel_rfl) (by kernel_rfl) (fun _ _ _ h => h) (by rfl) (by assumption) ?_
          (try simp only [Act.put, List.setIfInBounds_toArray, List.set_cons_zero, List.set_cons_succ])
          refine take_u 14 (some 58) rfl rfl (by kernel_rfl) (by kernel_rfl) (by kernel_rfl) (fun _ _ _ h => h) (by rfl) (by assumption) ?_
          (try simp only [Act.put, List.setIfInBounds_toArray, List.set_cons_zero, List.set_cons_succ])
          refine take_u 15 (some 59) rfl rfl (by kernel_rfl) (by kernel_rfl) (by kernel_rfl) (fun _ _ _ h => h) (by rfl) (by assumption) ?_
          (try simp only [Act.put, List.setIfInBounds_toArray, List.set_cons_zero, List.set_cons_succ])
          refine take_u 16 (some 60) rfl rfl (by kernel_rfl) (by kernel_rfl) (by kernel_rfl) (fun _ _ _ h => h) (by rfl) (by assumption) ?_
          (try simp only [Act.put, List.setIfInBounds_toArray, List.set_cons_zero, List.set_cons_succ])
          refine take_u 17 (some 61) rfl rfl (by kernel_rfl) (by kernel_rfl) (by kernel_rfl) (fun _ _ _ h => h) (by rfl) (by assumption) ?_
          (try simp only [Act.put, List.setIfInBounds_toArray, List.set_cons_zero, List.set_cons_succ])
          refine take_u 18 (some 62) rfl rfl (by kernel_rfl) (by kernel_rfl) (by kernel_rfl) (fun _ _ _ h => h) (by rfl) (by assumption) ?_
          (try simp only [Act.put, List.setIfInBounds_toArray, List.set_cons_zero, List.set_cons_succ])
          refine take_u 19 (some 63) rfl rfl (by kernel_rfl) (by kernel_rfl) (by kernel_rfl) (fun _ _ _ h => h) (by rfl) (by assumption) ?_
          (try simp only [Act.put, List.setIfInBounds_toArray, List.set_cons_zero, List.set_cons_succ])
          refine take_w 20 (some 64) ?_ rfl rfl (by kernel_rfl) (by kernel_rfl) (by kernel_rfl) (fun _ _ _ h => h) (by rfl) ?_ (by assumption) ?_
          rotate_left
          · intro w hSw
            (try dsimp only at hSw)
            (try obtain ⟨z0, z1, z2, z3, z4, z5, z6⟩ := hSw)
            go_simp <;> with_reducible rfl
          (try simp only [Act.put, List.setIfInBounds_toArray, List.set_cons_zero, List.set_cons_succ])
          refine wpAnyH_done (by kernel_rfl) ?_ _
          refine NoPanic.normal ?_
          have HE : Hid (BothAt w w3.drew x d f m v r g sb pv D z D z ∧ D.P.length ≤ i + 1) := ⟨HB3.out.below (Below.refl _ w3).drew, by omega⟩
          clear HB3 N3
          go_wp2_with (fail)
          refine (same_any w _ x d f m _ r g sb _ _ _ HE.out.1 (by have := HE.out.2; omega)).mono ?_
          rintro e w9 ⟨rfl, b9⟩
          have HF := Lib.hid (HE.out.1.below b9)
          clear b9
          go_wp2_with (fail)
          go_roundw
          case rel => exact ⟨i + 1, hlt, by go_num, _, _, _, _, HF.out, HE.out.2⟩
          case measure => simp [intOf]; omega
    · obtain rfl : l.length = i := by omega
      obtain ⟨v, pv, D, z, hB, hPl⟩ := hr.out
      have HB := Lib.hid hB.bel
      clear hB hr
      go_wp2_with (go_at_call 19; refine (HO.out _).mono ?_; rintro e w2 ⟨rfl, bk⟩)
      go_ret
      exact ⟨rfl, below_step bk HB.out (Nat.le_refl _)⟩
theorem slotsDoes_row (a0 : Int) (a1 : Option Addr) (c1 : Nat) (z1 : List Act7) (W : World) (w0 : (Lit.int .u8 a0).wf = true) (w1 : Acts7At W a1 z1) :
    Calls Try.prog 11 #[.int .u8 a0, .slice a1 z1.length c1] W fun e w' => e = .returned (.bool true) ∧ Below W.heap.size W w' := by
  obtain ⟨n, rfl, hn⟩ := u8_nat7 w0
  exact slotsDoes_any n hn a1 c1 z1 W w1
end Go.Proofs.Ytgnhpbolmfbngaa
