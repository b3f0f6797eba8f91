/- sacristanref07.Load. -/
import Derived.Test.YtgnhpbolmfbngaaSlotsMore
import Derived.Test.YtgnhpbolmfbngaaSRDecode
import Derived.Test.YtgnhpbolmfbngaaBoth
namespace Go.Proofs.Ytgnhpbolmfbngaa
open Go.RowKit Go.ChangeMaps

/-- The five numbers of a header that may be none. -/
def h5 (o : Option Hd) : Nat × Nat × Nat × Nat × Nat := match o with
  | some h => (h.seq, h.boot, h.area, h.first, h.snaps)
  | none => (0, 0, 0, 0, 0)
def h5c (p : Nat × Nat × Nat × Nat × Nat) : Array Value := #[.int .i64 p.1, .int .i64 p.2.1, .int .i64 p.2.2.1, .int .i64 p.2.2.2.1, .int .i64 p.2.2.2.2]
def bestAt (D : Dk) : Nat → Option Hd
  | 0 => none
  | 1 => hdAt D 0
  | _ => newest D
theorem hdAt_pos {D : Dk} {i : Nat} {b : Hd} (h : hdAt D i = some b) : 1 ≤ b.seq ∧ b.seq % 2 = i ∧ b.seq < 281474976710656 := by
  unfold hdAt at h
  cases hd : hdecodeOf (D.read i) with
  | none => rw [hd] at h; cases h
  | some c =>
    rw [hd] at h
    dsimp only at h
    have ok := (hdecodeOf_some hd).1
    unfold Hd.Ok at ok
    split at h
    · obtain rfl := Option.some.inj h
      exact ⟨ok.1, by assumption, ok.2.1⟩
    · cases h
theorem hdAt_of {D : Dk} {i : Nat} {b : Hd} (h : hdecodeOf (D.read i) = some b) : hdAt D i = if b.seq % 2 = i then some b else none := by
  unfold hdAt
  rw [h]
theorem best_succ (D : Dk) {i : Nat} (hi : i < 2) : bestAt D (i + 1) = if hdSeq (bestAt D i) < hdSeq (hdAt D i) then hdAt D i else bestAt D i := by
  rcases i with _ | _ | i
  · show hdAt D 0 = if 0 < hdSeq (hdAt D 0) then hdAt D 0 else none
    cases h : hdAt D 0 with
    | none => rfl
    | some b => exact (if_pos (show 0 < b.seq by have := hdAt_pos h; omega)).symm
  · rfl
  · omega
theorem h5_seq (o : Option Hd) : (h5 o).1 = hdSeq o := by cases o <;> rfl
theorem h5_val (o : Option Hd) : hdVal o = .agg (h5c (h5 o)) := by cases o <;> rfl
theorem bestAt_lt (D : Dk) (i : Nat) : hdSeq (bestAt D i) < 281474976710656 := by
  have key : ∀ j, hdSeq (hdAt D j) < 281474976710656 := fun j => by
    cases h : hdAt D j with
    | none => show 0 < _; omega
    | some b => exact (hdAt_pos h).2.2
  rcases i with _ | _ | i
  · show 0 < _; omega
  · exact key 0
  · show hdSeq (newest D) < _
    unfold newest
    split
    · exact key 1
    · exact key 0
theorem set1g {w : World} {b : Nat} {C : Array Value} {t : TypeId} {fr : Nat × Nat} (h : w.heap[b]? = some (Obj.cells C t fr)) (o : Nat) (v : Value) : (w.setCell ⟨b, o, none⟩ v).heap[b]? = some (Obj.cells (C.setIfInBounds o v) t fr) := by
  rw [setCell_block h]
  exact setBlock_same (Array.getElem?_eq_some_iff.1 h).1 _
theorem set5g {w : World} {b : Nat} {t : TypeId} {o0 o1 o2 o3 o4 : Value} (h : w.heap[b]? = some (Obj.cells #[o0, o1, o2, o3, o4] t (0, 0))) (v0 v1 v2 v3 v4 : Value) :
    (((((w.setCell ⟨b, 0, none⟩ v0).setCell ⟨b, 1, none⟩ v1).setCell ⟨b, 2, none⟩ v2).setCell ⟨b, 3, none⟩ v3).setCell ⟨b, 4, none⟩ v4).heap[b]? = some (Obj.cells #[v0, v1, v2, v3, v4] t (0, 0)) ∧
    Keeps (fun k => k = b) w (((((w.setCell ⟨b, 0, none⟩ v0).setCell ⟨b, 1, none⟩ v1).setCell ⟨b, 2, none⟩ v2).setCell ⟨b, 3, none⟩ v3).setCell ⟨b, 4, none⟩ v4) := by
  refine ⟨?_, (((((Keeps.refl (fun k => k = b) w).setCell (p := ⟨b, 0, none⟩) (fun _ => rfl) v0).setCell (p := ⟨b, 1, none⟩) (fun _ => rfl) v1).setCell (p := ⟨b, 2, none⟩) (fun _ => rfl) v2).setCell (p := ⟨b, 3, none⟩) (fun _ => rfl) v3).setCell (p := ⟨b, 4, none⟩) (fun _ => rfl) v4⟩
  have h1 := set1g (set1g (set1g (set1g (set1g h 0 v0) 1 v1) 2 v2) 3 v3) 4 v4
  simp only [List.setIfInBounds_toArray, List.set_cons_zero, List.set_cons_succ] at h1
  exact h1
abbrev hz5 : Array Value := #[.int .i64 0, .int .i64 0, .int .i64 0, .int .i64 0, .int .i64 0]
set_option maxRecDepth 100000 in
set_option maxHeartbeats 8000000 in
theorem rLoad_ok (r g sb : Nat) (pv : Value) (D : Dk) (z : Fz) (w : World) (h : RefAt w r g sb pv D) (hz : RFzAt w g z) (h2 : 2 ≤ D.S.length) (hd : z.dead = false) :
    Calls Try.prog 39 #[.pointer (some ⟨r, 0, none⟩)] w fun e w' => e = .returned (loadVal D) ∧ Below w.heap.size w w' := by
  have HH := Lib.hid h
  have HZ := Lib.hid hz
  have HD2 := Lib.hid h2
  have ba := alloc_below w (.cells hz5 40)
  have cr0 := (h.below ba).c0
  have cr2 := (h.below ba).c2
  have cg : (w.alloc (.cells hz5 40)).cell? ⟨g, 1, none⟩ = some (.bool z.dead) := below_cell ba ((cell_of hz.1 1).trans rfl)
  rw [hd] at cg
  have h2i : ¬ (D.S.length : Int) < 2 := by omega
  have HRD : Hid (∀ i : Nat, i < 2 → doRead D z i = (D.read i, 0)) := fun i hi => doRead_ok (by omega) hd
  obtain ⟨n0, n1, n2, n3⟩ := two_new w (.cells hz5 40) (.cells hz5 40)
  clear h hz h2 hd ba
  go_enter Try.func39, Try.ntmps39
  go_wp2_with (fail)
  obtain ⟨w2, hw2⟩ : ∃ w2, (w.alloc (.cells hz5 40)).alloc (.cells hz5 40) = w2 := ⟨_, rfl⟩
  rw [hw2] at n0 n1 n2 n3 ⊢
  have HR0 : Hid (w2.heap[w.heap.size]? = some (.cells hz5 40 (0, 0)) ∧ w2.heap[w.heap.size + 1]? = some (.cells (h5c (h5 (bestAt D 0))) 40 (0, 0)) ∧ Below w.heap.size w w2) := ⟨n0, n1, n3⟩
  clear n0 n1 n2 n3 hw2 cr0 cr2 cg h2i
  go_loopw [5] (fun v5 wr => ∃ i : Nat, i ≤ 2 ∧ v5 = .int .i64 i ∧ Hid (wr.heap[w.heap.size]? = some (.cells hz5 40 (0, 0)) ∧ wr.heap[w.heap.size + 1]? = some (.cells (h5c (h5 (bestAt D i))) 40 (0, 0)) ∧ Below w.heap.size w wr)) (fun v5 _ => 2 - (intOf v5).toNat)
  case atStart => exact ⟨0, Nat.zero_le _, rfl, HR0⟩
  case round =>
    obtain ⟨i, hi, rfl, hr⟩ := hrel
    by_cases hlt : i < 2
    · have hrd := rdread_any r g sb pv D z i wr (HH.out.below hr.out.2.2) (HZ.out.below hr.out.2.2)
      rw [HRD.out i hlt] at hrd
      dsimp only at hrd
      go_wp2_with (fail)
      refine hrd.mono ?_
      rintro e w3 ⟨rfl, hw3⟩
      subst hw3
      have hde := srDecode_any (D.read i) w3
      have HBS := Lib.hid (best_succ D hlt)
      cases hdec : hdecodeOf (D.read i) with
      | none =>
        have hn : hdAt D i = none := by unfold hdAt; rw [hdec]
        rw [hdecVal_none hdec] at hde
        unfold zhead hval at hde
        go_wp2_with (fail)
        refine hde.mono ?_
        rintro e w4 ⟨rfl, b4⟩
        have b5 := below_step (alloc_below w4 (.cells hz5 40)) b4 (Nat.le_refl _)
        have HR5 : Hid ((w4.alloc (.cells hz5 40)).heap[w.heap.size]? = some (.cells hz5 40 (0, 0)) ∧ (w4.alloc (.cells hz5 40)).heap[w.heap.size + 1]? = some (.cells (h5c (h5 (bestAt D (i + 1)))) 40 (0, 0)) ∧ Below w.heap.size w (w4.alloc (.cells hz5 40))) :=
          ⟨(b5.block _ (Array.getElem?_eq_some_iff.1 hr.out.1).1).trans hr.out.1, by rw [HBS.out, hn, if_neg (by show ¬ _ < 0; omega)]; exact (b5.block _ (Array.getElem?_eq_some_iff.1 hr.out.2.1).1).trans hr.out.2.1, below_step b5 hr.out.2.2 (Nat.le_refl _)⟩
        clear b4 b5 hde hrd hr hn hdec
        go_wp2_with (fail)
        go_roundw
        case rel => exact ⟨i + 1, hlt, by go_num, HR5⟩
        case measure => simp [intOf]; omega
      | some b =>
        have hok := (hdecodeOf_some hdec).1
        unfold Hd.Ok at hok
        have hat := hdAt_of hdec
        rw [hdecVal_some hdec] at hde
        unfold Hd.val hval at hde
        go_wp2_with (fail)
        refine hde.mono ?_
        rintro e w4 ⟨rfl, b4⟩
        have n5 := alloc_new w4 (.cells #[.int .i64 b.seq, .int .i64 b.boot, .int .i64 b.area, .int .i64 b.first, .int .i64 b.snaps] 40)
        have b5 := below_step (alloc_below w4 (.cells #[.int .i64 b.seq, .int .i64 b.boot, .int .i64 b.area, .int .i64 b.first, .int .i64 b.snaps] 40)) b4 (Nat.le_refl _)
        go_upto_region 13 with (fail)
        have hsz : w.heap.size + 1 < w4.heap.size := by have := (Array.getElem?_eq_some_iff.1 hr.out.2.1).1; have := b4.size; omega
        obtain ⟨w5, hw5⟩ : ∃ w5, w4.alloc (.cells #[.int .i64 b.seq, .int .i64 b.boot, .int .i64 b.area, .int .i64 b.first, .int .i64 b.snaps] 40) = w5 := ⟨_, rfl⟩
        rw [hw5] at n5 b5 ⊢
        have x0 := (cell_of n5 0).trans rfl
        have x1 := (cell_of n5 1).trans rfl
        have x2 := (cell_of n5 2).trans rfl
        have x3 := (cell_of n5 3).trans rfl
        have x4 := (cell_of n5 4).trans rfl
        have hbl := bestAt_lt D i
        rw [← h5_seq] at hbl
        have hbs := HBS.out
        rw [← h5_seq] at hbs
        have r1 := (b5.block _ (Array.getElem?_eq_some_iff.1 hr.out.1).1).trans hr.out.1
        have r2 := (b5.block _ (Array.getElem?_eq_some_iff.1 hr.out.2.1).1).trans hr.out.2.1
        have r3 := below_step b5 hr.out.2.2 (Nat.le_refl _)
        obtain ⟨⟨p0, p1, p2, p3, p4⟩, hP⟩ : ∃ P, h5 (bestAt D i) = P := ⟨_, rfl⟩
        rw [hP] at hbl hbs r2
        unfold h5c at r2
        dsimp only at hbl hbs r2
        have y0 := (cell_of r2 0).trans rfl
        have y1 := (cell_of r2 1).trans rfl
        have y2 := (cell_of r2 2).trans rfl
        have y3 := (cell_of r2 3).trans rfl
        have y4 := (cell_of r2 4).trans rfl
        have f0 := free_of r2 0
        have f1 := free_of r2 1
        have f2 := free_of r2 2
        have f3 := free_of r2 3
        have f4 := free_of r2 4
        have HP := Lib.hid hP
        have R1 := Lib.hid r1
        have R2 := Lib.hid r2
        have R3 := Lib.hid r3
        have HBS2 := Lib.hid hbs
        clear hP r1 r2 r3 b4 b5 n5 hde hrd hr hbs hw5
        by_cases hq : b.seq % 2 = i
        · have g1 : (b.seq : Int) % 2 = (i : Int) := by omega
          rw [if_pos hq] at hat
          by_cases hgt : p0 < b.seq
          · have hgt' := hgt
            have g2 : (p0 : Int) < (b.seq : Int) := by omega
            have HB2 : Hid (h5 (bestAt D (i + 1)) = (b.seq, b.boot, b.area, b.first, b.snaps)) := by
              unfold Hid; rw [HBS2.out, hat, if_pos (show p0 < hdSeq (some b) from hgt)]; rfl
            clear hat hdec
            go_wp2_with (fail)
            obtain ⟨s1, s2⟩ := set5g R2.out (.int .i64 b.seq) (.int .i64 b.boot) (.int .i64 b.area) (.int .i64 b.first) (.int .i64 b.snaps)
            go_roundw
            case rel => exact ⟨i + 1, hlt, by go_num, (s2.block _ (Array.getElem?_eq_some_iff.1 R1.out).1 (by omega)).trans R1.out, by rw [HB2.out]; exact s1, s2.belowOf R3.out R3.out.size (fun j hj e => by omega)⟩
            case measure => simp [intOf]; omega
          · have g2 : ¬ (p0 : Int) < (b.seq : Int) := by omega
            have HB2 : Hid (h5 (bestAt D (i + 1)) = (p0, p1, p2, p3, p4)) := by
              unfold Hid; rw [HBS2.out, hat, if_neg (show ¬ p0 < hdSeq (some b) from hgt)]; exact HP.out
            clear hat hdec
            go_wp2_with (fail)
            go_roundw
            case rel => exact ⟨i + 1, hlt, by go_num, R1.out, by rw [HB2.out]; exact R2.out, R3.out⟩
            case measure => simp [intOf]; omega
        · have g1 : ¬ (b.seq : Int) % 2 = (i : Int) := by omega
          rw [if_neg hq] at hat
          have HB2 : Hid (h5 (bestAt D (i + 1)) = (p0, p1, p2, p3, p4)) := by
            unfold Hid; rw [HBS2.out, hat, if_neg (show ¬ p0 < hdSeq none from by show ¬ p0 < 0; omega)]; exact HP.out
          clear hat hdec
          go_wp2_with (fail)
          go_roundw
          case rel => exact ⟨i + 1, hlt, by go_num, R1.out, by rw [HB2.out]; exact R2.out, R3.out⟩
          case measure => simp [intOf]; omega
    · obtain rfl : i = 2 := by omega
      have hlv : loadVal D = if (h5 (newest D)).1 = 0 then .tuple #[zhead, .int .i64 6] else .tuple #[.agg (h5c (h5 (newest D))), .int .i64 0] := by
        unfold loadVal
        rw [h5_seq, h5_val]
      have r2 := hr.out.2.1
      rw [show bestAt D 2 = newest D from rfl] at r2
      obtain ⟨⟨p0, p1, p2, p3, p4⟩, hP⟩ : ∃ P, h5 (newest D) = P := ⟨_, rfl⟩
      rw [hP] at hlv r2
      unfold h5c at r2 hlv
      dsimp only at r2 hlv
      have y0 := (cell_of r2 0).trans rfl
      have y1 := (cell_of r2 1).trans rfl
      have y2 := (cell_of r2 2).trans rfl
      have y3 := (cell_of r2 3).trans rfl
      have y4 := (cell_of r2 4).trans rfl
      have r1 := hr.out.1
      have z0 := (cell_of r1 0).trans rfl
      have z1 := (cell_of r1 1).trans rfl
      have z2 := (cell_of r1 2).trans rfl
      have z3 := (cell_of r1 3).trans rfl
      have z4 := (cell_of r1 4).trans rfl
      have f0 := free_of r1 0
      have f1 := free_of r1 1
      have f2 := free_of r1 2
      have f3 := free_of r1 3
      have f4 := free_of r1 4
      have HLV := Lib.hid hlv
      have HR1 := Lib.hid r1
      have HB := Lib.hid hr.out.2.2
      clear hP hlv r1 r2 hr
      by_cases hp0 : p0 = 0
      · subst hp0
        obtain ⟨s1, s2⟩ := set5g HR1.out (.int .i64 0) (.int .i64 0) (.int .i64 0) (.int .i64 0) (.int .i64 0)
        have S1 := Lib.hid s1
        have S2 := Lib.hid s2
        clear s1 s2
        go_wp2
        exact bodyPost_ret (results_cell2 rfl _ _ w.heap.size _ 40 (0, 0) rfl S1.out _ Try.underlying40 rfl (by kernel_rfl)) rfl ⟨by rw [HLV.out]; rfl, S2.out.belowOf HB.out HB.out.size (fun j hj e => by omega)⟩
      · obtain ⟨s1, s2⟩ := set5g HR1.out (.int .i64 (p0 : Nat)) (.int .i64 (p1 : Nat)) (.int .i64 (p2 : Nat)) (.int .i64 (p3 : Nat)) (.int .i64 (p4 : Nat))
        have S1 := Lib.hid s1
        have S2 := Lib.hid s2
        clear s1 s2
        have g1 : ¬ (p0 : Int) = 0 := by omega
        go_wp2
        exact bodyPost_ret (results_cell2 rfl _ _ w.heap.size _ 40 (0, 0) rfl S1.out _ Try.underlying40 rfl (by kernel_rfl)) rfl ⟨by rw [HLV.out, if_neg hp0]; rfl, S2.out.belowOf HB.out HB.out.size (fun j hj e => by omega)⟩
end Go.Proofs.Ytgnhpbolmfbngaa
