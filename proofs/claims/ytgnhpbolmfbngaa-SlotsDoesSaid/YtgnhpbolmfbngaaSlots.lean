/- slots.Save and slots.Load: what each call returns and leaves. -/
import Derived.Test.YtgnhpbolmfbngaaSGH
import Derived.Test.YtgnhpbolmfbngaaLab
import Derived.Deep.MidRow
namespace Go.Proofs.Ytgnhpbolmfbngaa
open Go.RowKit Go.ChangeMaps

theorem DAfter.trans {w w1 w2 : World} {d f m : Nat} {v v1 : Value} {D : Dk} {z : Fz} (k1 : Keeps (Own d f m v) w w1) (n1 : ∀ k, v1.ownBlock = some k → v.ownBlock = some k ∨ w.heap.size ≤ k) (a : DAfter w1 w2 d f m v1 D z) : DAfter w w2 d f m v D z := by
  obtain ⟨v2, h2, z2, k2, n2⟩ := a
  have hs := k1.size
  refine ⟨v2, h2, z2, ?_, fun k hk => ?_⟩
  · have e1 : Keeps (fun k => Own d f m v k ∨ w.heap.size ≤ k) w w1 := k1.mono (fun k _ h => .inl h)
    have e2 : Keeps (fun k => Own d f m v k ∨ w.heap.size ≤ k) w1 w2 := k2.mono (fun k _ h => own_new n1 h)
    exact (e1.trans e2).mono (fun k hk h => h.resolve_right (by omega))
  · rcases n2 k hk with h | h
    · exact n1 k h
    · exact .inr (Nat.le_trans hs h)
/-- What Save does to the disk. -/
def saveD (D : Dk) (z : Fz) (b : Hd) : Int × Dk × Fz := if z.burn.1 = 0 then doSync (D.write (b.seq % 2) b.sec) z.burn.2 else (z.burn.1, D, z.burn.2)
theorem doWrite_at {D : Dk} {z : Fz} {i : Nat} {s : List UInt8} (hi : i < D.S.length) (hs : s.length = 80) : doWrite D z i s = if z.burn.1 = 0 then (0, D.write i s, z.burn.2) else (z.burn.1, D, z.burn.2) := by
  have he : hasE D i = 0 := if_pos ⟨by omega, by omega⟩
  unfold doWrite
  rw [if_pos he, if_pos hs, Int.toNat_natCast]
/-- The header of a sector, if it is at its place. -/
def hdAt (D : Dk) (i : Nat) : Option Hd := match hdecodeOf (D.read i) with
  | some h => if h.seq % 2 = i then some h else none
  | none => none
def hdSeq : Option Hd → Nat
  | some h => h.seq
  | none => 0
def hdVal : Option Hd → Value
  | some h => h.val
  | none => zhead
/-- The newest header. -/
def newest (D : Dk) : Option Hd := if hdSeq (hdAt D 0) < hdSeq (hdAt D 1) then hdAt D 1 else hdAt D 0
def loadVal (D : Dk) : Value := if hdSeq (newest D) = 0 then .tuple #[zhead, .int .i64 6] else .tuple #[hdVal (newest D), .int .i64 0]
def hcells (o : Option Hd) : List Value := match o with
  | some h => [.int .i64 h.seq, .int .i64 h.boot, .int .i64 h.area, .int .i64 h.first, .int .i64 h.snaps]
  | none => [.int .i64 0, .int .i64 0, .int .i64 0, .int .i64 0, .int .i64 0]
theorem hcells_is (o : Option Hd) : ∃ s a b c d : Nat, hcells o = [.int .i64 s, .int .i64 a, .int .i64 b, .int .i64 c, .int .i64 d] ∧ hdSeq o = s ∧ hdVal o = .agg #[.int .i64 s, .int .i64 a, .int .i64 b, .int .i64 c, .int .i64 d] := by
  cases o with
  | none => exact ⟨0, 0, 0, 0, 0, rfl, rfl, rfl⟩
  | some h => exact ⟨h.seq, h.boot, h.area, h.first, h.snaps, rfl, rfl, rfl⟩
set_option maxHeartbeats 400000 in
theorem newer_any (a0 a1 a2 a3 a4 b0 b1 b2 b3 b4 : Int) (w : World) :
    Calls Try.prog 62 #[.agg #[.int .i64 a0, .int .i64 a1, .int .i64 a2, .int .i64 a3, .int .i64 a4], .agg #[.int .i64 b0, .int .i64 b1, .int .i64 b2, .int .i64 b3, .int .i64 b4]] w fun e w' => e = .returned (.bool (decide (b0 < a0))) ∧ Below w.heap.size w w' := by
  obtain ⟨n1, n2, n3, n4⟩ := two_new w (.cells #[.int .i64 a0, .int .i64 a1, .int .i64 a2, .int .i64 a3, .int .i64 a4] 104) (.cells #[.int .i64 b0, .int .i64 b1, .int .i64 b2, .int .i64 b3, .int .i64 b4] 104)
  have N4 := Lib.hid n4
  clear n1 n2 n3 n4
  by_cases h : b0 < a0
  all_goals
    go_enter Try.func62, Try.ntmps62
    go_wp2
    go_ret
    exact ⟨by simp [h], N4.out⟩
theorem doRead_ok {D : Dk} {z : Fz} {i : Nat} (hi : i < D.S.length) (hz : z.dead = false) : doRead D z i = (D.read i, 0) := by
  have he : hasE D i = 0 := if_pos ⟨by omega, by omega⟩
  unfold doRead
  rw [if_pos he, hz, Int.toNat_natCast]
  rfl
set_option maxRecDepth 100000 in
set_option maxHeartbeats 4000000 in
theorem sSave_ok (d f m : Nat) (v : Value) (D : Dk) (z : Fz) (b : Hd) (w : World) (ok : b.Ok) (h2 : 2 ≤ D.S.length) (h : DiskAt w d f m v D) (hz : FzAt w f z) (hP : D.P.length ≤ 999999) :
    Calls Try.prog 26 #[.pointer (some ⟨d, 0, none⟩), b.val] w fun e w' => e = .returned (.int .i64 (saveD D z b).1) ∧ DAfter w w' d f m v (saveD D z b).2.1 (saveD D z b).2.2 := by
  have HOK := Lib.hid ok
  have HH := Lib.hid h
  have HZ := Lib.hid hz
  have HD2 := Lib.hid h2
  have HP1 := Lib.hid (show D.P.length ≤ 1000000 by omega)
  have HP2 := Lib.hid (show (D.write (b.seq % 2) b.sec).P.length ≤ 1000000 by unfold Dk.write; simp; omega)
  obtain ⟨q, hq⟩ : ∃ q, b.seq % 2 = q := ⟨_, rfl⟩
  have hqi : (b.seq : Int) % 2 = (q : Int) := by omega
  have HQ := Lib.hid (show q < D.S.length by omega)
  have HW := Lib.hid (show saveD D z b = if z.burn.1 = 0 then doSync (D.write q b.sec) z.burn.2 else (z.burn.1, D, z.burn.2) by unfold saveD; rw [hq])
  rw [hq] at HP2
  have m1 := alloc_new w (.cells #[.int .i64 b.seq, .int .i64 b.boot, .int .i64 b.area, .int .i64 b.first, .int .i64 b.snaps] 40)
  have m2 := alloc_below w (.cells #[.int .i64 b.seq, .int .i64 b.boot, .int .i64 b.area, .int .i64 b.first, .int .i64 b.snaps] 40)
  clear ok h2 h hz hP hq
  unfold Hd.val hval
  go_enter Try.func26, Try.ntmps26
  go_wp2_with (fail)
  generalize w.alloc (.cells #[.int .i64 b.seq, .int .i64 b.boot, .int .i64 b.area, .int .i64 b.first, .int .i64 b.snaps] 40) = W at m1 m2 ⊢
  refine (sEncode_ok b W HOK.out).mono ?_
  rintro e w1 ⟨rfl, b1⟩
  have c0 : w1.cell? ⟨w.heap.size, 0, none⟩ = some (.int .i64 b.seq) := below_cell b1 ((cell_of m1 0).trans rfl)
  have HB1 := Lib.hid (below_step b1 m2 (Nat.le_refl _))
  clear m1 m2 b1
  go_wp2_with (fail)
  have HH1 := Lib.hid (HH.out.below HB1.out)
  have HZ1 := Lib.hid (HZ.out.below HB1.out)
  refine (dsectors_any d f m v D w1 HH1.out).mono ?_
  rintro e w2 ⟨rfl, rfl⟩
  have h2i : ¬ (D.S.length : Int) < 2 := by have := HD2.out; omega
  go_wp2_with (fail)
  refine (dwrite_any d f m v D z q b.sec w2 HH1.out HZ1.out HP1.out).mono ?_
  rw [doWrite_at HQ.out b.sec_length]
  rcases Fz.burn_cases z with ⟨hb, _⟩ | hb
  · rw [if_pos hb] at HW ⊢
    rintro e w3 ⟨rfl, ha⟩
    obtain ⟨v3, h3, k3, n3⟩ := ha.lab
    have H3 := Lib.hid h3
    have K3 := Lib.hid ((Keeps.of_below HB1.out).trans ((k3.mono (fun k _ => id) : Keeps (Own d f m v) w2 w3)))
    have N3 := Lib.hid (fun k hk => (n3 k hk).imp_right (Nat.le_trans HB1.out.size))
    clear ha h3 k3 n3 h2i c0
    go_wp2_with (fail)
    refine (dsync_any d f m v3 _ _ w3 H3.out.disk H3.out.fuse).mono ?_
    rintro e w4 ⟨rfl, ha4⟩
    have HA4 := Lib.hid (DAfter.trans K3.out N3.out ha4)
    clear ha4
    go_wp2_with (fail)
    go_ret
    rw [HW.out]
    exact ⟨rfl, HA4.out⟩
  · have hb0 : ¬ z.burn.1 = 0 := by rw [hb]; decide
    rw [if_neg hb0] at HW ⊢
    rw [hb] at HW ⊢
    rintro e w3 ⟨rfl, ha⟩
    have HA3 := Lib.hid (DAfter.trans (Keeps.of_below HB1.out) (fun k hk => .inl hk) ha)
    clear ha h2i c0 hb0 hb
    go_wp2_with (fail)
    go_ret
    rw [HW.out]
    exact ⟨rfl, HA3.out⟩
theorem Keeps.setCells {S : Nat → Prop} {a : World} {b0 : Nat} (hp : b0 < a.heap.size → S b0) : ∀ (vs : List Value) (o : Nat) {b : World}, Keeps S a b → Keeps S a (b.setCells b0 o vs)
  | [], _, _, h => h
  | v :: r, o, _, h => Keeps.setCells hp r (o + 1) (h.setCell (p := ⟨b0, o, none⟩) hp v)
/-- What Load has found, in its array of two headers. -/
structure LoadSt (w wr : World) (B FB : Nat) (o0 o1 : Option Hd) : Prop where
  bel : Below B w wr
  eqB : B = w.heap.size
  lt : B < FB
  res : wr.heap[B]? = some (.cells #[.int .i64 0, .int .i64 0, .int .i64 0, .int .i64 0, .int .i64 0] 40 (0, 0))
  r0 : wr.rangeAt FB 0 (hcells o0)
  r1 : wr.rangeAt FB 5 (hcells o1)
  th : wr.there FB 0 10
theorem hcells_length (o : Option Hd) : (hcells o).length = 5 := by cases o <;> rfl
theorem rangeAt_below {wr w' : World} {b o : Nat} {cs : List Value} (h : wr.rangeAt b o cs) (b3 : Below wr.heap.size wr w') : w'.rangeAt b o cs := fun j v hv => below_cell b3 (h j v hv)
theorem there_below {wr w' : World} {b o n : Nat} (h : wr.there b o n) (b3 : Below wr.heap.size wr w') : w'.there b o n := fun j hj => by
  obtain ⟨h1, h2⟩ := h j hj
  obtain ⟨v, hv⟩ := Option.isSome_iff_exists.1 h1
  exact ⟨by rw [below_cell b3 hv]; rfl, (b3.frozen (p := ⟨b, o + j, none⟩) (World.block_lt_of_cell? _ _ hv)).trans h2⟩
theorem LoadSt.below {w wr w' : World} {B FB : Nat} {o0 o1 : Option Hd} (h : LoadSt w wr B FB o0 o1) (b : Below wr.heap.size wr w') : LoadSt w w' B FB o0 o1 :=
  ⟨by have e := h.eqB; subst e; exact below_step b h.bel (Nat.le_refl _), h.eqB, h.lt, (b.block _ (Array.getElem?_eq_some_iff.1 h.res).1).trans h.res, rangeAt_below h.r0 b, rangeAt_below h.r1 b, there_below h.th b⟩
theorem LoadSt.put {w wr : World} {B FB : Nat} {o0 o1 : Option Hd} (h : LoadSt w wr B FB o0 o1) (vs : List Value) (o : Nat) : Below B w (wr.setCells FB o vs) ∧ (wr.setCells FB o vs).heap[B]? = some (.cells #[.int .i64 0, .int .i64 0, .int .i64 0, .int .i64 0, .int .i64 0] 40 (0, 0)) := by
  have k : Keeps (fun x => x = FB) wr (wr.setCells FB o vs) := Keeps.setCells (S := fun x => x = FB) (b0 := FB) (fun _ => rfl) vs o (.refl _ _)
  have hl := (Array.getElem?_eq_some_iff.1 h.res).1
  exact ⟨k.belowOf h.bel (Nat.le_of_lt hl) (fun x hx e => by have := h.lt; omega), (k.block B hl (by have := h.lt; omega)).trans h.res⟩
theorem LoadSt.put0 {w wr : World} {B FB : Nat} {o0 o1 : Option Hd} (h : LoadSt w wr B FB o0 o1) (x : Option Hd) : LoadSt w (wr.setCells FB 0 (hcells x)) B FB x o1 :=
  ⟨(h.put _ _).1, h.eqB, h.lt, (h.put _ _).2, World.rangeAt_setCells_same _ _ _ _ (fun j hj => h.th j (by rw [hcells_length] at hj; omega)), World.rangeAt_setCells_apart h.r1 _ _ _ (.inr (.inr (by rw [hcells_length]; omega))), World.there_setCells h.th _ _ _⟩
theorem LoadSt.put1 {w wr : World} {B FB : Nat} {o0 o1 : Option Hd} (h : LoadSt w wr B FB o0 o1) (x : Option Hd) : LoadSt w (wr.setCells FB 5 (hcells x)) B FB o0 x :=
  ⟨(h.put _ _).1, h.eqB, h.lt, (h.put _ _).2, World.rangeAt_setCells_apart h.r0 _ _ _ (.inr (.inl (by rw [hcells_length]; omega))), World.rangeAt_setCells_same _ _ _ _ (fun j hj => by have := h.th (5 + j) (by rw [hcells_length] at hj; omega); simpa using this), World.there_setCells h.th _ _ _⟩
set_option maxRecDepth 100000 in
set_option maxHeartbeats 4000000 in
theorem sLoad_any (d f m : Nat) (v : Value) (D : Dk) (z : Fz) (w : World) (h2 : 2 ≤ D.S.length) (h : DiskAt w d f m v D) (hz : FzAt w f z) (hd : z.dead = false) :
    Calls Try.prog 27 #[.pointer (some ⟨d, 0, none⟩)] w fun e w' => e = .returned (loadVal D) ∧ Below w.heap.size w w' := by
  have HH := Lib.hid h
  have HZ := Lib.hid hz
  have HD2 := Lib.hid h2
  have HDD := Lib.hid hd
  clear h2 h hz hd
  go_enter Try.func27, Try.ntmps27
  go_wp2_with (fail)
  have m1 := alloc_new w (.cells #[.int .i64 0, .int .i64 0, .int .i64 0, .int .i64 0, .int .i64 0] 40)
  have m2 := alloc_below w (.cells #[.int .i64 0, .int .i64 0, .int .i64 0, .int .i64 0, .int .i64 0] 40)
  have m3 := alloc_size w (.cells #[.int .i64 0, .int .i64 0, .int .i64 0, .int .i64 0, .int .i64 0] 40)
  generalize w.alloc (.cells #[.int .i64 0, .int .i64 0, .int .i64 0, .int .i64 0, .int .i64 0] 40) = W at m1 m2 m3 ⊢
  refine (dsectors_any d f m v D W (HH.out.below m2)).mono ?_
  rintro e w2 ⟨rfl, rfl⟩
  have h2i : ¬ (D.S.length : Int) < 2 := by have := HD2.out; omega
  have M1 := Lib.hid m1
  have M2 := Lib.hid m2
  have M3 := Lib.hid m3
  clear m1 m2 m3
  go_wp2_with (fail)
  have AL := Lib.hid (alloc_below w2 (.cells #[.int .i64 0, .int .i64 0, .int .i64 0, .int .i64 0, .int .i64 0, .int .i64 0, .int .i64 0, .int .i64 0, .int .i64 0, .int .i64 0] 105))
  have AN := Lib.hid (alloc_new w2 (.cells #[.int .i64 0, .int .i64 0, .int .i64 0, .int .i64 0, .int .i64 0, .int .i64 0, .int .i64 0, .int .i64 0, .int .i64 0, .int .i64 0] 105))
  generalize w2.alloc (.cells #[.int .i64 0, .int .i64 0, .int .i64 0, .int .i64 0, .int .i64 0, .int .i64 0, .int .i64 0, .int .i64 0, .int .i64 0, .int .i64 0] 105) = W5 at AL AN ⊢
  have hrange : ∀ o, o = 0 ∨ o = 5 → W5.rangeAt w2.heap.size o (hcells none) := fun o ho j v hv => by
    have hj : j < 5 := (List.getElem?_eq_some_iff.1 hv).1
    rw [cell_of AN.out]
    rcases ho with rfl | rfl <;> rcases (show j = 0 ∨ j = 1 ∨ j = 2 ∨ j = 3 ∨ j = 4 by omega) with rfl | rfl | rfl | rfl | rfl <;> exact hv
  have hthere : W5.there w2.heap.size 0 10 := fun j hj => by
    rw [cell_of AN.out, Nat.zero_add]
    refine ⟨?_, free_of AN.out _⟩
    rw [Array.getElem?_eq_getElem (by simpa using hj)]
    rfl
  have HR0 : Hid (LoadSt w W5 w.heap.size w2.heap.size none none) := ⟨below_step AL.out M2.out (Nat.le_refl _), rfl, by rw [M3.out]; omega, (AL.out.block _ (by rw [M3.out]; omega)).trans M1.out, hrange 0 (.inl rfl), hrange 5 (.inr rfl), hthere⟩
  clear hrange hthere h2i
  go_loopw [5, 6, 7, 8, 9, 19] (fun _ _ _ _ _ v19 wr => ∃ i : Nat, i ≤ 2 ∧ v19 = .int .i64 i ∧ Hid (LoadSt w wr w.heap.size w2.heap.size (if 0 < i then hdAt D 0 else none) (if 1 < i then hdAt D 1 else none))) (fun _ _ _ _ _ v19 _ => 2 - (intOf v19).toNat)
  case atStart => exact ⟨0, Nat.zero_le _, rfl, HR0⟩
  case round =>
    obtain ⟨i, hi, rfl, hr⟩ := hrel
    rcases (show i = 0 ∨ i = 1 ∨ i = 2 by omega) with rfl | rfl | rfl
    · -- round 0
      have HRD : Hid (doRead D z 0 = (D.read 0, 0)) := doRead_ok (i := 0) (by have := HD2.out; omega) HDD.out
      have HBW := Lib.hid hr.out.bel
      go_wp2_with (fail)
      refine (dread_any d f m v D z 0 wr (HH.out.below HBW.out) (HZ.out.below HBW.out)).mono ?_
      rw [HRD.out]
      rintro e w3 ⟨rfl, b3⟩
      go_wp2_with (fail)
      refine (sDecode_any (D.read 0) w3).mono ?_
      cases hdec : hdecodeOf (D.read 0) with
      | none =>
        rw [hdecVal_none hdec]
        unfold zhead hval
        rintro e w4 ⟨rfl, b4⟩
        have HAT : hdAt D 0 = none := by unfold hdAt; rw [hdec]
        have HL : Hid (LoadSt w (w4.alloc (.cells #[.int .i64 0, .int .i64 0, .int .i64 0, .int .i64 0, .int .i64 0] 40)) w.heap.size w2.heap.size (if 0 < 1 then hdAt D 0 else none) (if 1 < 1 then hdAt D 1 else none)) := by
          have h := ((hr.out.below b3).below b4).below (alloc_below w4 (.cells #[.int .i64 0, .int .i64 0, .int .i64 0, .int .i64 0, .int .i64 0] 40))
          unfold Hid
          simpa [HAT] using h
        clear b3 b4 hr HAT hdec
        go_wp2_with (fail)
        go_roundw
        case rel => exact ⟨1, by omega, by go_num, HL⟩
        case measure => simp [intOf]
      | some h =>
        rw [hdecVal_some hdec]
        unfold Hd.val hval
        rintro e w4 ⟨rfl, b4⟩
        by_cases hm : h.seq % 2 = 0
        · have HAT : hdAt D 0 = some h := by unfold hdAt; rw [hdec]; dsimp only; rw [if_pos hm]
          have hL4 := ((hr.out.below b3).below b4).below (alloc_below w4 (.cells #[.int .i64 h.seq, .int .i64 h.boot, .int .i64 h.area, .int .i64 h.first, .int .i64 h.snaps] 40))
          have fc0 : (w4.alloc (.cells #[.int .i64 h.seq, .int .i64 h.boot, .int .i64 h.area, .int .i64 h.first, .int .i64 h.snaps] 40)).cell? ⟨w2.heap.size, 0, none⟩ = some (.int .i64 0) := hL4.r0 0 _ rfl
          have fc1 : (w4.alloc (.cells #[.int .i64 h.seq, .int .i64 h.boot, .int .i64 h.area, .int .i64 h.first, .int .i64 h.snaps] 40)).cell? ⟨w2.heap.size, 1, none⟩ = some (.int .i64 0) := hL4.r0 1 _ rfl
          have fc2 : (w4.alloc (.cells #[.int .i64 h.seq, .int .i64 h.boot, .int .i64 h.area, .int .i64 h.first, .int .i64 h.snaps] 40)).cell? ⟨w2.heap.size, 2, none⟩ = some (.int .i64 0) := hL4.r0 2 _ rfl
          have fc3 : (w4.alloc (.cells #[.int .i64 h.seq, .int .i64 h.boot, .int .i64 h.area, .int .i64 h.first, .int .i64 h.snaps] 40)).cell? ⟨w2.heap.size, 3, none⟩ = some (.int .i64 0) := hL4.r0 3 _ rfl
          have fc4 : (w4.alloc (.cells #[.int .i64 h.seq, .int .i64 h.boot, .int .i64 h.area, .int .i64 h.first, .int .i64 h.snaps] 40)).cell? ⟨w2.heap.size, 4, none⟩ = some (.int .i64 0) := hL4.r0 4 _ rfl
          have ff0 : (w4.alloc (.cells #[.int .i64 h.seq, .int .i64 h.boot, .int .i64 h.area, .int .i64 h.first, .int .i64 h.snaps] 40)).frozen? ⟨w2.heap.size, 0, none⟩ = false := by have h := (hL4.th 0 (by omega)).2; simpa using h
          have ff1 : (w4.alloc (.cells #[.int .i64 h.seq, .int .i64 h.boot, .int .i64 h.area, .int .i64 h.first, .int .i64 h.snaps] 40)).frozen? ⟨w2.heap.size, 1, none⟩ = false := by have h := (hL4.th 1 (by omega)).2; simpa using h
          have ff2 : (w4.alloc (.cells #[.int .i64 h.seq, .int .i64 h.boot, .int .i64 h.area, .int .i64 h.first, .int .i64 h.snaps] 40)).frozen? ⟨w2.heap.size, 2, none⟩ = false := by have h := (hL4.th 2 (by omega)).2; simpa using h
          have ff3 : (w4.alloc (.cells #[.int .i64 h.seq, .int .i64 h.boot, .int .i64 h.area, .int .i64 h.first, .int .i64 h.snaps] 40)).frozen? ⟨w2.heap.size, 3, none⟩ = false := by have h := (hL4.th 3 (by omega)).2; simpa using h
          have ff4 : (w4.alloc (.cells #[.int .i64 h.seq, .int .i64 h.boot, .int .i64 h.area, .int .i64 h.first, .int .i64 h.snaps] 40)).frozen? ⟨w2.heap.size, 4, none⟩ = false := by have h := (hL4.th 4 (by omega)).2; simpa using h
          have HL : Hid (LoadSt w ((w4.alloc (.cells #[.int .i64 h.seq, .int .i64 h.boot, .int .i64 h.area, .int .i64 h.first, .int .i64 h.snaps] 40)).setCells w2.heap.size 0 [.int .i64 h.seq, .int .i64 h.boot, .int .i64 h.area, .int .i64 h.first, .int .i64 h.snaps]) w.heap.size w2.heap.size (if 0 < 1 then hdAt D 0 else none) (if 1 < 1 then hdAt D 1 else none)) := by
            have h := hL4.put0 (some h)
            unfold Hid
            simpa [HAT, hcells] using h
          have hmi : (h.seq : Int) % 2 = 0 := by omega
          clear b3 b4 hr HAT hdec hL4
          go_wp2_with (fail)
          go_roundw
          case rel => exact ⟨1, by omega, by go_num, HL⟩
          case measure => simp [intOf]
        · have HAT : hdAt D 0 = none := by unfold hdAt; rw [hdec]; dsimp only; rw [if_neg hm]
          have HL : Hid (LoadSt w (w4.alloc (.cells #[.int .i64 h.seq, .int .i64 h.boot, .int .i64 h.area, .int .i64 h.first, .int .i64 h.snaps] 40)) w.heap.size w2.heap.size (if 0 < 1 then hdAt D 0 else none) (if 1 < 1 then hdAt D 1 else none)) := by
            have h := ((hr.out.below b3).below b4).below (alloc_below w4 (.cells #[.int .i64 h.seq, .int .i64 h.boot, .int .i64 h.area, .int .i64 h.first, .int .i64 h.snaps] 40))
            unfold Hid
            simpa [HAT] using h
          have hmi : ¬ (h.seq : Int) % 2 = 0 := by omega
          clear b3 b4 hr HAT hdec
          go_wp2_with (fail)
          go_roundw
          case rel => exact ⟨1, by omega, by go_num, HL⟩
          case measure => simp [intOf]
    · -- round 1
      have HRD : Hid (doRead D z 1 = (D.read 1, 0)) := doRead_ok (i := 1) (by have := HD2.out; omega) HDD.out
      have HBW := Lib.hid hr.out.bel
      go_wp2_with (fail)
      refine (dread_any d f m v D z 1 wr (HH.out.below HBW.out) (HZ.out.below HBW.out)).mono ?_
      rw [HRD.out]
      rintro e w3 ⟨rfl, b3⟩
      go_wp2_with (fail)
      refine (sDecode_any (D.read 1) w3).mono ?_
      cases hdec : hdecodeOf (D.read 1) with
      | none =>
        rw [hdecVal_none hdec]
        unfold zhead hval
        rintro e w4 ⟨rfl, b4⟩
        have HAT : hdAt D 1 = none := by unfold hdAt; rw [hdec]
        have HL : Hid (LoadSt w (w4.alloc (.cells #[.int .i64 0, .int .i64 0, .int .i64 0, .int .i64 0, .int .i64 0] 40)) w.heap.size w2.heap.size (if 0 < 2 then hdAt D 0 else none) (if 1 < 2 then hdAt D 1 else none)) := by
          have h := ((hr.out.below b3).below b4).below (alloc_below w4 (.cells #[.int .i64 0, .int .i64 0, .int .i64 0, .int .i64 0, .int .i64 0] 40))
          unfold Hid
          simpa [HAT] using h
        clear b3 b4 hr HAT hdec
        go_wp2_with (fail)
        go_roundw
        case rel => exact ⟨2, by omega, by go_num, HL⟩
        case measure => simp [intOf]
      | some h =>
        rw [hdecVal_some hdec]
        unfold Hd.val hval
        rintro e w4 ⟨rfl, b4⟩
        by_cases hm : h.seq % 2 = 1
        · have HAT : hdAt D 1 = some h := by unfold hdAt; rw [hdec]; dsimp only; rw [if_pos hm]
          have hL4 := ((hr.out.below b3).below b4).below (alloc_below w4 (.cells #[.int .i64 h.seq, .int .i64 h.boot, .int .i64 h.area, .int .i64 h.first, .int .i64 h.snaps] 40))
          have fc0 : (w4.alloc (.cells #[.int .i64 h.seq, .int .i64 h.boot, .int .i64 h.area, .int .i64 h.first, .int .i64 h.snaps] 40)).cell? ⟨w2.heap.size, 5, none⟩ = some (.int .i64 0) := hL4.r1 0 _ rfl
          have fc1 : (w4.alloc (.cells #[.int .i64 h.seq, .int .i64 h.boot, .int .i64 h.area, .int .i64 h.first, .int .i64 h.snaps] 40)).cell? ⟨w2.heap.size, 6, none⟩ = some (.int .i64 0) := hL4.r1 1 _ rfl
          have fc2 : (w4.alloc (.cells #[.int .i64 h.seq, .int .i64 h.boot, .int .i64 h.area, .int .i64 h.first, .int .i64 h.snaps] 40)).cell? ⟨w2.heap.size, 7, none⟩ = some (.int .i64 0) := hL4.r1 2 _ rfl
          have fc3 : (w4.alloc (.cells #[.int .i64 h.seq, .int .i64 h.boot, .int .i64 h.area, .int .i64 h.first, .int .i64 h.snaps] 40)).cell? ⟨w2.heap.size, 8, none⟩ = some (.int .i64 0) := hL4.r1 3 _ rfl
          have fc4 : (w4.alloc (.cells #[.int .i64 h.seq, .int .i64 h.boot, .int .i64 h.area, .int .i64 h.first, .int .i64 h.snaps] 40)).cell? ⟨w2.heap.size, 9, none⟩ = some (.int .i64 0) := hL4.r1 4 _ rfl
          have ff0 : (w4.alloc (.cells #[.int .i64 h.seq, .int .i64 h.boot, .int .i64 h.area, .int .i64 h.first, .int .i64 h.snaps] 40)).frozen? ⟨w2.heap.size, 5, none⟩ = false := by have h := (hL4.th 5 (by omega)).2; simpa using h
          have ff1 : (w4.alloc (.cells #[.int .i64 h.seq, .int .i64 h.boot, .int .i64 h.area, .int .i64 h.first, .int .i64 h.snaps] 40)).frozen? ⟨w2.heap.size, 6, none⟩ = false := by have h := (hL4.th 6 (by omega)).2; simpa using h
          have ff2 : (w4.alloc (.cells #[.int .i64 h.seq, .int .i64 h.boot, .int .i64 h.area, .int .i64 h.first, .int .i64 h.snaps] 40)).frozen? ⟨w2.heap.size, 7, none⟩ = false := by have h := (hL4.th 7 (by omega)).2; simpa using h
          have ff3 : (w4.alloc (.cells #[.int .i64 h.seq, .int .i64 h.boot, .int .i64 h.area, .int .i64 h.first, .int .i64 h.snaps] 40)).frozen? ⟨w2.heap.size, 8, none⟩ = false := by have h := (hL4.th 8 (by omega)).2; simpa using h
          have ff4 : (w4.alloc (.cells #[.int .i64 h.seq, .int .i64 h.boot, .int .i64 h.area, .int .i64 h.first, .int .i64 h.snaps] 40)).frozen? ⟨w2.heap.size, 9, none⟩ = false := by have h := (hL4.th 9 (by omega)).2; simpa using h
          have HL : Hid (LoadSt w ((w4.alloc (.cells #[.int .i64 h.seq, .int .i64 h.boot, .int .i64 h.area, .int .i64 h.first, .int .i64 h.snaps] 40)).setCells w2.heap.size 5 [.int .i64 h.seq, .int .i64 h.boot, .int .i64 h.area, .int .i64 h.first, .int .i64 h.snaps]) w.heap.size w2.heap.size (if 0 < 2 then hdAt D 0 else none) (if 1 < 2 then hdAt D 1 else none)) := by
            have h := hL4.put1 (some h)
            unfold Hid
            simpa [HAT, hcells] using h
          have hmi : (h.seq : Int) % 2 = 1 := by omega
          clear b3 b4 hr HAT hdec hL4
          go_wp2_with (fail)
          go_roundw
          case rel => exact ⟨2, by omega, by go_num, HL⟩
          case measure => simp [intOf]
        · have HAT : hdAt D 1 = none := by unfold hdAt; rw [hdec]; dsimp only; rw [if_neg hm]
          have HL : Hid (LoadSt w (w4.alloc (.cells #[.int .i64 h.seq, .int .i64 h.boot, .int .i64 h.area, .int .i64 h.first, .int .i64 h.snaps] 40)) w.heap.size w2.heap.size (if 0 < 2 then hdAt D 0 else none) (if 1 < 2 then hdAt D 1 else none)) := by
            have h := ((hr.out.below b3).below b4).below (alloc_below w4 (.cells #[.int .i64 h.seq, .int .i64 h.boot, .int .i64 h.area, .int .i64 h.first, .int .i64 h.snaps] 40))
            unfold Hid
            simpa [HAT] using h
          have hmi : ¬ (h.seq : Int) % 2 = 1 := by omega
          clear b3 b4 hr HAT hdec
          go_wp2_with (fail)
          go_roundw
          case rel => exact ⟨2, by omega, by go_num, HL⟩
          case measure => simp [intOf]
    · have hL : LoadSt w wr w.heap.size w2.heap.size (hdAt D 0) (hdAt D 1) := by simpa using hr.out
      obtain ⟨s0, s1, s2, s3, s4, e0, p0, v0⟩ := hcells_is (hdAt D 0)
      obtain ⟨t0, t1, t2, t3, t4, e1, p1, v1⟩ := hcells_is (hdAt D 1)
      have a0 : wr.cell? ⟨w2.heap.size, 0, none⟩ = some (.int .i64 s0) := hL.r0 0 _ (by rw [e0]; rfl)
      have a1 : wr.cell? ⟨w2.heap.size, 1, none⟩ = some (.int .i64 s1) := hL.r0 1 _ (by rw [e0]; rfl)
      have a2 : wr.cell? ⟨w2.heap.size, 2, none⟩ = some (.int .i64 s2) := hL.r0 2 _ (by rw [e0]; rfl)
      have a3 : wr.cell? ⟨w2.heap.size, 3, none⟩ = some (.int .i64 s3) := hL.r0 3 _ (by rw [e0]; rfl)
      have a4 : wr.cell? ⟨w2.heap.size, 4, none⟩ = some (.int .i64 s4) := hL.r0 4 _ (by rw [e0]; rfl)
      have b0 : wr.cell? ⟨w2.heap.size, 5, none⟩ = some (.int .i64 t0) := hL.r1 0 _ (by rw [e1]; rfl)
      have b1 : wr.cell? ⟨w2.heap.size, 6, none⟩ = some (.int .i64 t1) := hL.r1 1 _ (by rw [e1]; rfl)
      have b2 : wr.cell? ⟨w2.heap.size, 7, none⟩ = some (.int .i64 t2) := hL.r1 2 _ (by rw [e1]; rfl)
      have b3 : wr.cell? ⟨w2.heap.size, 8, none⟩ = some (.int .i64 t3) := hL.r1 3 _ (by rw [e1]; rfl)
      have b4 : wr.cell? ⟨w2.heap.size, 9, none⟩ = some (.int .i64 t4) := hL.r1 4 _ (by rw [e1]; rfl)
      have HL := Lib.hid hL
      have hfb := World.block_lt_of_cell? _ _ a0
      dsimp only at hfb
      clear hr hL e0 e1
      go_wp2_with (fail)
      have m1 := alloc_new wr (.cells #[.int .i64 s0, .int .i64 s1, .int .i64 s2, .int .i64 s3, .int .i64 s4] 104)
      have bm := alloc_below wr (.cells #[.int .i64 s0, .int .i64 s1, .int .i64 s2, .int .i64 s3, .int .i64 s4] 104)
      generalize wr.alloc (.cells #[.int .i64 s0, .int .i64 s1, .int .i64 s2, .int .i64 s3, .int .i64 s4] 104) = X0 at m1 bm ⊢
      refine (newer_any t0 t1 t2 t3 t4 s0 s1 s2 s3 s4 X0).mono ?_
      rintro e x1 ⟨rfl, bx⟩
      have NB := Lib.hid ((bx.block _ (Array.getElem?_eq_some_iff.1 m1).1).trans m1)
      have HLX := (HL.out.below bm).below bx
      have RES := Lib.hid HLX.res
      have BEL := Lib.hid HLX.bel
      have c0 := below_cell bx (below_cell bm b0)
      have c1 := below_cell bx (below_cell bm b1)
      have c2 := below_cell bx (below_cell bm b2)
      have c3 := below_cell bx (below_cell bm b3)
      have c4 := below_cell bx (below_cell bm b4)
      clear a0 a1 a2 a3 a4 b0 b1 b2 b3 b4 bm bx m1 HLX HL
      have hBw : w.heap.size < wr.heap.size := by have := M3.out; omega
      by_cases hlt : s0 < t0
      · have hlti : (s0 : Int) < (t0 : Int) := by omega
        have hne : ¬ (t0 : Int) = 0 := by omega
        have HV : Hid (loadVal D = .tuple #[.agg #[.int .i64 t0, .int .i64 t1, .int .i64 t2, .int .i64 t3, .int .i64 t4], .int .i64 0]) := by
          have e1 : newest D = hdAt D 1 := by unfold newest; rw [if_pos (by rw [p0, p1]; exact hlt)]
          unfold Hid loadVal
          rw [e1, p1, if_neg (by omega), v1]
        go_upto_region 20 with (refine wpList_store_block rfl 104 (.tmp 11) (.tmp 58) rfl wr.heap.size #[.int .i64 t0, .int .i64 t1, .int .i64 t2, .int .i64 t3, .int .i64 t4] rfl rfl 104 _ NB.out (by kernel_rfl) rfl (by simp [Value.oneCell']) ?_)
        have NB2 := Lib.hid (setBlock_same (w := x1) (b := wr.heap.size) (Array.getElem?_eq_some_iff.1 NB.out).1 (.cells #[.int .i64 t0, .int .i64 t1, .int .i64 t2, .int .i64 t3, .int .i64 t4] 104))
        have kk : Keeps (fun x => x = wr.heap.size) x1 (setBlock x1 wr.heap.size (.cells #[.int .i64 t0, .int .i64 t1, .int .i64 t2, .int .i64 t3, .int .i64 t4] 104)) := Keeps.setBlock (S := fun x => x = wr.heap.size) (.refl _ _) (fun _ => rfl) _
        have RES2 := Lib.hid ((kk.block _ (Array.getElem?_eq_some_iff.1 RES.out).1 (by omega)).trans RES.out)
        have BEL2 := Lib.hid (kk.belowOf BEL.out BEL.out.size (fun x hx e => by omega))
        clear kk c0 c1 c2 c3 c4
        generalize setBlock x1 wr.heap.size (.cells #[.int .i64 t0, .int .i64 t1, .int .i64 t2, .int .i64 t3, .int .i64 t4] 104) = x2 at NB2 RES2 BEL2 ⊢
        have k0 : x2.cell? ⟨wr.heap.size, 0, none⟩ = some (.int .i64 t0) := (cell_of NB2.out 0).trans rfl
        have k1 : x2.cell? ⟨wr.heap.size, 1, none⟩ = some (.int .i64 t1) := (cell_of NB2.out 1).trans rfl
        have k2 : x2.cell? ⟨wr.heap.size, 2, none⟩ = some (.int .i64 t2) := (cell_of NB2.out 2).trans rfl
        have k3 : x2.cell? ⟨wr.heap.size, 3, none⟩ = some (.int .i64 t3) := (cell_of NB2.out 3).trans rfl
        have k4 : x2.cell? ⟨wr.heap.size, 4, none⟩ = some (.int .i64 t4) := (cell_of NB2.out 4).trans rfl
        go_wp2_with (refine wpList_store_block rfl 40 (.tmp 2) (.tmp 63) rfl w.heap.size #[.int .i64 t0, .int .i64 t1, .int .i64 t2, .int .i64 t3, .int .i64 t4] rfl rfl 40 _ RES2.out (by kernel_rfl) rfl (by simp [Value.oneCell']) ?_)
        exact bodyPost_ret (results_cell2 rfl _ _ w.heap.size _ 40 (0, 0) rfl (setBlock_same (Array.getElem?_eq_some_iff.1 RES2.out).1 _) _ Try.underlying40 rfl (by kernel_rfl)) rfl ⟨by rw [HV.out]; rfl, (Keeps.setBlock (S := fun x => x = w.heap.size) (.refl _ _) (fun _ => rfl) _).belowOf BEL2.out BEL2.out.size (fun x hx e => by omega)⟩
      · have hlti : ¬ (s0 : Int) < (t0 : Int) := by omega
        have e1 : newest D = hdAt D 0 := by unfold newest; rw [if_neg (by rw [p0, p1]; exact hlt)]
        have k0 : x1.cell? ⟨wr.heap.size, 0, none⟩ = some (.int .i64 s0) := (cell_of NB.out 0).trans rfl
        have k1 : x1.cell? ⟨wr.heap.size, 1, none⟩ = some (.int .i64 s1) := (cell_of NB.out 1).trans rfl
        have k2 : x1.cell? ⟨wr.heap.size, 2, none⟩ = some (.int .i64 s2) := (cell_of NB.out 2).trans rfl
        have k3 : x1.cell? ⟨wr.heap.size, 3, none⟩ = some (.int .i64 s3) := (cell_of NB.out 3).trans rfl
        have k4 : x1.cell? ⟨wr.heap.size, 4, none⟩ = some (.int .i64 s4) := (cell_of NB.out 4).trans rfl
        clear c0 c1 c2 c3 c4
        by_cases hz0 : s0 = 0
        · have hz : (s0 : Int) = 0 := by omega
          have HV : Hid (loadVal D = .tuple #[.agg #[.int .i64 0, .int .i64 0, .int .i64 0, .int .i64 0, .int .i64 0], .int .i64 6]) := by
            unfold Hid loadVal
            rw [e1, p0, if_pos hz0]
            rfl
          go_wp2_with (refine wpList_store_block rfl 40 (.tmp 2) (.tmp 62) rfl w.heap.size #[.int .i64 0, .int .i64 0, .int .i64 0, .int .i64 0, .int .i64 0] rfl rfl 40 _ RES.out (by kernel_rfl) rfl (by simp [Value.oneCell']) ?_)
          exact bodyPost_ret (results_cell2 rfl _ _ w.heap.size _ 40 (0, 0) rfl (setBlock_same (Array.getElem?_eq_some_iff.1 RES.out).1 _) _ Try.underlying40 rfl (by kernel_rfl)) rfl ⟨by rw [HV.out]; rfl, (Keeps.setBlock (S := fun x => x = w.heap.size) (.refl _ _) (fun _ => rfl) _).belowOf BEL.out BEL.out.size (fun x hx e => by omega)⟩
        · have hz : ¬ (s0 : Int) = 0 := by omega
          have HV : Hid (loadVal D = .tuple #[.agg #[.int .i64 s0, .int .i64 s1, .int .i64 s2, .int .i64 s3, .int .i64 s4], .int .i64 0]) := by
            unfold Hid loadVal
            rw [e1, p0, if_neg hz0, v0]
          go_wp2_with (refine wpList_store_block rfl 40 (.tmp 2) (.tmp 63) rfl w.heap.size #[.int .i64 s0, .int .i64 s1, .int .i64 s2, .int .i64 s3, .int .i64 s4] rfl rfl 40 _ RES.out (by kernel_rfl) rfl (by simp [Value.oneCell']) ?_)
          exact bodyPost_ret (results_cell2 rfl _ _ w.heap.size _ 40 (0, 0) rfl (setBlock_same (Array.getElem?_eq_some_iff.1 RES.out).1 _) _ Try.underlying40 rfl (by kernel_rfl)) rfl ⟨by rw [HV.out]; rfl, (Keeps.setBlock (S := fun x => x = w.heap.size) (.refl _ _) (fun _ => rfl) _).belowOf BEL.out BEL.out.size (fun x hx e => by omega)⟩
end Go.Proofs.Ytgnhpbolmfbngaa
