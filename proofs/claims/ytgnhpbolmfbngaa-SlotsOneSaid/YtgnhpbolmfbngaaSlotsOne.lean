/- SlotsOne. -/
import Derived.Test.YtgnhpbolmfbngaaOnePure
import Derived.Test.YtgnhpbolmfbngaaRowT
namespace Go.Proofs.Ytgnhpbolmfbngaa
open Go.RowKit Go.ChangeMaps

theorem doDurable_in {D : Dk} {i : Nat} (h : i < D.S.length) : doDurable D i = secAt D.S i := by
  have he : hasE D i = 0 := if_pos (by omega)
  unfold doDurable
  rw [if_pos he]
  rfl
/-- A block beside a disk. -/
def Kept (w : World) (d f m : Nat) (v : Value) (b : Nat) (o : Obj) : Prop := ¬ Own d f m v b ∧ w.heap[b]? = some o
theorem Kept.lt {w : World} {d f m : Nat} {v : Value} {b : Nat} {o : Obj} (h : Kept w d f m v b o) : b < w.heap.size := (Array.getElem?_eq_some_iff.1 h.2).1
theorem Kept.keeps {w w' : World} {d f m : Nat} {v v' : Value} {b : Nat} {o : Obj} {S : Nat → Prop} (h : Kept w d f m v b o) (k : Keeps S w w') (hs : ∀ x, S x → Own d f m v x) (n : ∀ k, v'.ownBlock = some k → v.ownBlock = some k ∨ w.heap.size ≤ k) : Kept w' d f m v' b o := by
  have hl := h.lt
  refine ⟨fun ho => ?_, (k.block b hl (fun e => h.1 (hs b e))).trans h.2⟩
  rcases own_new n ho with e | e
  · exact h.1 e
  · omega
theorem Kept.below {w w' : World} {d f m : Nat} {v : Value} {b : Nat} {o : Obj} (h : Kept w d f m v b o) (k : Below w.heap.size w w') : Kept w' d f m v b o := ⟨h.1, (k.block b h.lt).trans h.2⟩
def hobj (N : Hd) : Obj := .cells #[.int .i64 N.seq, .int .i64 N.boot, .int .i64 N.area, .int .i64 N.first, .int .i64 N.snaps] 40 (0, 0)
/-- The disk, its fuse, and what they share with nobody. -/
structure DSt (w wr : World) (d f m : Nat) (v : Value) (D : Dk) (z : Fz) : Prop where
  lab : Lab wr d f m v D z
  frm : From w.heap.size d f m v
  bel : Below w.heap.size w wr
theorem DSt.below {w wr w' : World} {d f m : Nat} {v : Value} {D : Dk} {z : Fz} (h : DSt w wr d f m v D z) (b : Below wr.heap.size wr w') : DSt w w' d f m v D z := ⟨h.lab.below b, h.frm, below_step b h.bel (Nat.le_refl _)⟩
theorem DSt.after {w wr w' : World} {d f m : Nat} {v v' : Value} {D D' : Dk} {z z' : Fz} (h : DSt w wr d f m v D z) (h1 : Lab w' d f m v' D' z') (k1 : Keeps (Own d f m v) wr w') (n1 : ∀ k, v'.ownBlock = some k → v.ownBlock = some k ∨ wr.heap.size ≤ k) : DSt w w' d f m v' D' z' :=
  ⟨h1, h.frm.new n1 h.bel.size, h.frm.below h.bel h.bel.size k1⟩
theorem DSt.crash {w wr w' : World} {d f m : Nat} {v : Value} {D D' : Dk} {z : Fz} (h : DSt w wr d f m v D z) (hd : DiskAt w' d f m (.slice none 0 0) D') (k : Keeps (fun k => k = d ∨ k = m) wr w') : DSt w w' d f m (.slice none 0 0) D' z :=
  ⟨h.lab.crash hd k, h.frm.nil, h.frm.below2 h.bel h.bel.size k⟩
theorem keeps_f (w : World) (f : Nat) (o : Obj) : Keeps (fun x => x = f) w (setBlock w f o) := Keeps.setBlock (S := fun x => x = f) (.refl _ _) (fun _ => rfl) _
theorem DSt.fuse {w wr : World} {d f m : Nat} {v : Value} {D : Dk} {z : Fz} (h : DSt w wr d f m v D z) {z' : Fz} (hz : z'.left ≤ 9223372036854775807) : DSt w (setBlock wr f z'.obj) d f m v D z' :=
  ⟨⟨h.lab.disk.burn z', ⟨setBlock_same (Array.getElem?_eq_some_iff.1 h.lab.fuse.1).1 _, hz⟩⟩, h.frm, (keeps_f wr f z'.obj).belowOf h.bel h.bel.size (fun x hx e => by have := h.frm f (.inr (.inl rfl)); omega)⟩
set_option maxRecDepth 100000 in
set_option maxHeartbeats 40000000 in
theorem slotsOne_any (A : Option Addr) (cap : Nat) (l : List Ty) (w : World) (hp : TriesAt w A l) :
    Calls Try.prog 9 #[.slice A l.length cap] w fun e w' => e = .returned (.bool true) ∧ Below w.heap.size w w' := by
  have HP := Lib.hid hp
  clear hp
  by_cases h30 : 30 < l.length
  · have h30' : (30 : Int) < (l.length : Int) := by omega
    go_enter Try.func9, Try.ntmps9
    go_wp2_with (go_at_call 19; refine (known07_any _).mono ?_; rintro e w2 ⟨rfl, bk⟩)
    go_ret
    exact ⟨rfl, bk⟩
  have h30' : ¬ (30 : Int) < (l.length : Int) := by omega
  have hl30 : l.length ≤ 30 := by omega
  clear h30
  go_enter Try.func9, Try.ntmps9
  go_wp2_with (fail)
  refine (fnew_any w).mono ?_
  rintro e w1 ⟨rfl, hw1⟩
  have HS1 := Lib.hid (show w1.heap.size = w.heap.size + 1 by rw [hw1]; exact alloc_size _ _)
  have HW1 := Lib.hid hw1
  clear hw1
  go_wp2_with (fail)
  refine (dnew_ok 2 w.heap.size w1 (by omega) (by omega) (by have := HS1.out; omega)).mono ?_
  rintro e w2 ⟨rfl, hd, hb⟩
  obtain ⟨h2, F2, B2⟩ := Lab.new HW1.out hd hb
  obtain ⟨d, hdd⟩ : ∃ d, w1.heap.size + 1 = d := ⟨_, rfl⟩
  obtain ⟨m, hmm⟩ : ∃ m, w1.heap.size = m := ⟨_, rfl⟩
  obtain ⟨f, hff⟩ : ∃ f, w.heap.size = f := ⟨_, rfl⟩
  have D2 : DSt w w2 (w1.heap.size + 1) w.heap.size w1.heap.size (.slice none 0 0) (Dk.new 2) .idle := ⟨h2, F2, B2⟩
  rw [hdd, hmm, show DSt w w2 d w.heap.size m (.slice none 0 0) (Dk.new 2) .idle = DSt w w2 d f m (.slice none 0 0) (Dk.new 2) .idle by rw [hff]] at D2
  have H2 := Lib.hid D2
  have HFF := Lib.hid hff
  rw [hdd]
  clear hd hb hdd hmm h2 F2 B2 D2 HW1
  go_wp2_with (fail)
  refine (head_any 1 1 w2).mono ?_
  unfold hval
  rintro e w3 ⟨rfl, b3⟩
  have H3 := Lib.hid (H2.out.below b3)
  clear b3 H2
  have HB : Hid ((⟨1, 1, 0, 1, 0⟩ : Hd).Ok) := by unfold Hid; decide
  go_wp2_with (fail)
  refine (sSave_ok d f m _ _ _ (⟨1, 1, 0, 1, 0⟩ : Hd) w3 HB.out (by show 2 ≤ 2; omega) H3.out.lab.disk H3.out.lab.fuse (by show 0 ≤ 999999; omega)).mono ?_
  rw [show saveD (Dk.new 2) .idle (⟨1, 1, 0, 1, 0⟩ : Hd) = (0, ((Dk.new 2).write 1 (⟨1, 1, 0, 1, 0⟩ : Hd).sec).sync, .idle) from rfl]
  rintro e w4 ⟨rfl, ha⟩
  obtain ⟨v4, h4, k4, n4⟩ := ha.lab
  have H4 := Lib.hid (H3.out.after h4 k4 n4)
  clear ha h4 k4 n4 H3
  go_wp2_with (fail)
  refine (head_any 1 1 w4).mono ?_
  unfold hval
  rintro e w5 ⟨rfl, b5⟩
  have H5 := Lib.hid (H4.out.below b5)
  have m6 := alloc_new w5 (hobj ⟨1, 1, 0, 1, 0⟩)
  have b6 := alloc_below w5 (hobj ⟨1, 1, 0, 1, 0⟩)
  have e6 : w5.alloc (hobj ⟨1, 1, 0, 1, 0⟩) = w5.alloc (.cells #[.int .i64 1, .int .i64 1, .int .i64 0, .int .i64 1, .int .i64 0] 40) := rfl
  rw [e6] at m6 b6
  clear b5 H4 e6
  go_wp2_with (fail)
  generalize w5.alloc (.cells #[.int .i64 1, .int .i64 1, .int .i64 0, .int .i64 1, .int .i64 0] 40) = w6 at m6 b6 ⊢
  obtain ⟨bn, hbn⟩ : ∃ bn, w5.heap.size = bn := ⟨_, rfl⟩
  have H6 := Lib.hid (H5.out.below b6)
  have K6 : Kept w6 d f m v4 bn (hobj ⟨1, 1, 0, 1, 0⟩) := ⟨fun ho => by have := H5.out.lab.lt ho; omega, by rw [← hbn]; exact m6⟩
  have HBN := Lib.hid (show w.heap.size ≤ bn by have := H5.out.bel.size; omega)
  have K6 := Lib.hid K6
  rw [hbn]
  clear m6 b6 hbn H5
  go_loopw [7, 8, 9, 10, 11, 12, 13] (fun v7 _ _ _ _ _ _ wr => ∃ i : Nat, i ≤ l.length ∧ v7 = .int .i64 i ∧ ∃ v D N, Hid (OneInv D N ∧ N.seq ≤ i + 1) ∧ Hid (DSt w wr d f m v D .idle) ∧ Hid (Kept wr d f m v bn (hobj N))) (fun v7 _ _ _ _ _ _ _ => l.length - (intOf v7).toNat)
  case atStart => exact ⟨0, Nat.zero_le _, rfl, v4, _, _, ⟨OneInv.start, by show 1 ≤ 1; omega⟩, H6, K6⟩
  case round =>
    obtain ⟨i, hi, rfl, v, D, N, hI, hS, hK⟩ := hrel
    by_cases hlt : i < l.length
    · obtain ⟨ad, rfl, hT⟩ := HP.out i hlt
      obtain ⟨⟨tb, ta, tk, keep, torn, bytes⟩, htr⟩ : ∃ x, l[i] = x := ⟨_, rfl⟩
      rw [htr] at hT
      obtain ⟨q1, q2, p0, p1, p2, p3, p4, p5⟩ := hT
      dsimp only at q1 q2 p0 p1 p2 p3 p4 p5
      have hab : (ad.add (i * 6)).block < w.heap.size := World.block_lt_of_cell? _ _ p0
      have PP := Lib.hid (And.intro p0 (And.intro p1 (And.intro p2 (And.intro p3 (And.intro p4 p5)))))
      have HAB := Lib.hid hab
      clear p0 p1 p2 p3 p4 p5 hab htr
      have t0 : wr.cell? (ad.add (i * 6)) = some (.int .u8 (tb : Int)) := (hS.out.bel.cell HAB.out).trans PP.out.1
      have t1 : wr.cell? ⟨(ad.add (i * 6)).block, (ad.add (i * 6)).off + 1, none⟩ = some (.bool ta) := (hS.out.bel.cell (p := ⟨(ad.add (i * 6)).block, (ad.add (i * 6)).off + 1, none⟩) HAB.out).trans PP.out.2.1
      have t2 : wr.cell? ⟨(ad.add (i * 6)).block, (ad.add (i * 6)).off + 2, none⟩ = some (.int .u8 (tk : Int)) := (hS.out.bel.cell (p := ⟨(ad.add (i * 6)).block, (ad.add (i * 6)).off + 2, none⟩) HAB.out).trans PP.out.2.2.1
      have n0 : wr.cell? ⟨bn, 0, none⟩ = some (.int .i64 N.seq) := (cell_of hK.out.2 0).trans rfl
      have hseq : N.seq ≤ 31 := by have := hI.out.2; omega
      have hseq2 := hI.out.1.ok.1
      obtain ⟨q, hq⟩ : ∃ q, N.seq % 2 = q := ⟨_, rfl⟩
      have hqi : (N.seq : Int) % 2 = (q : Int) := by omega
      obtain ⟨k, hk⟩ : ∃ k, tk % 3 = k := ⟨_, rfl⟩
      have hki : (tk : Int) % 3 = (k : Int) := by omega
      cases ta
      · rcases (show k = 0 ∨ k = 1 ∨ k = 2 by omega) with rfl | rfl | rfl
        ·
          have hki : (tk : Int) % 3 = 0 := by omega
          have hX : (⟨N.seq + 1, tb + 1, 0, 1 + i, i⟩ : Hd).Ok := by
            unfold Hd.Ok
            dsimp only
            omega
          obtain ⟨es, D2, z2, R, hsv, hes, hR, hRR, hkd⟩ := hI.out.1.step hX rfl hseq (k := 0) (by omega) keep torn bytes
          obtain rfl : es = 10 := hes
          have HX := Lib.hid hX
          have HSV := Lib.hid hsv
          have HR := Lib.hid hR
          have HKD := Lib.hid hkd
          have HRR := Lib.hid hRR
          clear hX hsv hR hkd hRR
          go_wp2_with (fail)
          have ab := alloc_below wr (.cells #[.int .i64 0, .int .i64 0, .int .i64 0, .int .i64 0, .int .i64 0] 40)
          have t0a := below_cell ab t0
          have n0a := below_cell ab n0
          go_region
          have m0 := alloc_below wr (.cells #[.int .i64 (↑N.seq + 1), .int .i64 (↑tb + 1), .int .i64 0, .int .i64 (1 + ↑i), .int .i64 ↑i] 40)
          have a1 := below_cell m0 t1
          go_upto_region 14 with (fail)
          clear t0a n0a ab a1 m0
          have m1 := alloc_new wr (.cells #[.int .i64 (↑N.seq + 1), .int .i64 (↑tb + 1), .int .i64 0, .int .i64 (1 + ↑i), .int .i64 ↑i] 40)
          have m2 := alloc_below wr (.cells #[.int .i64 (↑N.seq + 1), .int .i64 (↑tb + 1), .int .i64 0, .int .i64 (1 + ↑i), .int .i64 ↑i] 40)
          generalize wr.alloc (.cells #[.int .i64 (↑N.seq + 1), .int .i64 (↑tb + 1), .int .i64 0, .int .i64 (1 + ↑i), .int .i64 ↑i] 40) = Wa at m1 m2 ⊢
          have S1 := (hS.out.below m2).below (Below.refl _ Wa).drew
          have L1 := (hK.out.below m2).below (Below.refl _ Wa).drew
          have hbx : ¬ Own d f m v wr.heap.size := fun ho => by have := hS.out.lab.lt ho; omega
          have hne : bn ≠ wr.heap.size := by have := hK.out.lt; omega
          obtain ⟨bx, hbxx⟩ : ∃ bx, wr.heap.size = bx := ⟨_, rfl⟩
          rw [hbxx] at m1 hbx hne ⊢
          have S2 := S1
          have L2 := L1
          have M2 : Kept Wa.drew d f m v bx (hobj (⟨N.seq + 1, tb + 1, 0, 1 + i, i⟩ : Hd)) := ⟨hbx, m1⟩
          generalize Wa.drew = Wb at S2 L2 M2 ⊢
          have HS2 := Lib.hid S2
          have HL2 := Lib.hid L2
          have HM2 := Lib.hid M2
          clear m1 m2 S1 L1 S2 L2 M2 hbx hbxx t0 t1 t2 n0
          have n0 : Wb.cell? ⟨bn, 0, none⟩ = some (.int .i64 N.seq) := (cell_of HL2.out.2 0).trans rfl
          have hqq : q < D.S.length := by rw [hI.out.1.len]; omega
          have HQQ := Lib.hid hqq
          have HMI : Hid (secAt D.S q = N.sec) := by unfold Hid; rw [← hq]; exact hI.out.1.mine
          clear hqq
          go_wp2_with (fail)
          refine (ddurable_any d f m v D q Wb HS2.out.lab.disk).mono ?_
          rw [doDurable_in HQQ.out, HMI.out]
          rintro e x1 ⟨rfl, b1⟩
          have HS3 := Lib.hid (HS2.out.below b1)
          have HL3 := Lib.hid (HL2.out.below b1)
          have HM3 := Lib.hid (HM2.out.below b1)
          clear b1 HS2 HL2 HM2 n0
          have t2 : x1.cell? ⟨(ad.add (i * 6)).block, (ad.add (i * 6)).off + 2, none⟩ = some (.int .u8 (tk : Int)) := (HS3.out.bel.cell (p := ⟨(ad.add (i * 6)).block, (ad.add (i * 6)).off + 2, none⟩) HAB.out).trans PP.out.2.2.1
          go_wp2_with (fail)
          refine (farm_any f .idle 0 x1 HS3.out.lab.fuse).mono ?_
          rw [show Fz.idle.arm 0 = (0, Fz.armed 0) from rfl]
          rintro e x2 ⟨rfl, rfl⟩
          have HS4 := Lib.hid (HS3.out.fuse (z' := .armed 0) (by show 0 ≤ 9223372036854775807; omega))
          have HL4 := Lib.hid (HL3.out.keeps (v' := v) (keeps_f x1 f (Fz.armed 0).obj) (fun x hx => .inr (.inl hx)) (fun k hk => .inl hk))
          have HM4 := Lib.hid (HM3.out.keeps (v' := v) (keeps_f x1 f (Fz.armed 0).obj) (fun x hx => .inr (.inl hx)) (fun k hk => .inl hk))
          clear HS3 HL3 HM3 t2
          generalize setBlock x1 f (Fz.armed 0).obj = x2 at HS4 HL4 HM4 ⊢
          have k0 : x2.cell? ⟨bx, 0, none⟩ = some (.int .i64 (↑N.seq + 1)) := (cell_of HM4.out.2 0).trans rfl
          have k1 : x2.cell? ⟨bx, 1, none⟩ = some (.int .i64 (↑tb + 1)) := (cell_of HM4.out.2 1).trans rfl
          have k2 : x2.cell? ⟨bx, 2, none⟩ = some (.int .i64 0) := (cell_of HM4.out.2 2).trans rfl
          have k3 : x2.cell? ⟨bx, 3, none⟩ = some (.int .i64 (1 + ↑i)) := (cell_of HM4.out.2 3).trans rfl
          have k4 : x2.cell? ⟨bx, 4, none⟩ = some (.int .i64 ↑i) := (cell_of HM4.out.2 4).trans rfl
          go_wp2_with (fail)
          refine (sSave_ok d f m v D (.armed 0) (⟨N.seq + 1, tb + 1, 0, 1 + i, i⟩ : Hd) x2 HX.out (by rw [hI.out.1.len]; omega) HS4.out.lab.disk HS4.out.lab.fuse (by rw [hI.out.1.emp]; show 0 ≤ 999999; omega)).mono ?_
          rw [HSV.out]
          rintro e x3 ⟨rfl, ha⟩
          obtain ⟨v5, h5, c5, n5⟩ := ha.lab
          have HS5 := Lib.hid (HS4.out.after h5 c5 n5)
          have HL5 := Lib.hid (HL4.out.keeps c5 (fun _ => id) n5)
          have HM5 := Lib.hid (HM4.out.keeps c5 (fun _ => id) n5)
          clear ha h5 c5 n5 k0 k1 k2 k3 k4 HS4 HL4 HM4
          have t3 : x3.cell? ⟨(ad.add (i * 6)).block, (ad.add (i * 6)).off + 3, none⟩ = some (.int .u64 keep) := (HS5.out.bel.cell (p := ⟨(ad.add (i * 6)).block, (ad.add (i * 6)).off + 3, none⟩) HAB.out).trans PP.out.2.2.2.1
          have t4 : x3.cell? ⟨(ad.add (i * 6)).block, (ad.add (i * 6)).off + 3 + 1, none⟩ = some (.int .i64 torn) := (HS5.out.bel.cell (p := ⟨(ad.add (i * 6)).block, (ad.add (i * 6)).off + 4, none⟩) HAB.out).trans PP.out.2.2.2.2.1
          have t5 : x3.cell? ⟨(ad.add (i * 6)).block, (ad.add (i * 6)).off + 3 + 2, none⟩ = some (.int .i64 bytes) := (HS5.out.bel.cell (p := ⟨(ad.add (i * 6)).block, (ad.add (i * 6)).off + 5, none⟩) HAB.out).trans PP.out.2.2.2.2.2
          go_wp2_with (fail)
          refine (dcrash_any d f m v5 D2 keep torn bytes x3 HS5.out.lab.disk).mono ?_
          rintro e x4 ⟨rfl, hd6, k6⟩
          have HS6 := Lib.hid (HS5.out.crash hd6 k6)
          have hsub : ∀ x, (x = d ∨ x = m) → Own d f m v5 x := fun x hx => by rcases hx with rfl | rfl; exact .inl rfl; exact .inr (.inr (.inl rfl))
          have HL6 := Lib.hid (HL5.out.keeps (v' := .slice none 0 0) k6 hsub (fun k hk => by simp [Value.ownBlock] at hk))
          have HM6 := Lib.hid (HM5.out.keeps (v' := .slice none 0 0) k6 hsub (fun k hk => by simp [Value.ownBlock] at hk))
          obtain ⟨D3, hD3⟩ : ∃ D3, D2.crash keep torn bytes = D3 := ⟨_, rfl⟩
          rw [hD3] at HS6 HR HKD
          clear hd6 k6 hsub t3 t4 t5 HS5 HL5 HM5 hD3
          go_wp2_with (fail)
          refine (freset_any f z2 x4 HS6.out.lab.fuse).mono ?_
          rintro e x5 ⟨rfl, rfl⟩
          have HS7 := Lib.hid (HS6.out.fuse (z' := .idle) (by show 0 ≤ 9223372036854775807; omega))
          have HL7 := Lib.hid (HL6.out.keeps (v' := .slice none 0 0) (keeps_f x4 f Fz.idle.obj) (fun x hx => .inr (.inl hx)) (fun k hk => .inl hk))
          have HM7 := Lib.hid (HM6.out.keeps (v' := .slice none 0 0) (keeps_f x4 f Fz.idle.obj) (fun x hx => .inr (.inl hx)) (fun k hk => .inl hk))
          clear HS6 HL6 HM6
          generalize setBlock x4 f Fz.idle.obj = x5 at HS7 HL7 HM7 ⊢
          obtain rfl : N = R := by
            rcases HRR.out with ⟨e, _⟩ | ⟨_, e⟩
            · exact e.symm
            · exact absurd rfl e
          have HLV : Hid (loadVal D3 = .tuple #[.agg #[.int .i64 ↑N.seq, .int .i64 ↑N.boot, .int .i64 ↑N.area, .int .i64 ↑N.first, .int .i64 ↑N.snaps], .int .i64 0]) := HR.out.load
          go_wp2_with (fail)
          refine (sLoad_any d f m _ D3 .idle x5 (by rw [HR.out.len]; omega) HS7.out.lab.disk HS7.out.lab.fuse rfl).mono ?_
          rw [HLV.out]
          rintro e x6 ⟨rfl, b8⟩
          have HKD' : Hid (secAt D3.S q = N.sec) := by unfold Hid; rw [← hq]; exact HKD.out
          have HQ3 : Hid (q < D3.S.length) := by have := HR.out.len; unfold Hid; omega
          obtain ⟨bh, hbh⟩ : ∃ bh, x6.heap.size = bh := ⟨_, rfl⟩
          have HS8 := HS7.out.below b8
          have HL8 := HL7.out.below b8
          have HM8 := HM7.out.below b8
          clear b8 HS7 HL7 HM7
          have m9 := alloc_new x6 (.cells #[.int .i64 ↑N.seq, .int .i64 ↑N.boot, .int .i64 ↑N.area, .int .i64 ↑N.first, .int .i64 ↑N.snaps] 40)
          have b9 := alloc_below x6 (.cells #[.int .i64 ↑N.seq, .int .i64 ↑N.boot, .int .i64 ↑N.area, .int .i64 ↑N.first, .int .i64 ↑N.snaps] 40)
          have HS9 := Lib.hid (HS8.below b9)
          have HL9 := Lib.hid (HL8.below b9)
          have HM9 := Lib.hid (HM8.below b9)
          have hbh1 : ¬ Own d f m (.slice none 0 0) x6.heap.size := fun ho => by have := HS8.lab.lt ho; omega
          clear HS8 HL8 HM8
          go_upto_region 24 with (fail)
          generalize x6.alloc (.cells #[.int .i64 ↑N.seq, .int .i64 ↑N.boot, .int .i64 ↑N.area, .int .i64 ↑N.first, .int .i64 ↑N.snaps] 40) = x7 at m9 b9 HS9 HL9 HM9 ⊢
          rw [hbh] at m9 hbh1
          have h0 : x7.cell? ⟨bh, 0, none⟩ = some (.int .i64 ↑N.seq) := (cell_of m9 0).trans rfl
          have h1 : x7.cell? ⟨bh, 1, none⟩ = some (.int .i64 ↑N.boot) := (cell_of m9 1).trans rfl
          have h2 : x7.cell? ⟨bh, 2, none⟩ = some (.int .i64 ↑N.area) := (cell_of m9 2).trans rfl
          have h3 : x7.cell? ⟨bh, 3, none⟩ = some (.int .i64 ↑N.first) := (cell_of m9 3).trans rfl
          have h4 : x7.cell? ⟨bh, 4, none⟩ = some (.int .i64 ↑N.snaps) := (cell_of m9 4).trans rfl
          have n0 : x7.cell? ⟨bn, 0, none⟩ = some (.int .i64 ↑N.seq) := (cell_of HL9.out.2 0).trans rfl
          have n1 : x7.cell? ⟨bn, 1, none⟩ = some (.int .i64 ↑N.boot) := (cell_of HL9.out.2 1).trans rfl
          have n2 : x7.cell? ⟨bn, 2, none⟩ = some (.int .i64 ↑N.area) := (cell_of HL9.out.2 2).trans rfl
          have n3 : x7.cell? ⟨bn, 3, none⟩ = some (.int .i64 ↑N.first) := (cell_of HL9.out.2 3).trans rfl
          have n4 : x7.cell? ⟨bn, 4, none⟩ = some (.int .i64 ↑N.snaps) := (cell_of HL9.out.2 4).trans rfl
          have k0 : x7.cell? ⟨bx, 0, none⟩ = some (.int .i64 (↑N.seq + 1)) := (cell_of HM9.out.2 0).trans rfl
          have k1 : x7.cell? ⟨bx, 1, none⟩ = some (.int .i64 (↑tb + 1)) := (cell_of HM9.out.2 1).trans rfl
          have k2 : x7.cell? ⟨bx, 2, none⟩ = some (.int .i64 0) := (cell_of HM9.out.2 2).trans rfl
          have k3 : x7.cell? ⟨bx, 3, none⟩ = some (.int .i64 (1 + ↑i)) := (cell_of HM9.out.2 3).trans rfl
          have k4 : x7.cell? ⟨bx, 4, none⟩ = some (.int .i64 ↑i) := (cell_of HM9.out.2 4).trans rfl
          have M9 := Lib.hid m9
          have HBH1 := Lib.hid hbh1
          have hd1 : (((N.seq : Int) + 1) == (N.seq : Int)) = false := by rw [beq_eq_false_iff_ne]; omega
          have hd2 : ((N.seq : Int) == ((N.seq : Int) + 1)) = false := by rw [beq_eq_false_iff_ne]; omega
          clear m9 b9 hbh1
          go_wp2_with (fail)
          refine (ddurable_any d f m _ D3 q x7 HS9.out.lab.disk).mono ?_
          rw [doDurable_in HQ3.out, HKD'.out]
          rintro e x8 ⟨rfl, b10⟩
          have i0 := below_cell b10 h0
          have i1 := below_cell b10 h1
          have i2 := below_cell b10 h2
          have i3 := below_cell b10 h3
          have i4 := below_cell b10 h4
          have HSA := Lib.hid (HS9.out.below b10)
          have HLA := Lib.hid (HL9.out.below b10)
          clear b10 h0 h1 h2 h3 h4 n0 n1 n2 n3 n4 k0 k1 k2 k3 k4 HS9 HL9 HM9 M9 HBH1
          go_wp2_with (refine wpList_store_block rfl 40 (.tmp 6) (.tmp 152) rfl bn #[.int .i64 ↑N.seq, .int .i64 ↑N.boot, .int .i64 ↑N.area, .int .i64 ↑N.first, .int .i64 ↑N.snaps] rfl rfl 40 _ HLA.out.2 (by kernel_rfl) rfl (by simp [Value.oneCell']) ?_)
          have kz : Keeps (fun x => x = bn) x8 (setBlock x8 bn (hobj N)) := Keeps.setBlock (S := fun x => x = bn) (.refl _ _) (fun _ => rfl) _
          have HSZ : Hid (DSt w (setBlock x8 bn (hobj N)) d f m (.slice none 0 0) D3 .idle) := ⟨HSA.out.lab.keeps kz (fun x hx e => HLA.out.1 (e ▸ hx)), HSA.out.frm, kz.belowOf HSA.out.bel HSA.out.bel.size (fun x hx e => by have := HBN.out; omega)⟩
          have HLZ : Hid (Kept (setBlock x8 bn (hobj N)) d f m (.slice none 0 0) bn (hobj N)) := ⟨HLA.out.1, setBlock_same (Array.getElem?_eq_some_iff.1 HLA.out.2).1 _⟩
          have HIZ : Hid (OneInv D3 N ∧ N.seq ≤ i + 1 + 1) := ⟨HR.out, by have := hI.out.2; omega⟩
          clear kz HSA HLA i0 i1 i2 i3 i4
          go_roundw
          case rel => exact ⟨i + 1, by omega, by go_num, .slice none 0 0, D3, N, HIZ, HSZ, HLZ⟩
          case measure => simp [intOf]; omega
        ·
          have hki : (tk : Int) % 3 = 1 := by omega
          have hX : (⟨N.seq + 1, tb + 1, 0, 1 + i, i⟩ : Hd).Ok := by
            unfold Hd.Ok
            dsimp only
            omega
          obtain ⟨es, D2, z2, R, hsv, hes, hR, hRR, hkd⟩ := hI.out.1.step hX rfl hseq (k := 1) (by omega) keep torn bytes
          obtain rfl : es = 10 := hes
          have HX := Lib.hid hX
          have HSV := Lib.hid hsv
          have HR := Lib.hid hR
          have HKD := Lib.hid hkd
          have HRR := Lib.hid hRR
          clear hX hsv hR hkd hRR
          go_wp2_with (fail)
          have ab := alloc_below wr (.cells #[.int .i64 0, .int .i64 0, .int .i64 0, .int .i64 0, .int .i64 0] 40)
          have t0a := below_cell ab t0
          have n0a := below_cell ab n0
          go_region
          have m0 := alloc_below wr (.cells #[.int .i64 (↑N.seq + 1), .int .i64 (↑tb + 1), .int .i64 0, .int .i64 (1 + ↑i), .int .i64 ↑i] 40)
          have a1 := below_cell m0 t1
          go_upto_region 14 with (fail)
          clear t0a n0a ab a1 m0
          have m1 := alloc_new wr (.cells #[.int .i64 (↑N.seq + 1), .int .i64 (↑tb + 1), .int .i64 0, .int .i64 (1 + ↑i), .int .i64 ↑i] 40)
          have m2 := alloc_below wr (.cells #[.int .i64 (↑N.seq + 1), .int .i64 (↑tb + 1), .int .i64 0, .int .i64 (1 + ↑i), .int .i64 ↑i] 40)
          generalize wr.alloc (.cells #[.int .i64 (↑N.seq + 1), .int .i64 (↑tb + 1), .int .i64 0, .int .i64 (1 + ↑i), .int .i64 ↑i] 40) = Wa at m1 m2 ⊢
          have S1 := (hS.out.below m2).below (Below.refl _ Wa).drew
          have L1 := (hK.out.below m2).below (Below.refl _ Wa).drew
          have hbx : ¬ Own d f m v wr.heap.size := fun ho => by have := hS.out.lab.lt ho; omega
          have hne : bn ≠ wr.heap.size := by have := hK.out.lt; omega
          obtain ⟨bx, hbxx⟩ : ∃ bx, wr.heap.size = bx := ⟨_, rfl⟩
          rw [hbxx] at m1 hbx hne ⊢
          have S2 := S1
          have L2 := L1
          have M2 : Kept Wa.drew d f m v bx (hobj (⟨N.seq + 1, tb + 1, 0, 1 + i, i⟩ : Hd)) := ⟨hbx, m1⟩
          generalize Wa.drew = Wb at S2 L2 M2 ⊢
          have HS2 := Lib.hid S2
          have HL2 := Lib.hid L2
          have HM2 := Lib.hid M2
          clear m1 m2 S1 L1 S2 L2 M2 hbx hbxx t0 t1 t2 n0
          have n0 : Wb.cell? ⟨bn, 0, none⟩ = some (.int .i64 N.seq) := (cell_of HL2.out.2 0).trans rfl
          have hqq : q < D.S.length := by rw [hI.out.1.len]; omega
          have HQQ := Lib.hid hqq
          have HMI : Hid (secAt D.S q = N.sec) := by unfold Hid; rw [← hq]; exact hI.out.1.mine
          clear hqq
          go_wp2_with (fail)
          refine (ddurable_any d f m v D q Wb HS2.out.lab.disk).mono ?_
          rw [doDurable_in HQQ.out, HMI.out]
          rintro e x1 ⟨rfl, b1⟩
          have HS3 := Lib.hid (HS2.out.below b1)
          have HL3 := Lib.hid (HL2.out.below b1)
          have HM3 := Lib.hid (HM2.out.below b1)
          clear b1 HS2 HL2 HM2 n0
          have t2 : x1.cell? ⟨(ad.add (i * 6)).block, (ad.add (i * 6)).off + 2, none⟩ = some (.int .u8 (tk : Int)) := (HS3.out.bel.cell (p := ⟨(ad.add (i * 6)).block, (ad.add (i * 6)).off + 2, none⟩) HAB.out).trans PP.out.2.2.1
          go_wp2_with (fail)
          refine (farm_any f .idle 1 x1 HS3.out.lab.fuse).mono ?_
          rw [show Fz.idle.arm 1 = (0, Fz.armed 1) from rfl]
          rintro e x2 ⟨rfl, rfl⟩
          have HS4 := Lib.hid (HS3.out.fuse (z' := .armed 1) (by show 1 ≤ 9223372036854775807; omega))
          have HL4 := Lib.hid (HL3.out.keeps (v' := v) (keeps_f x1 f (Fz.armed 1).obj) (fun x hx => .inr (.inl hx)) (fun k hk => .inl hk))
          have HM4 := Lib.hid (HM3.out.keeps (v' := v) (keeps_f x1 f (Fz.armed 1).obj) (fun x hx => .inr (.inl hx)) (fun k hk => .inl hk))
          clear HS3 HL3 HM3 t2
          generalize setBlock x1 f (Fz.armed 1).obj = x2 at HS4 HL4 HM4 ⊢
          have k0 : x2.cell? ⟨bx, 0, none⟩ = some (.int .i64 (↑N.seq + 1)) := (cell_of HM4.out.2 0).trans rfl
          have k1 : x2.cell? ⟨bx, 1, none⟩ = some (.int .i64 (↑tb + 1)) := (cell_of HM4.out.2 1).trans rfl
          have k2 : x2.cell? ⟨bx, 2, none⟩ = some (.int .i64 0) := (cell_of HM4.out.2 2).trans rfl
          have k3 : x2.cell? ⟨bx, 3, none⟩ = some (.int .i64 (1 + ↑i)) := (cell_of HM4.out.2 3).trans rfl
          have k4 : x2.cell? ⟨bx, 4, none⟩ = some (.int .i64 ↑i) := (cell_of HM4.out.2 4).trans rfl
          go_wp2_with (fail)
          refine (sSave_ok d f m v D (.armed 1) (⟨N.seq + 1, tb + 1, 0, 1 + i, i⟩ : Hd) x2 HX.out (by rw [hI.out.1.len]; omega) HS4.out.lab.disk HS4.out.lab.fuse (by rw [hI.out.1.emp]; show 0 ≤ 999999; omega)).mono ?_
          rw [HSV.out]
          rintro e x3 ⟨rfl, ha⟩
          obtain ⟨v5, h5, c5, n5⟩ := ha.lab
          have HS5 := Lib.hid (HS4.out.after h5 c5 n5)
          have HL5 := Lib.hid (HL4.out.keeps c5 (fun _ => id) n5)
          have HM5 := Lib.hid (HM4.out.keeps c5 (fun _ => id) n5)
          clear ha h5 c5 n5 k0 k1 k2 k3 k4 HS4 HL4 HM4
          have t3 : x3.cell? ⟨(ad.add (i * 6)).block, (ad.add (i * 6)).off + 3, none⟩ = some (.int .u64 keep) := (HS5.out.bel.cell (p := ⟨(ad.add (i * 6)).block, (ad.add (i * 6)).off + 3, none⟩) HAB.out).trans PP.out.2.2.2.1
          have t4 : x3.cell? ⟨(ad.add (i * 6)).block, (ad.add (i * 6)).off + 3 + 1, none⟩ = some (.int .i64 torn) := (HS5.out.bel.cell (p := ⟨(ad.add (i * 6)).block, (ad.add (i * 6)).off + 4, none⟩) HAB.out).trans PP.out.2.2.2.2.1
          have t5 : x3.cell? ⟨(ad.add (i * 6)).block, (ad.add (i * 6)).off + 3 + 2, none⟩ = some (.int .i64 bytes) := (HS5.out.bel.cell (p := ⟨(ad.add (i * 6)).block, (ad.add (i * 6)).off + 5, none⟩) HAB.out).trans PP.out.2.2.2.2.2
          go_wp2_with (fail)
          refine (dcrash_any d f m v5 D2 keep torn bytes x3 HS5.out.lab.disk).mono ?_
          rintro e x4 ⟨rfl, hd6, k6⟩
          have HS6 := Lib.hid (HS5.out.crash hd6 k6)
          have hsub : ∀ x, (x = d ∨ x = m) → Own d f m v5 x := fun x hx => by rcases hx with rfl | rfl; exact .inl rfl; exact .inr (.inr (.inl rfl))
          have HL6 := Lib.hid (HL5.out.keeps (v' := .slice none 0 0) k6 hsub (fun k hk => by simp [Value.ownBlock] at hk))
          have HM6 := Lib.hid (HM5.out.keeps (v' := .slice none 0 0) k6 hsub (fun k hk => by simp [Value.ownBlock] at hk))
          obtain ⟨D3, hD3⟩ : ∃ D3, D2.crash keep torn bytes = D3 := ⟨_, rfl⟩
          rw [hD3] at HS6 HR HKD
          clear hd6 k6 hsub t3 t4 t5 HS5 HL5 HM5 hD3
          go_wp2_with (fail)
          refine (freset_any f z2 x4 HS6.out.lab.fuse).mono ?_
          rintro e x5 ⟨rfl, rfl⟩
          have HS7 := Lib.hid (HS6.out.fuse (z' := .idle) (by show 0 ≤ 9223372036854775807; omega))
          have HL7 := Lib.hid (HL6.out.keeps (v' := .slice none 0 0) (keeps_f x4 f Fz.idle.obj) (fun x hx => .inr (.inl hx)) (fun k hk => .inl hk))
          have HM7 := Lib.hid (HM6.out.keeps (v' := .slice none 0 0) (keeps_f x4 f Fz.idle.obj) (fun x hx => .inr (.inl hx)) (fun k hk => .inl hk))
          clear HS6 HL6 HM6
          generalize setBlock x4 f Fz.idle.obj = x5 at HS7 HL7 HM7 ⊢
          rcases HRR.out with ⟨e, _⟩ | ⟨rfl, _⟩
          · obtain rfl := e.symm
            have HLV : Hid (loadVal D3 = .tuple #[.agg #[.int .i64 ↑N.seq, .int .i64 ↑N.boot, .int .i64 ↑N.area, .int .i64 ↑N.first, .int .i64 ↑N.snaps], .int .i64 0]) := HR.out.load
            go_wp2_with (fail)
            refine (sLoad_any d f m _ D3 .idle x5 (by rw [HR.out.len]; omega) HS7.out.lab.disk HS7.out.lab.fuse rfl).mono ?_
            rw [HLV.out]
            rintro e x6 ⟨rfl, b8⟩
            have HKD' : Hid (secAt D3.S q = N.sec) := by unfold Hid; rw [← hq]; exact HKD.out
            have HQ3 : Hid (q < D3.S.length) := by have := HR.out.len; unfold Hid; omega
            obtain ⟨bh, hbh⟩ : ∃ bh, x6.heap.size = bh := ⟨_, rfl⟩
            have HS8 := HS7.out.below b8
            have HL8 := HL7.out.below b8
            have HM8 := HM7.out.below b8
            clear b8 HS7 HL7 HM7
            have m9 := alloc_new x6 (.cells #[.int .i64 ↑N.seq, .int .i64 ↑N.boot, .int .i64 ↑N.area, .int .i64 ↑N.first, .int .i64 ↑N.snaps] 40)
            have b9 := alloc_below x6 (.cells #[.int .i64 ↑N.seq, .int .i64 ↑N.boot, .int .i64 ↑N.area, .int .i64 ↑N.first, .int .i64 ↑N.snaps] 40)
            have HS9 := Lib.hid (HS8.below b9)
            have HL9 := Lib.hid (HL8.below b9)
            have HM9 := Lib.hid (HM8.below b9)
            have hbh1 : ¬ Own d f m (.slice none 0 0) x6.heap.size := fun ho => by have := HS8.lab.lt ho; omega
            clear HS8 HL8 HM8
            go_upto_region 24 with (fail)
            generalize x6.alloc (.cells #[.int .i64 ↑N.seq, .int .i64 ↑N.boot, .int .i64 ↑N.area, .int .i64 ↑N.first, .int .i64 ↑N.snaps] 40) = x7 at m9 b9 HS9 HL9 HM9 ⊢
            rw [hbh] at m9 hbh1
            have h0 : x7.cell? ⟨bh, 0, none⟩ = some (.int .i64 ↑N.seq) := (cell_of m9 0).trans rfl
            have h1 : x7.cell? ⟨bh, 1, none⟩ = some (.int .i64 ↑N.boot) := (cell_of m9 1).trans rfl
            have h2 : x7.cell? ⟨bh, 2, none⟩ = some (.int .i64 ↑N.area) := (cell_of m9 2).trans rfl
            have h3 : x7.cell? ⟨bh, 3, none⟩ = some (.int .i64 ↑N.first) := (cell_of m9 3).trans rfl
            have h4 : x7.cell? ⟨bh, 4, none⟩ = some (.int .i64 ↑N.snaps) := (cell_of m9 4).trans rfl
            have n0 : x7.cell? ⟨bn, 0, none⟩ = some (.int .i64 ↑N.seq) := (cell_of HL9.out.2 0).trans rfl
            have n1 : x7.cell? ⟨bn, 1, none⟩ = some (.int .i64 ↑N.boot) := (cell_of HL9.out.2 1).trans rfl
            have n2 : x7.cell? ⟨bn, 2, none⟩ = some (.int .i64 ↑N.area) := (cell_of HL9.out.2 2).trans rfl
            have n3 : x7.cell? ⟨bn, 3, none⟩ = some (.int .i64 ↑N.first) := (cell_of HL9.out.2 3).trans rfl
            have n4 : x7.cell? ⟨bn, 4, none⟩ = some (.int .i64 ↑N.snaps) := (cell_of HL9.out.2 4).trans rfl
            have k0 : x7.cell? ⟨bx, 0, none⟩ = some (.int .i64 (↑N.seq + 1)) := (cell_of HM9.out.2 0).trans rfl
            have k1 : x7.cell? ⟨bx, 1, none⟩ = some (.int .i64 (↑tb + 1)) := (cell_of HM9.out.2 1).trans rfl
            have k2 : x7.cell? ⟨bx, 2, none⟩ = some (.int .i64 0) := (cell_of HM9.out.2 2).trans rfl
            have k3 : x7.cell? ⟨bx, 3, none⟩ = some (.int .i64 (1 + ↑i)) := (cell_of HM9.out.2 3).trans rfl
            have k4 : x7.cell? ⟨bx, 4, none⟩ = some (.int .i64 ↑i) := (cell_of HM9.out.2 4).trans rfl
            have M9 := Lib.hid m9
            have HBH1 := Lib.hid hbh1
            have hd1 : (((N.seq : Int) + 1) == (N.seq : Int)) = false := by rw [beq_eq_false_iff_ne]; omega
            have hd2 : ((N.seq : Int) == ((N.seq : Int) + 1)) = false := by rw [beq_eq_false_iff_ne]; omega
            clear m9 b9 hbh1
            go_wp2_with (fail)
            refine (ddurable_any d f m _ D3 q x7 HS9.out.lab.disk).mono ?_
            rw [doDurable_in HQ3.out, HKD'.out]
            rintro e x8 ⟨rfl, b10⟩
            have i0 := below_cell b10 h0
            have i1 := below_cell b10 h1
            have i2 := below_cell b10 h2
            have i3 := below_cell b10 h3
            have i4 := below_cell b10 h4
            have HSA := Lib.hid (HS9.out.below b10)
            have HLA := Lib.hid (HL9.out.below b10)
            clear b10 h0 h1 h2 h3 h4 n0 n1 n2 n3 n4 k0 k1 k2 k3 k4 HS9 HL9 HM9 M9 HBH1
            go_wp2_with (refine wpList_store_block rfl 40 (.tmp 6) (.tmp 152) rfl bn #[.int .i64 ↑N.seq, .int .i64 ↑N.boot, .int .i64 ↑N.area, .int .i64 ↑N.first, .int .i64 ↑N.snaps] rfl rfl 40 _ HLA.out.2 (by kernel_rfl) rfl (by simp [Value.oneCell']) ?_)
            have kz : Keeps (fun x => x = bn) x8 (setBlock x8 bn (hobj N)) := Keeps.setBlock (S := fun x => x = bn) (.refl _ _) (fun _ => rfl) _
            have HSZ : Hid (DSt w (setBlock x8 bn (hobj N)) d f m (.slice none 0 0) D3 .idle) := ⟨HSA.out.lab.keeps kz (fun x hx e => HLA.out.1 (e ▸ hx)), HSA.out.frm, kz.belowOf HSA.out.bel HSA.out.bel.size (fun x hx e => by have := HBN.out; omega)⟩
            have HLZ : Hid (Kept (setBlock x8 bn (hobj N)) d f m (.slice none 0 0) bn (hobj N)) := ⟨HLA.out.1, setBlock_same (Array.getElem?_eq_some_iff.1 HLA.out.2).1 _⟩
            have HIZ : Hid (OneInv D3 N ∧ N.seq ≤ i + 1 + 1) := ⟨HR.out, by have := hI.out.2; omega⟩
            clear kz HSA HLA i0 i1 i2 i3 i4
            go_roundw
            case rel => exact ⟨i + 1, by omega, by go_num, .slice none 0 0, D3, N, HIZ, HSZ, HLZ⟩
            case measure => simp [intOf]; omega
          ·
            have HLV : Hid (loadVal D3 = .tuple #[.agg #[.int .i64 (↑N.seq + 1), .int .i64 (↑tb + 1), .int .i64 0, .int .i64 (1 + ↑i), .int .i64 ↑i], .int .i64 0]) := HR.out.load
            go_wp2_with (fail)
            refine (sLoad_any d f m _ D3 .idle x5 (by rw [HR.out.len]; omega) HS7.out.lab.disk HS7.out.lab.fuse rfl).mono ?_
            rw [HLV.out]
            rintro e x6 ⟨rfl, b8⟩
            have HKD' : Hid (secAt D3.S q = N.sec) := by unfold Hid; rw [← hq]; exact HKD.out
            have HQ3 : Hid (q < D3.S.length) := by have := HR.out.len; unfold Hid; omega
            obtain ⟨bh, hbh⟩ : ∃ bh, x6.heap.size = bh := ⟨_, rfl⟩
            have HS8 := HS7.out.below b8
            have HL8 := HL7.out.below b8
            have HM8 := HM7.out.below b8
            clear b8 HS7 HL7 HM7
            have m9 := alloc_new x6 (.cells #[.int .i64 (↑N.seq + 1), .int .i64 (↑tb + 1), .int .i64 0, .int .i64 (1 + ↑i), .int .i64 ↑i] 40)
            have b9 := alloc_below x6 (.cells #[.int .i64 (↑N.seq + 1), .int .i64 (↑tb + 1), .int .i64 0, .int .i64 (1 + ↑i), .int .i64 ↑i] 40)
            have HS9 := Lib.hid (HS8.below b9)
            have HL9 := Lib.hid (HL8.below b9)
            have HM9 := Lib.hid (HM8.below b9)
            have hbh1 : ¬ Own d f m (.slice none 0 0) x6.heap.size := fun ho => by have := HS8.lab.lt ho; omega
            clear HS8 HL8 HM8
            go_upto_region 24 with (fail)
            generalize x6.alloc (.cells #[.int .i64 (↑N.seq + 1), .int .i64 (↑tb + 1), .int .i64 0, .int .i64 (1 + ↑i), .int .i64 ↑i] 40) = x7 at m9 b9 HS9 HL9 HM9 ⊢
            rw [hbh] at m9 hbh1
            have h0 : x7.cell? ⟨bh, 0, none⟩ = some (.int .i64 (↑N.seq + 1)) := (cell_of m9 0).trans rfl
            have h1 : x7.cell? ⟨bh, 1, none⟩ = some (.int .i64 (↑tb + 1)) := (cell_of m9 1).trans rfl
            have h2 : x7.cell? ⟨bh, 2, none⟩ = some (.int .i64 0) := (cell_of m9 2).trans rfl
            have h3 : x7.cell? ⟨bh, 3, none⟩ = some (.int .i64 (1 + ↑i)) := (cell_of m9 3).trans rfl
            have h4 : x7.cell? ⟨bh, 4, none⟩ = some (.int .i64 ↑i) := (cell_of m9 4).trans rfl
            have n0 : x7.cell? ⟨bn, 0, none⟩ = some (.int .i64 ↑N.seq) := (cell_of HL9.out.2 0).trans rfl
            have n1 : x7.cell? ⟨bn, 1, none⟩ = some (.int .i64 ↑N.boot) := (cell_of HL9.out.2 1).trans rfl
            have n2 : x7.cell? ⟨bn, 2, none⟩ = some (.int .i64 ↑N.area) := (cell_of HL9.out.2 2).trans rfl
            have n3 : x7.cell? ⟨bn, 3, none⟩ = some (.int .i64 ↑N.first) := (cell_of HL9.out.2 3).trans rfl
            have n4 : x7.cell? ⟨bn, 4, none⟩ = some (.int .i64 ↑N.snaps) := (cell_of HL9.out.2 4).trans rfl
            have k0 : x7.cell? ⟨bx, 0, none⟩ = some (.int .i64 (↑N.seq + 1)) := (cell_of HM9.out.2 0).trans rfl
            have k1 : x7.cell? ⟨bx, 1, none⟩ = some (.int .i64 (↑tb + 1)) := (cell_of HM9.out.2 1).trans rfl
            have k2 : x7.cell? ⟨bx, 2, none⟩ = some (.int .i64 0) := (cell_of HM9.out.2 2).trans rfl
            have k3 : x7.cell? ⟨bx, 3, none⟩ = some (.int .i64 (1 + ↑i)) := (cell_of HM9.out.2 3).trans rfl
            have k4 : x7.cell? ⟨bx, 4, none⟩ = some (.int .i64 ↑i) := (cell_of HM9.out.2 4).trans rfl
            have M9 := Lib.hid m9
            have HBH1 := Lib.hid hbh1
            have hd1 : (((N.seq : Int) + 1) == (N.seq : Int)) = false := by rw [beq_eq_false_iff_ne]; omega
            have hd2 : ((N.seq : Int) == ((N.seq : Int) + 1)) = false := by rw [beq_eq_false_iff_ne]; omega
            clear m9 b9 hbh1
            go_wp2_with (fail)
            refine (ddurable_any d f m _ D3 q x7 HS9.out.lab.disk).mono ?_
            rw [doDurable_in HQ3.out, HKD'.out]
            rintro e x8 ⟨rfl, b10⟩
            have i0 := below_cell b10 h0
            have i1 := below_cell b10 h1
            have i2 := below_cell b10 h2
            have i3 := below_cell b10 h3
            have i4 := below_cell b10 h4
            have HSA := Lib.hid (HS9.out.below b10)
            have HLA := Lib.hid (HL9.out.below b10)
            clear b10 h0 h1 h2 h3 h4 n0 n1 n2 n3 n4 k0 k1 k2 k3 k4 HS9 HL9 HM9 M9 HBH1
            go_wp2_with (refine wpList_store_block rfl 40 (.tmp 6) (.tmp 152) rfl bn #[.int .i64 (↑N.seq + 1), .int .i64 (↑tb + 1), .int .i64 0, .int .i64 (1 + ↑i), .int .i64 ↑i] rfl rfl 40 _ HLA.out.2 (by kernel_rfl) rfl (by simp [Value.oneCell']) ?_)
            have kz : Keeps (fun x => x = bn) x8 (setBlock x8 bn (hobj (⟨N.seq + 1, tb + 1, 0, 1 + i, i⟩ : Hd))) := Keeps.setBlock (S := fun x => x = bn) (.refl _ _) (fun _ => rfl) _
            have HSZ : Hid (DSt w (setBlock x8 bn (hobj (⟨N.seq + 1, tb + 1, 0, 1 + i, i⟩ : Hd))) d f m (.slice none 0 0) D3 .idle) := ⟨HSA.out.lab.keeps kz (fun x hx e => HLA.out.1 (e ▸ hx)), HSA.out.frm, kz.belowOf HSA.out.bel HSA.out.bel.size (fun x hx e => by have := HBN.out; omega)⟩
            have HLZ : Hid (Kept (setBlock x8 bn (hobj (⟨N.seq + 1, tb + 1, 0, 1 + i, i⟩ : Hd))) d f m (.slice none 0 0) bn (hobj (⟨N.seq + 1, tb + 1, 0, 1 + i, i⟩ : Hd))) := ⟨HLA.out.1, setBlock_same (Array.getElem?_eq_some_iff.1 HLA.out.2).1 _⟩
            have HIZ : Hid (OneInv D3 (⟨N.seq + 1, tb + 1, 0, 1 + i, i⟩ : Hd) ∧ (⟨N.seq + 1, tb + 1, 0, 1 + i, i⟩ : Hd).seq ≤ i + 1 + 1) := ⟨HR.out, by have := hI.out.2; show N.seq + 1 ≤ i + 1 + 1; omega⟩
            clear kz HSA HLA i0 i1 i2 i3 i4
            go_roundw
            case rel => exact ⟨i + 1, by omega, by go_num, .slice none 0 0, D3, (⟨N.seq + 1, tb + 1, 0, 1 + i, i⟩ : Hd), HIZ, HSZ, HLZ⟩
            case measure => simp [intOf]; omega
        ·
          have hki : (tk : Int) % 3 = 2 := by omega
          have hX : (⟨N.seq + 1, tb + 1, 0, 1 + i, i⟩ : Hd).Ok := by
            unfold Hd.Ok
            dsimp only
            omega
          obtain ⟨es, D2, z2, R, hsv, hes, hR, hRR, hkd⟩ := hI.out.1.step hX rfl hseq (k := 2) (by omega) keep torn bytes
          obtain rfl : es = 0 := hes
          have HX := Lib.hid hX
          have HSV := Lib.hid hsv
          have HR := Lib.hid hR
          have HKD := Lib.hid hkd
          have HRR := Lib.hid hRR
          clear hX hsv hR hkd hRR
          go_wp2_with (fail)
          have ab := alloc_below wr (.cells #[.int .i64 0, .int .i64 0, .int .i64 0, .int .i64 0, .int .i64 0] 40)
          have t0a := below_cell ab t0
          have n0a := below_cell ab n0
          go_region
          have m0 := alloc_below wr (.cells #[.int .i64 (↑N.seq + 1), .int .i64 (↑tb + 1), .int .i64 0, .int .i64 (1 + ↑i), .int .i64 ↑i] 40)
          have a1 := below_cell m0 t1
          go_upto_region 14 with (fail)
          clear t0a n0a ab a1 m0
          have m1 := alloc_new wr (.cells #[.int .i64 (↑N.seq + 1), .int .i64 (↑tb + 1), .int .i64 0, .int .i64 (1 + ↑i), .int .i64 ↑i] 40)
          have m2 := alloc_below wr (.cells #[.int .i64 (↑N.seq + 1), .int .i64 (↑tb + 1), .int .i64 0, .int .i64 (1 + ↑i), .int .i64 ↑i] 40)
          generalize wr.alloc (.cells #[.int .i64 (↑N.seq + 1), .int .i64 (↑tb + 1), .int .i64 0, .int .i64 (1 + ↑i), .int .i64 ↑i] 40) = Wa at m1 m2 ⊢
          have S1 := (hS.out.below m2).below (Below.refl _ Wa).drew
          have L1 := (hK.out.below m2).below (Below.refl _ Wa).drew
          have hbx : ¬ Own d f m v wr.heap.size := fun ho => by have := hS.out.lab.lt ho; omega
          have hne : bn ≠ wr.heap.size := by have := hK.out.lt; omega
          obtain ⟨bx, hbxx⟩ : ∃ bx, wr.heap.size = bx := ⟨_, rfl⟩
          rw [hbxx] at m1 hbx hne ⊢
          have S2 := S1
          have L2 := L1
          have M2 : Kept Wa.drew d f m v bx (hobj (⟨N.seq + 1, tb + 1, 0, 1 + i, i⟩ : Hd)) := ⟨hbx, m1⟩
          generalize Wa.drew = Wb at S2 L2 M2 ⊢
          have HS2 := Lib.hid S2
          have HL2 := Lib.hid L2
          have HM2 := Lib.hid M2
          clear m1 m2 S1 L1 S2 L2 M2 hbx hbxx t0 t1 t2 n0
          have n0 : Wb.cell? ⟨bn, 0, none⟩ = some (.int .i64 N.seq) := (cell_of HL2.out.2 0).trans rfl
          have hqq : q < D.S.length := by rw [hI.out.1.len]; omega
          have HQQ := Lib.hid hqq
          have HMI : Hid (secAt D.S q = N.sec) := by unfold Hid; rw [← hq]; exact hI.out.1.mine
          clear hqq
          go_wp2_with (fail)
          refine (ddurable_any d f m v D q Wb HS2.out.lab.disk).mono ?_
          rw [doDurable_in HQQ.out, HMI.out]
          rintro e x1 ⟨rfl, b1⟩
          have HS3 := Lib.hid (HS2.out.below b1)
          have HL3 := Lib.hid (HL2.out.below b1)
          have HM3 := Lib.hid (HM2.out.below b1)
          clear b1 HS2 HL2 HM2 n0
          have t2 : x1.cell? ⟨(ad.add (i * 6)).block, (ad.add (i * 6)).off + 2, none⟩ = some (.int .u8 (tk : Int)) := (HS3.out.bel.cell (p := ⟨(ad.add (i * 6)).block, (ad.add (i * 6)).off + 2, none⟩) HAB.out).trans PP.out.2.2.1
          go_wp2_with (fail)
          refine (farm_any f .idle 2 x1 HS3.out.lab.fuse).mono ?_
          rw [show Fz.idle.arm 2 = (0, Fz.armed 2) from rfl]
          rintro e x2 ⟨rfl, rfl⟩
          have HS4 := Lib.hid (HS3.out.fuse (z' := .armed 2) (by show 2 ≤ 9223372036854775807; omega))
          have HL4 := Lib.hid (HL3.out.keeps (v' := v) (keeps_f x1 f (Fz.armed 2).obj) (fun x hx => .inr (.inl hx)) (fun k hk => .inl hk))
          have HM4 := Lib.hid (HM3.out.keeps (v' := v) (keeps_f x1 f (Fz.armed 2).obj) (fun x hx => .inr (.inl hx)) (fun k hk => .inl hk))
          clear HS3 HL3 HM3 t2
          generalize setBlock x1 f (Fz.armed 2).obj = x2 at HS4 HL4 HM4 ⊢
          have k0 : x2.cell? ⟨bx, 0, none⟩ = some (.int .i64 (↑N.seq + 1)) := (cell_of HM4.out.2 0).trans rfl
          have k1 : x2.cell? ⟨bx, 1, none⟩ = some (.int .i64 (↑tb + 1)) := (cell_of HM4.out.2 1).trans rfl
          have k2 : x2.cell? ⟨bx, 2, none⟩ = some (.int .i64 0) := (cell_of HM4.out.2 2).trans rfl
          have k3 : x2.cell? ⟨bx, 3, none⟩ = some (.int .i64 (1 + ↑i)) := (cell_of HM4.out.2 3).trans rfl
          have k4 : x2.cell? ⟨bx, 4, none⟩ = some (.int .i64 ↑i) := (cell_of HM4.out.2 4).trans rfl
          go_wp2_with (fail)
          refine (sSave_ok d f m v D (.armed 2) (⟨N.seq + 1, tb + 1, 0, 1 + i, i⟩ : Hd) x2 HX.out (by rw [hI.out.1.len]; omega) HS4.out.lab.disk HS4.out.lab.fuse (by rw [hI.out.1.emp]; show 0 ≤ 999999; omega)).mono ?_
          rw [HSV.out]
          rintro e x3 ⟨rfl, ha⟩
          obtain ⟨v5, h5, c5, n5⟩ := ha.lab
          have HS5 := Lib.hid (HS4.out.after h5 c5 n5)
          have HL5 := Lib.hid (HL4.out.keeps c5 (fun _ => id) n5)
          have HM5 := Lib.hid (HM4.out.keeps c5 (fun _ => id) n5)
          clear ha h5 c5 n5 k0 k1 k2 k3 k4 HS4 HL4 HM4
          have t3 : x3.cell? ⟨(ad.add (i * 6)).block, (ad.add (i * 6)).off + 3, none⟩ = some (.int .u64 keep) := (HS5.out.bel.cell (p := ⟨(ad.add (i * 6)).block, (ad.add (i * 6)).off + 3, none⟩) HAB.out).trans PP.out.2.2.2.1
          have t4 : x3.cell? ⟨(ad.add (i * 6)).block, (ad.add (i * 6)).off + 3 + 1, none⟩ = some (.int .i64 torn) := (HS5.out.bel.cell (p := ⟨(ad.add (i * 6)).block, (ad.add (i * 6)).off + 4, none⟩) HAB.out).trans PP.out.2.2.2.2.1
          have t5 : x3.cell? ⟨(ad.add (i * 6)).block, (ad.add (i * 6)).off + 3 + 2, none⟩ = some (.int .i64 bytes) := (HS5.out.bel.cell (p := ⟨(ad.add (i * 6)).block, (ad.add (i * 6)).off + 5, none⟩) HAB.out).trans PP.out.2.2.2.2.2
          go_wp2_with (fail)
          refine (dcrash_any d f m v5 D2 keep torn bytes x3 HS5.out.lab.disk).mono ?_
          rintro e x4 ⟨rfl, hd6, k6⟩
          have HS6 := Lib.hid (HS5.out.crash hd6 k6)
          have hsub : ∀ x, (x = d ∨ x = m) → Own d f m v5 x := fun x hx => by rcases hx with rfl | rfl; exact .inl rfl; exact .inr (.inr (.inl rfl))
          have HL6 := Lib.hid (HL5.out.keeps (v' := .slice none 0 0) k6 hsub (fun k hk => by simp [Value.ownBlock] at hk))
          have HM6 := Lib.hid (HM5.out.keeps (v' := .slice none 0 0) k6 hsub (fun k hk => by simp [Value.ownBlock] at hk))
          obtain ⟨D3, hD3⟩ : ∃ D3, D2.crash keep torn bytes = D3 := ⟨_, rfl⟩
          rw [hD3] at HS6 HR HKD
          clear hd6 k6 hsub t3 t4 t5 HS5 HL5 HM5 hD3
          go_wp2_with (fail)
          refine (freset_any f z2 x4 HS6.out.lab.fuse).mono ?_
          rintro e x5 ⟨rfl, rfl⟩
          have HS7 := Lib.hid (HS6.out.fuse (z' := .idle) (by show 0 ≤ 9223372036854775807; omega))
          have HL7 := Lib.hid (HL6.out.keeps (v' := .slice none 0 0) (keeps_f x4 f Fz.idle.obj) (fun x hx => .inr (.inl hx)) (fun k hk => .inl hk))
          have HM7 := Lib.hid (HM6.out.keeps (v' := .slice none 0 0) (keeps_f x4 f Fz.idle.obj) (fun x hx => .inr (.inl hx)) (fun k hk => .inl hk))
          clear HS6 HL6 HM6
          generalize setBlock x4 f Fz.idle.obj = x5 at HS7 HL7 HM7 ⊢
          obtain rfl : R = (⟨N.seq + 1, tb + 1, 0, 1 + i, i⟩ : Hd) := by
            rcases HRR.out with ⟨_, e⟩ | ⟨e, _⟩
            · exact absurd rfl e
            · exact e
          have HLV : Hid (loadVal D3 = .tuple #[.agg #[.int .i64 (↑N.seq + 1), .int .i64 (↑tb + 1), .int .i64 0, .int .i64 (1 + ↑i), .int .i64 ↑i], .int .i64 0]) := HR.out.load
          go_wp2_with (fail)
          refine (sLoad_any d f m _ D3 .idle x5 (by rw [HR.out.len]; omega) HS7.out.lab.disk HS7.out.lab.fuse rfl).mono ?_
          rw [HLV.out]
          rintro e x6 ⟨rfl, b8⟩
          have HKD' : Hid (secAt D3.S q = N.sec) := by unfold Hid; rw [← hq]; exact HKD.out
          have HQ3 : Hid (q < D3.S.length) := by have := HR.out.len; unfold Hid; omega
          obtain ⟨bh, hbh⟩ : ∃ bh, x6.heap.size = bh := ⟨_, rfl⟩
          have HS8 := HS7.out.below b8
          have HL8 := HL7.out.below b8
          have HM8 := HM7.out.below b8
          clear b8 HS7 HL7 HM7
          have m9 := alloc_new x6 (.cells #[.int .i64 (↑N.seq + 1), .int .i64 (↑tb + 1), .int .i64 0, .int .i64 (1 + ↑i), .int .i64 ↑i] 40)
          have b9 := alloc_below x6 (.cells #[.int .i64 (↑N.seq + 1), .int .i64 (↑tb + 1), .int .i64 0, .int .i64 (1 + ↑i), .int .i64 ↑i] 40)
          have HS9 := Lib.hid (HS8.below b9)
          have HL9 := Lib.hid (HL8.below b9)
          have HM9 := Lib.hid (HM8.below b9)
          have hbh1 : ¬ Own d f m (.slice none 0 0) x6.heap.size := fun ho => by have := HS8.lab.lt ho; omega
          clear HS8 HL8 HM8
          go_upto_region 24 with (fail)
          generalize x6.alloc (.cells #[.int .i64 (↑N.seq + 1), .int .i64 (↑tb + 1), .int .i64 0, .int .i64 (1 + ↑i), .int .i64 ↑i] 40) = x7 at m9 b9 HS9 HL9 HM9 ⊢
          rw [hbh] at m9 hbh1
          have h0 : x7.cell? ⟨bh, 0, none⟩ = some (.int .i64 (↑N.seq + 1)) := (cell_of m9 0).trans rfl
          have h1 : x7.cell? ⟨bh, 1, none⟩ = some (.int .i64 (↑tb + 1)) := (cell_of m9 1).trans rfl
          have h2 : x7.cell? ⟨bh, 2, none⟩ = some (.int .i64 0) := (cell_of m9 2).trans rfl
          have h3 : x7.cell? ⟨bh, 3, none⟩ = some (.int .i64 (1 + ↑i)) := (cell_of m9 3).trans rfl
          have h4 : x7.cell? ⟨bh, 4, none⟩ = some (.int .i64 ↑i) := (cell_of m9 4).trans rfl
          have n0 : x7.cell? ⟨bn, 0, none⟩ = some (.int .i64 ↑N.seq) := (cell_of HL9.out.2 0).trans rfl
          have n1 : x7.cell? ⟨bn, 1, none⟩ = some (.int .i64 ↑N.boot) := (cell_of HL9.out.2 1).trans rfl
          have n2 : x7.cell? ⟨bn, 2, none⟩ = some (.int .i64 ↑N.area) := (cell_of HL9.out.2 2).trans rfl
          have n3 : x7.cell? ⟨bn, 3, none⟩ = some (.int .i64 ↑N.first) := (cell_of HL9.out.2 3).trans rfl
          have n4 : x7.cell? ⟨bn, 4, none⟩ = some (.int .i64 ↑N.snaps) := (cell_of HL9.out.2 4).trans rfl
          have k0 : x7.cell? ⟨bx, 0, none⟩ = some (.int .i64 (↑N.seq + 1)) := (cell_of HM9.out.2 0).trans rfl
          have k1 : x7.cell? ⟨bx, 1, none⟩ = some (.int .i64 (↑tb + 1)) := (cell_of HM9.out.2 1).trans rfl
          have k2 : x7.cell? ⟨bx, 2, none⟩ = some (.int .i64 0) := (cell_of HM9.out.2 2).trans rfl
          have k3 : x7.cell? ⟨bx, 3, none⟩ = some (.int .i64 (1 + ↑i)) := (cell_of HM9.out.2 3).trans rfl
          have k4 : x7.cell? ⟨bx, 4, none⟩ = some (.int .i64 ↑i) := (cell_of HM9.out.2 4).trans rfl
          have M9 := Lib.hid m9
          have HBH1 := Lib.hid hbh1
          have hd1 : (((N.seq : Int) + 1) == (N.seq : Int)) = false := by rw [beq_eq_false_iff_ne]; omega
          have hd2 : ((N.seq : Int) == ((N.seq : Int) + 1)) = false := by rw [beq_eq_false_iff_ne]; omega
          clear m9 b9 hbh1
          go_wp2_with (fail)
          refine (ddurable_any d f m _ D3 q x7 HS9.out.lab.disk).mono ?_
          rw [doDurable_in HQ3.out, HKD'.out]
          rintro e x8 ⟨rfl, b10⟩
          have i0 := below_cell b10 h0
          have i1 := below_cell b10 h1
          have i2 := below_cell b10 h2
          have i3 := below_cell b10 h3
          have i4 := below_cell b10 h4
          have HSA := Lib.hid (HS9.out.below b10)
          have HLA := Lib.hid (HL9.out.below b10)
          clear b10 h0 h1 h2 h3 h4 n0 n1 n2 n3 n4 k0 k1 k2 k3 k4 HS9 HL9 HM9 M9 HBH1
          go_wp2_with (refine wpList_store_block rfl 40 (.tmp 6) (.tmp 152) rfl bn #[.int .i64 (↑N.seq + 1), .int .i64 (↑tb + 1), .int .i64 0, .int .i64 (1 + ↑i), .int .i64 ↑i] rfl rfl 40 _ HLA.out.2 (by kernel_rfl) rfl (by simp [Value.oneCell']) ?_)
          have kz : Keeps (fun x => x = bn) x8 (setBlock x8 bn (hobj (⟨N.seq + 1, tb + 1, 0, 1 + i, i⟩ : Hd))) := Keeps.setBlock (S := fun x => x = bn) (.refl _ _) (fun _ => rfl) _
          have HSZ : Hid (DSt w (setBlock x8 bn (hobj (⟨N.seq + 1, tb + 1, 0, 1 + i, i⟩ : Hd))) d f m (.slice none 0 0) D3 .idle) := ⟨HSA.out.lab.keeps kz (fun x hx e => HLA.out.1 (e ▸ hx)), HSA.out.frm, kz.belowOf HSA.out.bel HSA.out.bel.size (fun x hx e => by have := HBN.out; omega)⟩
          have HLZ : Hid (Kept (setBlock x8 bn (hobj (⟨N.seq + 1, tb + 1, 0, 1 + i, i⟩ : Hd))) d f m (.slice none 0 0) bn (hobj (⟨N.seq + 1, tb + 1, 0, 1 + i, i⟩ : Hd))) := ⟨HLA.out.1, setBlock_same (Array.getElem?_eq_some_iff.1 HLA.out.2).1 _⟩
          have HIZ : Hid (OneInv D3 (⟨N.seq + 1, tb + 1, 0, 1 + i, i⟩ : Hd) ∧ (⟨N.seq + 1, tb + 1, 0, 1 + i, i⟩ : Hd).seq ≤ i + 1 + 1) := ⟨HR.out, by have := hI.out.2; show N.seq + 1 ≤ i + 1 + 1; omega⟩
          clear kz HSA HLA i0 i1 i2 i3 i4
          go_roundw
          case rel => exact ⟨i + 1, by omega, by go_num, .slice none 0 0, D3, (⟨N.seq + 1, tb + 1, 0, 1 + i, i⟩ : Hd), HIZ, HSZ, HLZ⟩
          case measure => simp [intOf]; omega
      · rcases (show k = 0 ∨ k = 1 ∨ k = 2 by omega) with rfl | rfl | rfl
        ·
          have hki : (tk : Int) % 3 = 0 := by omega
          have hX : (⟨N.seq + 1, tb + 1, 1, 1 + i, i⟩ : Hd).Ok := by
            unfold Hd.Ok
            dsimp only
            omega
          obtain ⟨es, D2, z2, R, hsv, hes, hR, hRR, hkd⟩ := hI.out.1.step hX rfl hseq (k := 0) (by omega) keep torn bytes
          obtain rfl : es = 10 := hes
          have HX := Lib.hid hX
          have HSV := Lib.hid hsv
          have HR := Lib.hid hR
          have HKD := Lib.hid hkd
          have HRR := Lib.hid hRR
          clear hX hsv hR hkd hRR
          go_wp2_with (fail)
          have ab := alloc_below wr (.cells #[.int .i64 0, .int .i64 0, .int .i64 0, .int .i64 0, .int .i64 0] 40)
          have t0a := below_cell ab t0
          have n0a := below_cell ab n0
          go_region
          have m0 := alloc_below wr (.cells #[.int .i64 (↑N.seq + 1), .int .i64 (↑tb + 1), .int .i64 0, .int .i64 (1 + ↑i), .int .i64 ↑i] 40)
          have a1 := below_cell m0 t1
          go_upto_region 14 with (fail)
          clear t0a n0a ab a1 m0
          have m1 := alloc_new wr (.cells #[.int .i64 (↑N.seq + 1), .int .i64 (↑tb + 1), .int .i64 1, .int .i64 (1 + ↑i), .int .i64 ↑i] 40)
          have m2 := alloc_below wr (.cells #[.int .i64 (↑N.seq + 1), .int .i64 (↑tb + 1), .int .i64 1, .int .i64 (1 + ↑i), .int .i64 ↑i] 40)
          generalize wr.alloc (.cells #[.int .i64 (↑N.seq + 1), .int .i64 (↑tb + 1), .int .i64 1, .int .i64 (1 + ↑i), .int .i64 ↑i] 40) = Wa at m1 m2 ⊢
          have S1 := (hS.out.below m2).below (Below.refl _ Wa).drew
          have L1 := (hK.out.below m2).below (Below.refl _ Wa).drew
          have hbx : ¬ Own d f m v wr.heap.size := fun ho => by have := hS.out.lab.lt ho; omega
          have hne : bn ≠ wr.heap.size := by have := hK.out.lt; omega
          obtain ⟨bx, hbxx⟩ : ∃ bx, wr.heap.size = bx := ⟨_, rfl⟩
          rw [hbxx] at m1 hbx hne ⊢
          have S2 := S1
          have L2 := L1
          have M2 : Kept Wa.drew d f m v bx (hobj (⟨N.seq + 1, tb + 1, 1, 1 + i, i⟩ : Hd)) := ⟨hbx, m1⟩
          generalize Wa.drew = Wb at S2 L2 M2 ⊢
          have HS2 := Lib.hid S2
          have HL2 := Lib.hid L2
          have HM2 := Lib.hid M2
          clear m1 m2 S1 L1 S2 L2 M2 hbx hbxx t0 t1 t2 n0
          have n0 : Wb.cell? ⟨bn, 0, none⟩ = some (.int .i64 N.seq) := (cell_of HL2.out.2 0).trans rfl
          have hqq : q < D.S.length := by rw [hI.out.1.len]; omega
          have HQQ := Lib.hid hqq
          have HMI : Hid (secAt D.S q = N.sec) := by unfold Hid; rw [← hq]; exact hI.out.1.mine
          clear hqq
          go_wp2_with (fail)
          refine (ddurable_any d f m v D q Wb HS2.out.lab.disk).mono ?_
          rw [doDurable_in HQQ.out, HMI.out]
          rintro e x1 ⟨rfl, b1⟩
          have HS3 := Lib.hid (HS2.out.below b1)
          have HL3 := Lib.hid (HL2.out.below b1)
          have HM3 := Lib.hid (HM2.out.below b1)
          clear b1 HS2 HL2 HM2 n0
          have t2 : x1.cell? ⟨(ad.add (i * 6)).block, (ad.add (i * 6)).off + 2, none⟩ = some (.int .u8 (tk : Int)) := (HS3.out.bel.cell (p := ⟨(ad.add (i * 6)).block, (ad.add (i * 6)).off + 2, none⟩) HAB.out).trans PP.out.2.2.1
          go_wp2_with (fail)
          refine (farm_any f .idle 0 x1 HS3.out.lab.fuse).mono ?_
          rw [show Fz.idle.arm 0 = (0, Fz.armed 0) from rfl]
          rintro e x2 ⟨rfl, rfl⟩
          have HS4 := Lib.hid (HS3.out.fuse (z' := .armed 0) (by show 0 ≤ 9223372036854775807; omega))
          have HL4 := Lib.hid (HL3.out.keeps (v' := v) (keeps_f x1 f (Fz.armed 0).obj) (fun x hx => .inr (.inl hx)) (fun k hk => .inl hk))
          have HM4 := Lib.hid (HM3.out.keeps (v' := v) (keeps_f x1 f (Fz.armed 0).obj) (fun x hx => .inr (.inl hx)) (fun k hk => .inl hk))
          clear HS3 HL3 HM3 t2
          generalize setBlock x1 f (Fz.armed 0).obj = x2 at HS4 HL4 HM4 ⊢
          have k0 : x2.cell? ⟨bx, 0, none⟩ = some (.int .i64 (↑N.seq + 1)) := (cell_of HM4.out.2 0).trans rfl
          have k1 : x2.cell? ⟨bx, 1, none⟩ = some (.int .i64 (↑tb + 1)) := (cell_of HM4.out.2 1).trans rfl
          have k2 : x2.cell? ⟨bx, 2, none⟩ = some (.int .i64 1) := (cell_of HM4.out.2 2).trans rfl
          have k3 : x2.cell? ⟨bx, 3, none⟩ = some (.int .i64 (1 + ↑i)) := (cell_of HM4.out.2 3).trans rfl
          have k4 : x2.cell? ⟨bx, 4, none⟩ = some (.int .i64 ↑i) := (cell_of HM4.out.2 4).trans rfl
          go_wp2_with (fail)
          refine (sSave_ok d f m v D (.armed 0) (⟨N.seq + 1, tb + 1, 1, 1 + i, i⟩ : Hd) x2 HX.out (by rw [hI.out.1.len]; omega) HS4.out.lab.disk HS4.out.lab.fuse (by rw [hI.out.1.emp]; show 0 ≤ 999999; omega)).mono ?_
          rw [HSV.out]
          rintro e x3 ⟨rfl, ha⟩
          obtain ⟨v5, h5, c5, n5⟩ := ha.lab
          have HS5 := Lib.hid (HS4.out.after h5 c5 n5)
          have HL5 := Lib.hid (HL4.out.keeps c5 (fun _ => id) n5)
          have HM5 := Lib.hid (HM4.out.keeps c5 (fun _ => id) n5)
          clear ha h5 c5 n5 k0 k1 k2 k3 k4 HS4 HL4 HM4
          have t3 : x3.cell? ⟨(ad.add (i * 6)).block, (ad.add (i * 6)).off + 3, none⟩ = some (.int .u64 keep) := (HS5.out.bel.cell (p := ⟨(ad.add (i * 6)).block, (ad.add (i * 6)).off + 3, none⟩) HAB.out).trans PP.out.2.2.2.1
          have t4 : x3.cell? ⟨(ad.add (i * 6)).block, (ad.add (i * 6)).off + 3 + 1, none⟩ = some (.int .i64 torn) := (HS5.out.bel.cell (p := ⟨(ad.add (i * 6)).block, (ad.add (i * 6)).off + 4, none⟩) HAB.out).trans PP.out.2.2.2.2.1
          have t5 : x3.cell? ⟨(ad.add (i * 6)).block, (ad.add (i * 6)).off + 3 + 2, none⟩ = some (.int .i64 bytes) := (HS5.out.bel.cell (p := ⟨(ad.add (i * 6)).block, (ad.add (i * 6)).off + 5, none⟩) HAB.out).trans PP.out.2.2.2.2.2
          go_wp2_with (fail)
          refine (dcrash_any d f m v5 D2 keep torn bytes x3 HS5.out.lab.disk).mono ?_
          rintro e x4 ⟨rfl, hd6, k6⟩
          have HS6 := Lib.hid (HS5.out.crash hd6 k6)
          have hsub : ∀ x, (x = d ∨ x = m) → Own d f m v5 x := fun x hx => by rcases hx with rfl | rfl; exact .inl rfl; exact .inr (.inr (.inl rfl))
          have HL6 := Lib.hid (HL5.out.keeps (v' := .slice none 0 0) k6 hsub (fun k hk => by simp [Value.ownBlock] at hk))
          have HM6 := Lib.hid (HM5.out.keeps (v' := .slice none 0 0) k6 hsub (fun k hk => by simp [Value.ownBlock] at hk))
          obtain ⟨D3, hD3⟩ : ∃ D3, D2.crash keep torn bytes = D3 := ⟨_, rfl⟩
          rw [hD3] at HS6 HR HKD
          clear hd6 k6 hsub t3 t4 t5 HS5 HL5 HM5 hD3
          go_wp2_with (fail)
          refine (freset_any f z2 x4 HS6.out.lab.fuse).mono ?_
          rintro e x5 ⟨rfl, rfl⟩
          have HS7 := Lib.hid (HS6.out.fuse (z' := .idle) (by show 0 ≤ 9223372036854775807; omega))
          have HL7 := Lib.hid (HL6.out.keeps (v' := .slice none 0 0) (keeps_f x4 f Fz.idle.obj) (fun x hx => .inr (.inl hx)) (fun k hk => .inl hk))
          have HM7 := Lib.hid (HM6.out.keeps (v' := .slice none 0 0) (keeps_f x4 f Fz.idle.obj) (fun x hx => .inr (.inl hx)) (fun k hk => .inl hk))
          clear HS6 HL6 HM6
          generalize setBlock x4 f Fz.idle.obj = x5 at HS7 HL7 HM7 ⊢
          obtain rfl : N = R := by
            rcases HRR.out with ⟨e, _⟩ | ⟨_, e⟩
            · exact e.symm
            · exact absurd rfl e
          have HLV : Hid (loadVal D3 = .tuple #[.agg #[.int .i64 ↑N.seq, .int .i64 ↑N.boot, .int .i64 ↑N.area, .int .i64 ↑N.first, .int .i64 ↑N.snaps], .int .i64 0]) := HR.out.load
          go_wp2_with (fail)
          refine (sLoad_any d f m _ D3 .idle x5 (by rw [HR.out.len]; omega) HS7.out.lab.disk HS7.out.lab.fuse rfl).mono ?_
          rw [HLV.out]
          rintro e x6 ⟨rfl, b8⟩
          have HKD' : Hid (secAt D3.S q = N.sec) := by unfold Hid; rw [← hq]; exact HKD.out
          have HQ3 : Hid (q < D3.S.length) := by have := HR.out.len; unfold Hid; omega
          obtain ⟨bh, hbh⟩ : ∃ bh, x6.heap.size = bh := ⟨_, rfl⟩
          have HS8 := HS7.out.below b8
          have HL8 := HL7.out.below b8
          have HM8 := HM7.out.below b8
          clear b8 HS7 HL7 HM7
          have m9 := alloc_new x6 (.cells #[.int .i64 ↑N.seq, .int .i64 ↑N.boot, .int .i64 ↑N.area, .int .i64 ↑N.first, .int .i64 ↑N.snaps] 40)
          have b9 := alloc_below x6 (.cells #[.int .i64 ↑N.seq, .int .i64 ↑N.boot, .int .i64 ↑N.area, .int .i64 ↑N.first, .int .i64 ↑N.snaps] 40)
          have HS9 := Lib.hid (HS8.below b9)
          have HL9 := Lib.hid (HL8.below b9)
          have HM9 := Lib.hid (HM8.below b9)
          have hbh1 : ¬ Own d f m (.slice none 0 0) x6.heap.size := fun ho => by have := HS8.lab.lt ho; omega
          clear HS8 HL8 HM8
          go_upto_region 24 with (fail)
          generalize x6.alloc (.cells #[.int .i64 ↑N.seq, .int .i64 ↑N.boot, .int .i64 ↑N.area, .int .i64 ↑N.first, .int .i64 ↑N.snaps] 40) = x7 at m9 b9 HS9 HL9 HM9 ⊢
          rw [hbh] at m9 hbh1
          have h0 : x7.cell? ⟨bh, 0, none⟩ = some (.int .i64 ↑N.seq) := (cell_of m9 0).trans rfl
          have h1 : x7.cell? ⟨bh, 1, none⟩ = some (.int .i64 ↑N.boot) := (cell_of m9 1).trans rfl
          have h2 : x7.cell? ⟨bh, 2, none⟩ = some (.int .i64 ↑N.area) := (cell_of m9 2).trans rfl
          have h3 : x7.cell? ⟨bh, 3, none⟩ = some (.int .i64 ↑N.first) := (cell_of m9 3).trans rfl
          have h4 : x7.cell? ⟨bh, 4, none⟩ = some (.int .i64 ↑N.snaps) := (cell_of m9 4).trans rfl
          have n0 : x7.cell? ⟨bn, 0, none⟩ = some (.int .i64 ↑N.seq) := (cell_of HL9.out.2 0).trans rfl
          have n1 : x7.cell? ⟨bn, 1, none⟩ = some (.int .i64 ↑N.boot) := (cell_of HL9.out.2 1).trans rfl
          have n2 : x7.cell? ⟨bn, 2, none⟩ = some (.int .i64 ↑N.area) := (cell_of HL9.out.2 2).trans rfl
          have n3 : x7.cell? ⟨bn, 3, none⟩ = some (.int .i64 ↑N.first) := (cell_of HL9.out.2 3).trans rfl
          have n4 : x7.cell? ⟨bn, 4, none⟩ = some (.int .i64 ↑N.snaps) := (cell_of HL9.out.2 4).trans rfl
          have k0 : x7.cell? ⟨bx, 0, none⟩ = some (.int .i64 (↑N.seq + 1)) := (cell_of HM9.out.2 0).trans rfl
          have k1 : x7.cell? ⟨bx, 1, none⟩ = some (.int .i64 (↑tb + 1)) := (cell_of HM9.out.2 1).trans rfl
          have k2 : x7.cell? ⟨bx, 2, none⟩ = some (.int .i64 1) := (cell_of HM9.out.2 2).trans rfl
          have k3 : x7.cell? ⟨bx, 3, none⟩ = some (.int .i64 (1 + ↑i)) := (cell_of HM9.out.2 3).trans rfl
          have k4 : x7.cell? ⟨bx, 4, none⟩ = some (.int .i64 ↑i) := (cell_of HM9.out.2 4).trans rfl
          have M9 := Lib.hid m9
          have HBH1 := Lib.hid hbh1
          have hd1 : (((N.seq : Int) + 1) == (N.seq : Int)) = false := by rw [beq_eq_false_iff_ne]; omega
          have hd2 : ((N.seq : Int) == ((N.seq : Int) + 1)) = false := by rw [beq_eq_false_iff_ne]; omega
          clear m9 b9 hbh1
          go_wp2_with (fail)
          refine (ddurable_any d f m _ D3 q x7 HS9.out.lab.disk).mono ?_
          rw [doDurable_in HQ3.out, HKD'.out]
          rintro e x8 ⟨rfl, b10⟩
          have i0 := below_cell b10 h0
          have i1 := below_cell b10 h1
          have i2 := below_cell b10 h2
          have i3 := below_cell b10 h3
          have i4 := below_cell b10 h4
          have HSA := Lib.hid (HS9.out.below b10)
          have HLA := Lib.hid (HL9.out.below b10)
          clear b10 h0 h1 h2 h3 h4 n0 n1 n2 n3 n4 k0 k1 k2 k3 k4 HS9 HL9 HM9 M9 HBH1
          go_wp2_with (refine wpList_store_block rfl 40 (.tmp 6) (.tmp 152) rfl bn #[.int .i64 ↑N.seq, .int .i64 ↑N.boot, .int .i64 ↑N.area, .int .i64 ↑N.first, .int .i64 ↑N.snaps] rfl rfl 40 _ HLA.out.2 (by kernel_rfl) rfl (by simp [Value.oneCell']) ?_)
          have kz : Keeps (fun x => x = bn) x8 (setBlock x8 bn (hobj N)) := Keeps.setBlock (S := fun x => x = bn) (.refl _ _) (fun _ => rfl) _
          have HSZ : Hid (DSt w (setBlock x8 bn (hobj N)) d f m (.slice none 0 0) D3 .idle) := ⟨HSA.out.lab.keeps kz (fun x hx e => HLA.out.1 (e ▸ hx)), HSA.out.frm, kz.belowOf HSA.out.bel HSA.out.bel.size (fun x hx e => by have := HBN.out; omega)⟩
          have HLZ : Hid (Kept (setBlock x8 bn (hobj N)) d f m (.slice none 0 0) bn (hobj N)) := ⟨HLA.out.1, setBlock_same (Array.getElem?_eq_some_iff.1 HLA.out.2).1 _⟩
          have HIZ : Hid (OneInv D3 N ∧ N.seq ≤ i + 1 + 1) := ⟨HR.out, by have := hI.out.2; omega⟩
          clear kz HSA HLA i0 i1 i2 i3 i4
          go_roundw
          case rel => exact ⟨i + 1, by omega, by go_num, .slice none 0 0, D3, N, HIZ, HSZ, HLZ⟩
          case measure => simp [intOf]; omega
        ·
          have hki : (tk : Int) % 3 = 1 := by omega
          have hX : (⟨N.seq + 1, tb + 1, 1, 1 + i, i⟩ : Hd).Ok := by
            unfold Hd.Ok
            dsimp only
            omega
          obtain ⟨es, D2, z2, R, hsv, hes, hR, hRR, hkd⟩ := hI.out.1.step hX rfl hseq (k := 1) (by omega) keep torn bytes
          obtain rfl : es = 10 := hes
          have HX := Lib.hid hX
          have HSV := Lib.hid hsv
          have HR := Lib.hid hR
          have HKD := Lib.hid hkd
          have HRR := Lib.hid hRR
          clear hX hsv hR hkd hRR
          go_wp2_with (fail)
          have ab := alloc_below wr (.cells #[.int .i64 0, .int .i64 0, .int .i64 0, .int .i64 0, .int .i64 0] 40)
          have t0a := below_cell ab t0
          have n0a := below_cell ab n0
          go_region
          have m0 := alloc_below wr (.cells #[.int .i64 (↑N.seq + 1), .int .i64 (↑tb + 1), .int .i64 0, .int .i64 (1 + ↑i), .int .i64 ↑i] 40)
          have a1 := below_cell m0 t1
          go_upto_region 14 with (fail)
          clear t0a n0a ab a1 m0
          have m1 := alloc_new wr (.cells #[.int .i64 (↑N.seq + 1), .int .i64 (↑tb + 1), .int .i64 1, .int .i64 (1 + ↑i), .int .i64 ↑i] 40)
          have m2 := alloc_below wr (.cells #[.int .i64 (↑N.seq + 1), .int .i64 (↑tb + 1), .int .i64 1, .int .i64 (1 + ↑i), .int .i64 ↑i] 40)
          generalize wr.alloc (.cells #[.int .i64 (↑N.seq + 1), .int .i64 (↑tb + 1), .int .i64 1, .int .i64 (1 + ↑i), .int .i64 ↑i] 40) = Wa at m1 m2 ⊢
          have S1 := (hS.out.below m2).below (Below.refl _ Wa).drew
          have L1 := (hK.out.below m2).below (Below.refl _ Wa).drew
          have hbx : ¬ Own d f m v wr.heap.size := fun ho => by have := hS.out.lab.lt ho; omega
          have hne : bn ≠ wr.heap.size := by have := hK.out.lt; omega
          obtain ⟨bx, hbxx⟩ : ∃ bx, wr.heap.size = bx := ⟨_, rfl⟩
          rw [hbxx] at m1 hbx hne ⊢
          have S2 := S1
          have L2 := L1
          have M2 : Kept Wa.drew d f m v bx (hobj (⟨N.seq + 1, tb + 1, 1, 1 + i, i⟩ : Hd)) := ⟨hbx, m1⟩
          generalize Wa.drew = Wb at S2 L2 M2 ⊢
          have HS2 := Lib.hid S2
          have HL2 := Lib.hid L2
          have HM2 := Lib.hid M2
          clear m1 m2 S1 L1 S2 L2 M2 hbx hbxx t0 t1 t2 n0
          have n0 : Wb.cell? ⟨bn, 0, none⟩ = some (.int .i64 N.seq) := (cell_of HL2.out.2 0).trans rfl
          have hqq : q < D.S.length := by rw [hI.out.1.len]; omega
          have HQQ := Lib.hid hqq
          have HMI : Hid (secAt D.S q = N.sec) := by unfold Hid; rw [← hq]; exact hI.out.1.mine
          clear hqq
          go_wp2_with (fail)
          refine (ddurable_any d f m v D q Wb HS2.out.lab.disk).mono ?_
          rw [doDurable_in HQQ.out, HMI.out]
          rintro e x1 ⟨rfl, b1⟩
          have HS3 := Lib.hid (HS2.out.below b1)
          have HL3 := Lib.hid (HL2.out.below b1)
          have HM3 := Lib.hid (HM2.out.below b1)
          clear b1 HS2 HL2 HM2 n0
          have t2 : x1.cell? ⟨(ad.add (i * 6)).block, (ad.add (i * 6)).off + 2, none⟩ = some (.int .u8 (tk : Int)) := (HS3.out.bel.cell (p := ⟨(ad.add (i * 6)).block, (ad.add (i * 6)).off + 2, none⟩) HAB.out).trans PP.out.2.2.1
          go_wp2_with (fail)
          refine (farm_any f .idle 1 x1 HS3.out.lab.fuse).mono ?_
          rw [show Fz.idle.arm 1 = (0, Fz.armed 1) from rfl]
          rintro e x2 ⟨rfl, rfl⟩
          have HS4 := Lib.hid (HS3.out.fuse (z' := .armed 1) (by show 1 ≤ 9223372036854775807; omega))
          have HL4 := Lib.hid (HL3.out.keeps (v' := v) (keeps_f x1 f (Fz.armed 1).obj) (fun x hx => .inr (.inl hx)) (fun k hk => .inl hk))
          have HM4 := Lib.hid (HM3.out.keeps (v' := v) (keeps_f x1 f (Fz.armed 1).obj) (fun x hx => .inr (.inl hx)) (fun k hk => .inl hk))
          clear HS3 HL3 HM3 t2
          generalize setBlock x1 f (Fz.armed 1).obj = x2 at HS4 HL4 HM4 ⊢
          have k0 : x2.cell? ⟨bx, 0, none⟩ = some (.int .i64 (↑N.seq + 1)) := (cell_of HM4.out.2 0).trans rfl
          have k1 : x2.cell? ⟨bx, 1, none⟩ = some (.int .i64 (↑tb + 1)) := (cell_of HM4.out.2 1).trans rfl
          have k2 : x2.cell? ⟨bx, 2, none⟩ = some (.int .i64 1) := (cell_of HM4.out.2 2).trans rfl
          have k3 : x2.cell? ⟨bx, 3, none⟩ = some (.int .i64 (1 + ↑i)) := (cell_of HM4.out.2 3).trans rfl
          have k4 : x2.cell? ⟨bx, 4, none⟩ = some (.int .i64 ↑i) := (cell_of HM4.out.2 4).trans rfl
          go_wp2_with (fail)
          refine (sSave_ok d f m v D (.armed 1) (⟨N.seq + 1, tb + 1, 1, 1 + i, i⟩ : Hd) x2 HX.out (by rw [hI.out.1.len]; omega) HS4.out.lab.disk HS4.out.lab.fuse (by rw [hI.out.1.emp]; show 0 ≤ 999999; omega)).mono ?_
          rw [HSV.out]
          rintro e x3 ⟨rfl, ha⟩
          obtain ⟨v5, h5, c5, n5⟩ := ha.lab
          have HS5 := Lib.hid (HS4.out.after h5 c5 n5)
          have HL5 := Lib.hid (HL4.out.keeps c5 (fun _ => id) n5)
          have HM5 := Lib.hid (HM4.out.keeps c5 (fun _ => id) n5)
          clear ha h5 c5 n5 k0 k1 k2 k3 k4 HS4 HL4 HM4
          have t3 : x3.cell? ⟨(ad.add (i * 6)).block, (ad.add (i * 6)).off + 3, none⟩ = some (.int .u64 keep) := (HS5.out.bel.cell (p := ⟨(ad.add (i * 6)).block, (ad.add (i * 6)).off + 3, none⟩) HAB.out).trans PP.out.2.2.2.1
          have t4 : x3.cell? ⟨(ad.add (i * 6)).block, (ad.add (i * 6)).off + 3 + 1, none⟩ = some (.int .i64 torn) := (HS5.out.bel.cell (p := ⟨(ad.add (i * 6)).block, (ad.add (i * 6)).off + 4, none⟩) HAB.out).trans PP.out.2.2.2.2.1
          have t5 : x3.cell? ⟨(ad.add (i * 6)).block, (ad.add (i * 6)).off + 3 + 2, none⟩ = some (.int .i64 bytes) := (HS5.out.bel.cell (p := ⟨(ad.add (i * 6)).block, (ad.add (i * 6)).off + 5, none⟩) HAB.out).trans PP.out.2.2.2.2.2
          go_wp2_with (fail)
          refine (dcrash_any d f m v5 D2 keep torn bytes x3 HS5.out.lab.disk).mono ?_
          rintro e x4 ⟨rfl, hd6, k6⟩
          have HS6 := Lib.hid (HS5.out.crash hd6 k6)
          have hsub : ∀ x, (x = d ∨ x = m) → Own d f m v5 x := fun x hx => by rcases hx with rfl | rfl; exact .inl rfl; exact .inr (.inr (.inl rfl))
          have HL6 := Lib.hid (HL5.out.keeps (v' := .slice none 0 0) k6 hsub (fun k hk => by simp [Value.ownBlock] at hk))
          have HM6 := Lib.hid (HM5.out.keeps (v' := .slice none 0 0) k6 hsub (fun k hk => by simp [Value.ownBlock] at hk))
          obtain ⟨D3, hD3⟩ : ∃ D3, D2.crash keep torn bytes = D3 := ⟨_, rfl⟩
          rw [hD3] at HS6 HR HKD
          clear hd6 k6 hsub t3 t4 t5 HS5 HL5 HM5 hD3
          go_wp2_with (fail)
          refine (freset_any f z2 x4 HS6.out.lab.fuse).mono ?_
          rintro e x5 ⟨rfl, rfl⟩
          have HS7 := Lib.hid (HS6.out.fuse (z' := .idle) (by show 0 ≤ 9223372036854775807; omega))
          have HL7 := Lib.hid (HL6.out.keeps (v' := .slice none 0 0) (keeps_f x4 f Fz.idle.obj) (fun x hx => .inr (.inl hx)) (fun k hk => .inl hk))
          have HM7 := Lib.hid (HM6.out.keeps (v' := .slice none 0 0) (keeps_f x4 f Fz.idle.obj) (fun x hx => .inr (.inl hx)) (fun k hk => .inl hk))
          clear HS6 HL6 HM6
          generalize setBlock x4 f Fz.idle.obj = x5 at HS7 HL7 HM7 ⊢
          rcases HRR.out with ⟨e, _⟩ | ⟨rfl, _⟩
          · obtain rfl := e.symm
            have HLV : Hid (loadVal D3 = .tuple #[.agg #[.int .i64 ↑N.seq, .int .i64 ↑N.boot, .int .i64 ↑N.area, .int .i64 ↑N.first, .int .i64 ↑N.snaps], .int .i64 0]) := HR.out.load
            go_wp2_with (fail)
            refine (sLoad_any d f m _ D3 .idle x5 (by rw [HR.out.len]; omega) HS7.out.lab.disk HS7.out.lab.fuse rfl).mono ?_
            rw [HLV.out]
            rintro e x6 ⟨rfl, b8⟩
            have HKD' : Hid (secAt D3.S q = N.sec) := by unfold Hid; rw [← hq]; exact HKD.out
            have HQ3 : Hid (q < D3.S.length) := by have := HR.out.len; unfold Hid; omega
            obtain ⟨bh, hbh⟩ : ∃ bh, x6.heap.size = bh := ⟨_, rfl⟩
            have HS8 := HS7.out.below b8
            have HL8 := HL7.out.below b8
            have HM8 := HM7.out.below b8
            clear b8 HS7 HL7 HM7
            have m9 := alloc_new x6 (.cells #[.int .i64 ↑N.seq, .int .i64 ↑N.boot, .int .i64 ↑N.area, .int .i64 ↑N.first, .int .i64 ↑N.snaps] 40)
            have b9 := alloc_below x6 (.cells #[.int .i64 ↑N.seq, .int .i64 ↑N.boot, .int .i64 ↑N.area, .int .i64 ↑N.first, .int .i64 ↑N.snaps] 40)
            have HS9 := Lib.hid (HS8.below b9)
            have HL9 := Lib.hid (HL8.below b9)
            have HM9 := Lib.hid (HM8.below b9)
            have hbh1 : ¬ Own d f m (.slice none 0 0) x6.heap.size := fun ho => by have := HS8.lab.lt ho; omega
            clear HS8 HL8 HM8
            go_upto_region 24 with (fail)
            generalize x6.alloc (.cells #[.int .i64 ↑N.seq, .int .i64 ↑N.boot, .int .i64 ↑N.area, .int .i64 ↑N.first, .int .i64 ↑N.snaps] 40) = x7 at m9 b9 HS9 HL9 HM9 ⊢
            rw [hbh] at m9 hbh1
            have h0 : x7.cell? ⟨bh, 0, none⟩ = some (.int .i64 ↑N.seq) := (cell_of m9 0).trans rfl
            have h1 : x7.cell? ⟨bh, 1, none⟩ = some (.int .i64 ↑N.boot) := (cell_of m9 1).trans rfl
            have h2 : x7.cell? ⟨bh, 2, none⟩ = some (.int .i64 ↑N.area) := (cell_of m9 2).trans rfl
            have h3 : x7.cell? ⟨bh, 3, none⟩ = some (.int .i64 ↑N.first) := (cell_of m9 3).trans rfl
            have h4 : x7.cell? ⟨bh, 4, none⟩ = some (.int .i64 ↑N.snaps) := (cell_of m9 4).trans rfl
            have n0 : x7.cell? ⟨bn, 0, none⟩ = some (.int .i64 ↑N.seq) := (cell_of HL9.out.2 0).trans rfl
            have n1 : x7.cell? ⟨bn, 1, none⟩ = some (.int .i64 ↑N.boot) := (cell_of HL9.out.2 1).trans rfl
            have n2 : x7.cell? ⟨bn, 2, none⟩ = some (.int .i64 ↑N.area) := (cell_of HL9.out.2 2).trans rfl
            have n3 : x7.cell? ⟨bn, 3, none⟩ = some (.int .i64 ↑N.first) := (cell_of HL9.out.2 3).trans rfl
            have n4 : x7.cell? ⟨bn, 4, none⟩ = some (.int .i64 ↑N.snaps) := (cell_of HL9.out.2 4).trans rfl
            have k0 : x7.cell? ⟨bx, 0, none⟩ = some (.int .i64 (↑N.seq + 1)) := (cell_of HM9.out.2 0).trans rfl
            have k1 : x7.cell? ⟨bx, 1, none⟩ = some (.int .i64 (↑tb + 1)) := (cell_of HM9.out.2 1).trans rfl
            have k2 : x7.cell? ⟨bx, 2, none⟩ = some (.int .i64 1) := (cell_of HM9.out.2 2).trans rfl
            have k3 : x7.cell? ⟨bx, 3, none⟩ = some (.int .i64 (1 + ↑i)) := (cell_of HM9.out.2 3).trans rfl
            have k4 : x7.cell? ⟨bx, 4, none⟩ = some (.int .i64 ↑i) := (cell_of HM9.out.2 4).trans rfl
            have M9 := Lib.hid m9
            have HBH1 := Lib.hid hbh1
            have hd1 : (((N.seq : Int) + 1) == (N.seq : Int)) = false := by rw [beq_eq_false_iff_ne]; omega
            have hd2 : ((N.seq : Int) == ((N.seq : Int) + 1)) = false := by rw [beq_eq_false_iff_ne]; omega
            clear m9 b9 hbh1
            go_wp2_with (fail)
            refine (ddurable_any d f m _ D3 q x7 HS9.out.lab.disk).mono ?_
            rw [doDurable_in HQ3.out, HKD'.out]
            rintro e x8 ⟨rfl, b10⟩
            have i0 := below_cell b10 h0
            have i1 := below_cell b10 h1
            have i2 := below_cell b10 h2
            have i3 := below_cell b10 h3
            have i4 := below_cell b10 h4
            have HSA := Lib.hid (HS9.out.below b10)
            have HLA := Lib.hid (HL9.out.below b10)
            clear b10 h0 h1 h2 h3 h4 n0 n1 n2 n3 n4 k0 k1 k2 k3 k4 HS9 HL9 HM9 M9 HBH1
            go_wp2_with (refine wpList_store_block rfl 40 (.tmp 6) (.tmp 152) rfl bn #[.int .i64 ↑N.seq, .int .i64 ↑N.boot, .int .i64 ↑N.area, .int .i64 ↑N.first, .int .i64 ↑N.snaps] rfl rfl 40 _ HLA.out.2 (by kernel_rfl) rfl (by simp [Value.oneCell']) ?_)
            have kz : Keeps (fun x => x = bn) x8 (setBlock x8 bn (hobj N)) := Keeps.setBlock (S := fun x => x = bn) (.refl _ _) (fun _ => rfl) _
            have HSZ : Hid (DSt w (setBlock x8 bn (hobj N)) d f m (.slice none 0 0) D3 .idle) := ⟨HSA.out.lab.keeps kz (fun x hx e => HLA.out.1 (e ▸ hx)), HSA.out.frm, kz.belowOf HSA.out.bel HSA.out.bel.size (fun x hx e => by have := HBN.out; omega)⟩
            have HLZ : Hid (Kept (setBlock x8 bn (hobj N)) d f m (.slice none 0 0) bn (hobj N)) := ⟨HLA.out.1, setBlock_same (Array.getElem?_eq_some_iff.1 HLA.out.2).1 _⟩
            have HIZ : Hid (OneInv D3 N ∧ N.seq ≤ i + 1 + 1) := ⟨HR.out, by have := hI.out.2; omega⟩
            clear kz HSA HLA i0 i1 i2 i3 i4
            go_roundw
            case rel => exact ⟨i + 1, by omega, by go_num, .slice none 0 0, D3, N, HIZ, HSZ, HLZ⟩
            case measure => simp [intOf]; omega
          ·
            have HLV : Hid (loadVal D3 = .tuple #[.agg #[.int .i64 (↑N.seq + 1), .int .i64 (↑tb + 1), .int .i64 1, .int .i64 (1 + ↑i), .int .i64 ↑i], .int .i64 0]) := HR.out.load
            go_wp2_with (fail)
            refine (sLoad_any d f m _ D3 .idle x5 (by rw [HR.out.len]; omega) HS7.out.lab.disk HS7.out.lab.fuse rfl).mono ?_
            rw [HLV.out]
            rintro e x6 ⟨rfl, b8⟩
            have HKD' : Hid (secAt D3.S q = N.sec) := by unfold Hid; rw [← hq]; exact HKD.out
            have HQ3 : Hid (q < D3.S.length) := by have := HR.out.len; unfold Hid; omega
            obtain ⟨bh, hbh⟩ : ∃ bh, x6.heap.size = bh := ⟨_, rfl⟩
            have HS8 := HS7.out.below b8
            have HL8 := HL7.out.below b8
            have HM8 := HM7.out.below b8
            clear b8 HS7 HL7 HM7
            have m9 := alloc_new x6 (.cells #[.int .i64 (↑N.seq + 1), .int .i64 (↑tb + 1), .int .i64 1, .int .i64 (1 + ↑i), .int .i64 ↑i] 40)
            have b9 := alloc_below x6 (.cells #[.int .i64 (↑N.seq + 1), .int .i64 (↑tb + 1), .int .i64 1, .int .i64 (1 + ↑i), .int .i64 ↑i] 40)
            have HS9 := Lib.hid (HS8.below b9)
            have HL9 := Lib.hid (HL8.below b9)
            have HM9 := Lib.hid (HM8.below b9)
            have hbh1 : ¬ Own d f m (.slice none 0 0) x6.heap.size := fun ho => by have := HS8.lab.lt ho; omega
            clear HS8 HL8 HM8
            go_upto_region 24 with (fail)
            generalize x6.alloc (.cells #[.int .i64 (↑N.seq + 1), .int .i64 (↑tb + 1), .int .i64 1, .int .i64 (1 + ↑i), .int .i64 ↑i] 40) = x7 at m9 b9 HS9 HL9 HM9 ⊢
            rw [hbh] at m9 hbh1
            have h0 : x7.cell? ⟨bh, 0, none⟩ = some (.int .i64 (↑N.seq + 1)) := (cell_of m9 0).trans rfl
            have h1 : x7.cell? ⟨bh, 1, none⟩ = some (.int .i64 (↑tb + 1)) := (cell_of m9 1).trans rfl
            have h2 : x7.cell? ⟨bh, 2, none⟩ = some (.int .i64 1) := (cell_of m9 2).trans rfl
            have h3 : x7.cell? ⟨bh, 3, none⟩ = some (.int .i64 (1 + ↑i)) := (cell_of m9 3).trans rfl
            have h4 : x7.cell? ⟨bh, 4, none⟩ = some (.int .i64 ↑i) := (cell_of m9 4).trans rfl
            have n0 : x7.cell? ⟨bn, 0, none⟩ = some (.int .i64 ↑N.seq) := (cell_of HL9.out.2 0).trans rfl
            have n1 : x7.cell? ⟨bn, 1, none⟩ = some (.int .i64 ↑N.boot) := (cell_of HL9.out.2 1).trans rfl
            have n2 : x7.cell? ⟨bn, 2, none⟩ = some (.int .i64 ↑N.area) := (cell_of HL9.out.2 2).trans rfl
            have n3 : x7.cell? ⟨bn, 3, none⟩ = some (.int .i64 ↑N.first) := (cell_of HL9.out.2 3).trans rfl
            have n4 : x7.cell? ⟨bn, 4, none⟩ = some (.int .i64 ↑N.snaps) := (cell_of HL9.out.2 4).trans rfl
            have k0 : x7.cell? ⟨bx, 0, none⟩ = some (.int .i64 (↑N.seq + 1)) := (cell_of HM9.out.2 0).trans rfl
            have k1 : x7.cell? ⟨bx, 1, none⟩ = some (.int .i64 (↑tb + 1)) := (cell_of HM9.out.2 1).trans rfl
            have k2 : x7.cell? ⟨bx, 2, none⟩ = some (.int .i64 1) := (cell_of HM9.out.2 2).trans rfl
            have k3 : x7.cell? ⟨bx, 3, none⟩ = some (.int .i64 (1 + ↑i)) := (cell_of HM9.out.2 3).trans rfl
            have k4 : x7.cell? ⟨bx, 4, none⟩ = some (.int .i64 ↑i) := (cell_of HM9.out.2 4).trans rfl
            have M9 := Lib.hid m9
            have HBH1 := Lib.hid hbh1
            have hd1 : (((N.seq : Int) + 1) == (N.seq : Int)) = false := by rw [beq_eq_false_iff_ne]; omega
            have hd2 : ((N.seq : Int) == ((N.seq : Int) + 1)) = false := by rw [beq_eq_false_iff_ne]; omega
            clear m9 b9 hbh1
            go_wp2_with (fail)
            refine (ddurable_any d f m _ D3 q x7 HS9.out.lab.disk).mono ?_
            rw [doDurable_in HQ3.out, HKD'.out]
            rintro e x8 ⟨rfl, b10⟩
            have i0 := below_cell b10 h0
            have i1 := below_cell b10 h1
            have i2 := below_cell b10 h2
            have i3 := below_cell b10 h3
            have i4 := below_cell b10 h4
            have HSA := Lib.hid (HS9.out.below b10)
            have HLA := Lib.hid (HL9.out.below b10)
            clear b10 h0 h1 h2 h3 h4 n0 n1 n2 n3 n4 k0 k1 k2 k3 k4 HS9 HL9 HM9 M9 HBH1
            go_wp2_with (refine wpList_store_block rfl 40 (.tmp 6) (.tmp 152) rfl bn #[.int .i64 (↑N.seq + 1), .int .i64 (↑tb + 1), .int .i64 1, .int .i64 (1 + ↑i), .int .i64 ↑i] rfl rfl 40 _ HLA.out.2 (by kernel_rfl) rfl (by simp [Value.oneCell']) ?_)
            have kz : Keeps (fun x => x = bn) x8 (setBlock x8 bn (hobj (⟨N.seq + 1, tb + 1, 1, 1 + i, i⟩ : Hd))) := Keeps.setBlock (S := fun x => x = bn) (.refl _ _) (fun _ => rfl) _
            have HSZ : Hid (DSt w (setBlock x8 bn (hobj (⟨N.seq + 1, tb + 1, 1, 1 + i, i⟩ : Hd))) d f m (.slice none 0 0) D3 .idle) := ⟨HSA.out.lab.keeps kz (fun x hx e => HLA.out.1 (e ▸ hx)), HSA.out.frm, kz.belowOf HSA.out.bel HSA.out.bel.size (fun x hx e => by have := HBN.out; omega)⟩
            have HLZ : Hid (Kept (setBlock x8 bn (hobj (⟨N.seq + 1, tb + 1, 1, 1 + i, i⟩ : Hd))) d f m (.slice none 0 0) bn (hobj (⟨N.seq + 1, tb + 1, 1, 1 + i, i⟩ : Hd))) := ⟨HLA.out.1, setBlock_same (Array.getElem?_eq_some_iff.1 HLA.out.2).1 _⟩
            have HIZ : Hid (OneInv D3 (⟨N.seq + 1, tb + 1, 1, 1 + i, i⟩ : Hd) ∧ (⟨N.seq + 1, tb + 1, 1, 1 + i, i⟩ : Hd).seq ≤ i + 1 + 1) := ⟨HR.out, by have := hI.out.2; show N.seq + 1 ≤ i + 1 + 1; omega⟩
            clear kz HSA HLA i0 i1 i2 i3 i4
            go_roundw
            case rel => exact ⟨i + 1, by omega, by go_num, .slice none 0 0, D3, (⟨N.seq + 1, tb + 1, 1, 1 + i, i⟩ : Hd), HIZ, HSZ, HLZ⟩
            case measure => simp [intOf]; omega
        ·
          have hki : (tk : Int) % 3 = 2 := by omega
          have hX : (⟨N.seq + 1, tb + 1, 1, 1 + i, i⟩ : Hd).Ok := by
            unfold Hd.Ok
            dsimp only
            omega
          obtain ⟨es, D2, z2, R, hsv, hes, hR, hRR, hkd⟩ := hI.out.1.step hX rfl hseq (k := 2) (by omega) keep torn bytes
          obtain rfl : es = 0 := hes
          have HX := Lib.hid hX
          have HSV := Lib.hid hsv
          have HR := Lib.hid hR
          have HKD := Lib.hid hkd
          have HRR := Lib.hid hRR
          clear hX hsv hR hkd hRR
          go_wp2_with (fail)
          have ab := alloc_below wr (.cells #[.int .i64 0, .int .i64 0, .int .i64 0, .int .i64 0, .int .i64 0] 40)
          have t0a := below_cell ab t0
          have n0a := below_cell ab n0
          go_region
          have m0 := alloc_below wr (.cells #[.int .i64 (↑N.seq + 1), .int .i64 (↑tb + 1), .int .i64 0, .int .i64 (1 + ↑i), .int .i64 ↑i] 40)
          have a1 := below_cell m0 t1
          go_upto_region 14 with (fail)
          clear t0a n0a ab a1 m0
          have m1 := alloc_new wr (.cells #[.int .i64 (↑N.seq + 1), .int .i64 (↑tb + 1), .int .i64 1, .int .i64 (1 + ↑i), .int .i64 ↑i] 40)
          have m2 := alloc_below wr (.cells #[.int .i64 (↑N.seq + 1), .int .i64 (↑tb + 1), .int .i64 1, .int .i64 (1 + ↑i), .int .i64 ↑i] 40)
          generalize wr.alloc (.cells #[.int .i64 (↑N.seq + 1), .int .i64 (↑tb + 1), .int .i64 1, .int .i64 (1 + ↑i), .int .i64 ↑i] 40) = Wa at m1 m2 ⊢
          have S1 := (hS.out.below m2).below (Below.refl _ Wa).drew
          have L1 := (hK.out.below m2).below (Below.refl _ Wa).drew
          have hbx : ¬ Own d f m v wr.heap.size := fun ho => by have := hS.out.lab.lt ho; omega
          have hne : bn ≠ wr.heap.size := by have := hK.out.lt; omega
          obtain ⟨bx, hbxx⟩ : ∃ bx, wr.heap.size = bx := ⟨_, rfl⟩
          rw [hbxx] at m1 hbx hne ⊢
          have S2 := S1
          have L2 := L1
          have M2 : Kept Wa.drew d f m v bx (hobj (⟨N.seq + 1, tb + 1, 1, 1 + i, i⟩ : Hd)) := ⟨hbx, m1⟩
          generalize Wa.drew = Wb at S2 L2 M2 ⊢
          have HS2 := Lib.hid S2
          have HL2 := Lib.hid L2
          have HM2 := Lib.hid M2
          clear m1 m2 S1 L1 S2 L2 M2 hbx hbxx t0 t1 t2 n0
          have n0 : Wb.cell? ⟨bn, 0, none⟩ = some (.int .i64 N.seq) := (cell_of HL2.out.2 0).trans rfl
          have hqq : q < D.S.length := by rw [hI.out.1.len]; omega
          have HQQ := Lib.hid hqq
          have HMI : Hid (secAt D.S q = N.sec) := by unfold Hid; rw [← hq]; exact hI.out.1.mine
          clear hqq
          go_wp2_with (fail)
          refine (ddurable_any d f m v D q Wb HS2.out.lab.disk).mono ?_
          rw [doDurable_in HQQ.out, HMI.out]
          rintro e x1 ⟨rfl, b1⟩
          have HS3 := Lib.hid (HS2.out.below b1)
          have HL3 := Lib.hid (HL2.out.below b1)
          have HM3 := Lib.hid (HM2.out.below b1)
          clear b1 HS2 HL2 HM2 n0
          have t2 : x1.cell? ⟨(ad.add (i * 6)).block, (ad.add (i * 6)).off + 2, none⟩ = some (.int .u8 (tk : Int)) := (HS3.out.bel.cell (p := ⟨(ad.add (i * 6)).block, (ad.add (i * 6)).off + 2, none⟩) HAB.out).trans PP.out.2.2.1
          go_wp2_with (fail)
          refine (farm_any f .idle 2 x1 HS3.out.lab.fuse).mono ?_
          rw [show Fz.idle.arm 2 = (0, Fz.armed 2) from rfl]
          rintro e x2 ⟨rfl, rfl⟩
          have HS4 := Lib.hid (HS3.out.fuse (z' := .armed 2) (by show 2 ≤ 9223372036854775807; omega))
          have HL4 := Lib.hid (HL3.out.keeps (v' := v) (keeps_f x1 f (Fz.armed 2).obj) (fun x hx => .inr (.inl hx)) (fun k hk => .inl hk))
          have HM4 := Lib.hid (HM3.out.keeps (v' := v) (keeps_f x1 f (Fz.armed 2).obj) (fun x hx => .inr (.inl hx)) (fun k hk => .inl hk))
          clear HS3 HL3 HM3 t2
          generalize setBlock x1 f (Fz.armed 2).obj = x2 at HS4 HL4 HM4 ⊢
          have k0 : x2.cell? ⟨bx, 0, none⟩ = some (.int .i64 (↑N.seq + 1)) := (cell_of HM4.out.2 0).trans rfl
          have k1 : x2.cell? ⟨bx, 1, none⟩ = some (.int .i64 (↑tb + 1)) := (cell_of HM4.out.2 1).trans rfl
          have k2 : x2.cell? ⟨bx, 2, none⟩ = some (.int .i64 1) := (cell_of HM4.out.2 2).trans rfl
          have k3 : x2.cell? ⟨bx, 3, none⟩ = some (.int .i64 (1 + ↑i)) := (cell_of HM4.out.2 3).trans rfl
          have k4 : x2.cell? ⟨bx, 4, none⟩ = some (.int .i64 ↑i) := (cell_of HM4.out.2 4).trans rfl
          go_wp2_with (fail)
          refine (sSave_ok d f m v D (.armed 2) (⟨N.seq + 1, tb + 1, 1, 1 + i, i⟩ : Hd) x2 HX.out (by rw [hI.out.1.len]; omega) HS4.out.lab.disk HS4.out.lab.fuse (by rw [hI.out.1.emp]; show 0 ≤ 999999; omega)).mono ?_
          rw [HSV.out]
          rintro e x3 ⟨rfl, ha⟩
          obtain ⟨v5, h5, c5, n5⟩ := ha.lab
          have HS5 := Lib.hid (HS4.out.after h5 c5 n5)
          have HL5 := Lib.hid (HL4.out.keeps c5 (fun _ => id) n5)
          have HM5 := Lib.hid (HM4.out.keeps c5 (fun _ => id) n5)
          clear ha h5 c5 n5 k0 k1 k2 k3 k4 HS4 HL4 HM4
          have t3 : x3.cell? ⟨(ad.add (i * 6)).block, (ad.add (i * 6)).off + 3, none⟩ = some (.int .u64 keep) := (HS5.out.bel.cell (p := ⟨(ad.add (i * 6)).block, (ad.add (i * 6)).off + 3, none⟩) HAB.out).trans PP.out.2.2.2.1
          have t4 : x3.cell? ⟨(ad.add (i * 6)).block, (ad.add (i * 6)).off + 3 + 1, none⟩ = some (.int .i64 torn) := (HS5.out.bel.cell (p := ⟨(ad.add (i * 6)).block, (ad.add (i * 6)).off + 4, none⟩) HAB.out).trans PP.out.2.2.2.2.1
          have t5 : x3.cell? ⟨(ad.add (i * 6)).block, (ad.add (i * 6)).off + 3 + 2, none⟩ = some (.int .i64 bytes) := (HS5.out.bel.cell (p := ⟨(ad.add (i * 6)).block, (ad.add (i * 6)).off + 5, none⟩) HAB.out).trans PP.out.2.2.2.2.2
          go_wp2_with (fail)
          refine (dcrash_any d f m v5 D2 keep torn bytes x3 HS5.out.lab.disk).mono ?_
          rintro e x4 ⟨rfl, hd6, k6⟩
          have HS6 := Lib.hid (HS5.out.crash hd6 k6)
          have hsub : ∀ x, (x = d ∨ x = m) → Own d f m v5 x := fun x hx => by rcases hx with rfl | rfl; exact .inl rfl; exact .inr (.inr (.inl rfl))
          have HL6 := Lib.hid (HL5.out.keeps (v' := .slice none 0 0) k6 hsub (fun k hk => by simp [Value.ownBlock] at hk))
          have HM6 := Lib.hid (HM5.out.keeps (v' := .slice none 0 0) k6 hsub (fun k hk => by simp [Value.ownBlock] at hk))
          obtain ⟨D3, hD3⟩ : ∃ D3, D2.crash keep torn bytes = D3 := ⟨_, rfl⟩
          rw [hD3] at HS6 HR HKD
          clear hd6 k6 hsub t3 t4 t5 HS5 HL5 HM5 hD3
          go_wp2_with (fail)
          refine (freset_any f z2 x4 HS6.out.lab.fuse).mono ?_
          rintro e x5 ⟨rfl, rfl⟩
          have HS7 := Lib.hid (HS6.out.fuse (z' := .idle) (by show 0 ≤ 9223372036854775807; omega))
          have HL7 := Lib.hid (HL6.out.keeps (v' := .slice none 0 0) (keeps_f x4 f Fz.idle.obj) (fun x hx => .inr (.inl hx)) (fun k hk => .inl hk))
          have HM7 := Lib.hid (HM6.out.keeps (v' := .slice none 0 0) (keeps_f x4 f Fz.idle.obj) (fun x hx => .inr (.inl hx)) (fun k hk => .inl hk))
          clear HS6 HL6 HM6
          generalize setBlock x4 f Fz.idle.obj = x5 at HS7 HL7 HM7 ⊢
          obtain rfl : R = (⟨N.seq + 1, tb + 1, 1, 1 + i, i⟩ : Hd) := by
            rcases HRR.out with ⟨_, e⟩ | ⟨e, _⟩
            · exact absurd rfl e
            · exact e
          have HLV : Hid (loadVal D3 = .tuple #[.agg #[.int .i64 (↑N.seq + 1), .int .i64 (↑tb + 1), .int .i64 1, .int .i64 (1 + ↑i), .int .i64 ↑i], .int .i64 0]) := HR.out.load
          go_wp2_with (fail)
          refine (sLoad_any d f m _ D3 .idle x5 (by rw [HR.out.len]; omega) HS7.out.lab.disk HS7.out.lab.fuse rfl).mono ?_
          rw [HLV.out]
          rintro e x6 ⟨rfl, b8⟩
          have HKD' : Hid (secAt D3.S q = N.sec) := by unfold Hid; rw [← hq]; exact HKD.out
          have HQ3 : Hid (q < D3.S.length) := by have := HR.out.len; unfold Hid; omega
          obtain ⟨bh, hbh⟩ : ∃ bh, x6.heap.size = bh := ⟨_, rfl⟩
          have HS8 := HS7.out.below b8
          have HL8 := HL7.out.below b8
          have HM8 := HM7.out.below b8
          clear b8 HS7 HL7 HM7
          have m9 := alloc_new x6 (.cells #[.int .i64 (↑N.seq + 1), .int .i64 (↑tb + 1), .int .i64 1, .int .i64 (1 + ↑i), .int .i64 ↑i] 40)
          have b9 := alloc_below x6 (.cells #[.int .i64 (↑N.seq + 1), .int .i64 (↑tb + 1), .int .i64 1, .int .i64 (1 + ↑i), .int .i64 ↑i] 40)
          have HS9 := Lib.hid (HS8.below b9)
          have HL9 := Lib.hid (HL8.below b9)
          have HM9 := Lib.hid (HM8.below b9)
          have hbh1 : ¬ Own d f m (.slice none 0 0) x6.heap.size := fun ho => by have := HS8.lab.lt ho; omega
          clear HS8 HL8 HM8
          go_upto_region 24 with (fail)
          generalize x6.alloc (.cells #[.int .i64 (↑N.seq + 1), .int .i64 (↑tb + 1), .int .i64 1, .int .i64 (1 + ↑i), .int .i64 ↑i] 40) = x7 at m9 b9 HS9 HL9 HM9 ⊢
          rw [hbh] at m9 hbh1
          have h0 : x7.cell? ⟨bh, 0, none⟩ = some (.int .i64 (↑N.seq + 1)) := (cell_of m9 0).trans rfl
          have h1 : x7.cell? ⟨bh, 1, none⟩ = some (.int .i64 (↑tb + 1)) := (cell_of m9 1).trans rfl
          have h2 : x7.cell? ⟨bh, 2, none⟩ = some (.int .i64 1) := (cell_of m9 2).trans rfl
          have h3 : x7.cell? ⟨bh, 3, none⟩ = some (.int .i64 (1 + ↑i)) := (cell_of m9 3).trans rfl
          have h4 : x7.cell? ⟨bh, 4, none⟩ = some (.int .i64 ↑i) := (cell_of m9 4).trans rfl
          have n0 : x7.cell? ⟨bn, 0, none⟩ = some (.int .i64 ↑N.seq) := (cell_of HL9.out.2 0).trans rfl
          have n1 : x7.cell? ⟨bn, 1, none⟩ = some (.int .i64 ↑N.boot) := (cell_of HL9.out.2 1).trans rfl
          have n2 : x7.cell? ⟨bn, 2, none⟩ = some (.int .i64 ↑N.area) := (cell_of HL9.out.2 2).trans rfl
          have n3 : x7.cell? ⟨bn, 3, none⟩ = some (.int .i64 ↑N.first) := (cell_of HL9.out.2 3).trans rfl
          have n4 : x7.cell? ⟨bn, 4, none⟩ = some (.int .i64 ↑N.snaps) := (cell_of HL9.out.2 4).trans rfl
          have k0 : x7.cell? ⟨bx, 0, none⟩ = some (.int .i64 (↑N.seq + 1)) := (cell_of HM9.out.2 0).trans rfl
          have k1 : x7.cell? ⟨bx, 1, none⟩ = some (.int .i64 (↑tb + 1)) := (cell_of HM9.out.2 1).trans rfl
          have k2 : x7.cell? ⟨bx, 2, none⟩ = some (.int .i64 1) := (cell_of HM9.out.2 2).trans rfl
          have k3 : x7.cell? ⟨bx, 3, none⟩ = some (.int .i64 (1 + ↑i)) := (cell_of HM9.out.2 3).trans rfl
          have k4 : x7.cell? ⟨bx, 4, none⟩ = some (.int .i64 ↑i) := (cell_of HM9.out.2 4).trans rfl
          have M9 := Lib.hid m9
          have HBH1 := Lib.hid hbh1
          have hd1 : (((N.seq : Int) + 1) == (N.seq : Int)) = false := by rw [beq_eq_false_iff_ne]; omega
          have hd2 : ((N.seq : Int) == ((N.seq : Int) + 1)) = false := by rw [beq_eq_false_iff_ne]; omega
          clear m9 b9 hbh1
          go_wp2_with (fail)
          refine (ddurable_any d f m _ D3 q x7 HS9.out.lab.disk).mono ?_
          rw [doDurable_in HQ3.out, HKD'.out]
          rintro e x8 ⟨rfl, b10⟩
          have i0 := below_cell b10 h0
          have i1 := below_cell b10 h1
          have i2 := below_cell b10 h2
          have i3 := below_cell b10 h3
          have i4 := below_cell b10 h4
          have HSA := Lib.hid (HS9.out.below b10)
          have HLA := Lib.hid (HL9.out.below b10)
          clear b10 h0 h1 h2 h3 h4 n0 n1 n2 n3 n4 k0 k1 k2 k3 k4 HS9 HL9 HM9 M9 HBH1
          go_wp2_with (refine wpList_store_block rfl 40 (.tmp 6) (.tmp 152) rfl bn #[.int .i64 (↑N.seq + 1), .int .i64 (↑tb + 1), .int .i64 1, .int .i64 (1 + ↑i), .int .i64 ↑i] rfl rfl 40 _ HLA.out.2 (by kernel_rfl) rfl (by simp [Value.oneCell']) ?_)
          have kz : Keeps (fun x => x = bn) x8 (setBlock x8 bn (hobj (⟨N.seq + 1, tb + 1, 1, 1 + i, i⟩ : Hd))) := Keeps.setBlock (S := fun x => x = bn) (.refl _ _) (fun _ => rfl) _
          have HSZ : Hid (DSt w (setBlock x8 bn (hobj (⟨N.seq + 1, tb + 1, 1, 1 + i, i⟩ : Hd))) d f m (.slice none 0 0) D3 .idle) := ⟨HSA.out.lab.keeps kz (fun x hx e => HLA.out.1 (e ▸ hx)), HSA.out.frm, kz.belowOf HSA.out.bel HSA.out.bel.size (fun x hx e => by have := HBN.out; omega)⟩
          have HLZ : Hid (Kept (setBlock x8 bn (hobj (⟨N.seq + 1, tb + 1, 1, 1 + i, i⟩ : Hd))) d f m (.slice none 0 0) bn (hobj (⟨N.seq + 1, tb + 1, 1, 1 + i, i⟩ : Hd))) := ⟨HLA.out.1, setBlock_same (Array.getElem?_eq_some_iff.1 HLA.out.2).1 _⟩
          have HIZ : Hid (OneInv D3 (⟨N.seq + 1, tb + 1, 1, 1 + i, i⟩ : Hd) ∧ (⟨N.seq + 1, tb + 1, 1, 1 + i, i⟩ : Hd).seq ≤ i + 1 + 1) := ⟨HR.out, by have := hI.out.2; show N.seq + 1 ≤ i + 1 + 1; omega⟩
          clear kz HSA HLA i0 i1 i2 i3 i4
          go_roundw
          case rel => exact ⟨i + 1, by omega, by go_num, .slice none 0 0, D3, (⟨N.seq + 1, tb + 1, 1, 1 + i, i⟩ : Hd), HIZ, HSZ, HLZ⟩
          case measure => simp [intOf]; omega
    · obtain rfl : i = l.length := by omega
      go_wp2_with (go_at_call 19; refine (known07_any _).mono ?_; rintro e w9 ⟨rfl, bk⟩)
      go_ret
      exact ⟨rfl, below_step bk hS.out.bel (Nat.le_refl _)⟩
end Go.Proofs.Ytgnhpbolmfbngaa
