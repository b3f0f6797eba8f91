/- ring.Recover: what each call returns. -/
import Derived.Test.YtjdmindpiaijcaaRingWalk
import Derived.Test.YtjdmindpiaijcaaRingSmall
import Derived.Test.YtjdmindpiaijcaaCells
namespace Go.Proofs.Ytjdmindpiaijcaa
open Go.RowKit

/-- A slice of blocks that can be read. -/
def RowB (w : World) (A : Option Addr) (l : List GB) : Prop :=
  ∀ i (h : i < l.length), ∃ ad : Addr, A = some ad ∧ w.cell? (ad.add (i * 5)) = some (.int .i64 l[i].life) ∧ w.cell? ⟨(ad.add (i * 5)).block, (ad.add (i * 5)).off + 1, none⟩ = some (.int .i64 l[i].boot) ∧
    w.cell? ⟨(ad.add (i * 5)).block, (ad.add (i * 5)).off + 2, none⟩ = some (.int .i64 l[i].n) ∧ w.cell? ⟨(ad.add (i * 5)).block, (ad.add (i * 5)).off + 3, none⟩ = some (.int .i64 l[i].off) ∧
    w.cell? ⟨(ad.add (i * 5)).block, (ad.add (i * 5)).off + 4, none⟩ = some (.string (S l[i].data))

theorem RowB.below {w w' : World} {A : Option Addr} {l : List GB} (h : RowB w A l) (hb : Below w.heap.size w w') : RowB w' A l := fun i hi => by
  obtain ⟨ad, h0, h1, h2, h3, h4, h5⟩ := h i hi
  exact ⟨ad, h0, below_cell hb h1, below_cell hb h2, below_cell hb h3, below_cell hb h4, below_cell hb h5⟩
theorem foundOf_take (life : Int) (l : List GB) (k : Nat) (h : k < l.length) : foundOf life (l.take (k + 1)) = if l[k].pick life then mput (foundOf life (l.take k)) l[k].n l[k] else foundOf life (l.take k) := by
  rw [List.take_succ_eq_append_getElem h, foundOf_snoc]
theorem greatestOf_take (life : Int) (l : List GB) (k : Nat) (h : k < l.length) : greatestOf life (l.take (k + 1)) = if l[k].pick life then max (greatestOf life (l.take k)) l[k].n else greatestOf life (l.take k) := by
  rw [List.take_succ_eq_append_getElem h, greatestOf_snoc]

set_option maxRecDepth 100000 in
set_option maxHeartbeats 1000000 in
theorem recover_ok (files blocks life : Int) (l : List GB) (A : Option Addr) (cap : Nat) (w : World) (hl : RowB w A l) (hlen : l.length ≤ 1099511627776) (hdat : ∀ b ∈ l, b.data.length ≤ 140737488351232) (hf0 : 2 ≤ files) (hf1 : files ≤ 64) (hb0 : 1 ≤ blocks) (hb1 : blocks ≤ 64) (hl0 : 0 ≤ life) (hl1 : life ≤ 4294967295) :
    Calls Try.prog 8 #[.int .i64 files, .int .i64 blocks, .int .i64 life, .slice A l.length cap] w fun e w' => e = .returned (.tuple #[(recover files blocks life l).val, .int .i64 0]) ∧ Below w.heap.size w w' := by
  have hck : rcheck files blocks life = 0 := by unfold rcheck; rw [if_pos ⟨⟨hf0, hf1⟩, hb0, hb1⟩, if_pos ⟨hl0, hl1⟩]
  have HCK := Lib.hid hck
  have HDAT := Lib.hid (at_data (life := life) hdat)
  clear hdat
  clear hck
  have hmm := @run_makeMap Try.prog
  go_enter Try.func8, Try.ntmps8
  go_wp2_with (go_at_call 9; refine (rcheck_any _ _ _ _).mono ?_; rw [HCK.out]; rintro e w' ⟨rfl, rfl⟩)
  obtain ⟨q0, q1, q2, q3, HS, HB⟩ := four_new w (.cells #[.int .i64 blocks] 3) (.cells #[.int .i64 0, .int .i64 0, .int .i64 0, .int .i64 0] 32) (.map #[] 0) (.cells #[.map (some (w.heap.size + 1 + 1))] 43)
  revert q0 q1 q2 q3 HS HB
  generalize (((w.alloc (Obj.cells #[Value.int IntKind.i64 blocks] 3)).alloc (Obj.cells #[Value.int IntKind.i64 0, Value.int IntKind.i64 0, Value.int IntKind.i64 0, Value.int IntKind.i64 0] 32)).alloc (Obj.map #[] 0)).alloc (Obj.cells #[Value.map (some (w.heap.size + 1 + 1))] 43) = W
  intro q0 q1 q2 q3 HS HB
  have kM : IsMap W (w.heap.size + 1 + 1) (gvals (foundOf life (l.take 0))) := ⟨[], 0, by simpa using q2, rfl⟩
  have Q0 := Lib.hid q0
  have Q1 := Lib.hid q1
  have Q3 := Lib.hid q3
  have HSZ := Lib.hid HS
  clear q0 q1 q2 q3 HS
  go_loopw [12, 32] (fun g i wr => ∃ k : Nat, k ≤ l.length ∧ i = .int .i64 k ∧ g = .int .i64 (greatestOf life (l.take k)) ∧ Keeps (· = w.heap.size + 1 + 1) W wr ∧ IsMap wr (w.heap.size + 1 + 1) (gvals (foundOf life (l.take k)))) (fun _ i _ => l.length - (intOf i).toNat)
  case atStart => exact ⟨0, Nat.zero_le _, rfl, rfl, .refl _ _, kM⟩
  case round =>
    obtain ⟨k, hk, rfl, rfl, hkeep, hmap⟩ := hrel
    obtain ⟨wo, rfl⟩ : ∃ wo : World, wo = wr := ⟨_, rfl⟩
    have g0 := greatestOf_ge life (l.take k)
    have g1 := greatestOf_le life (l.take k)
    have hbel : Below w.heap.size w wo := hkeep.belowOf HB (by rw [HSZ.out]; omega) (fun j hj e => by omega)
    have kF : wo.cell? ⟨w.heap.size + 1 + 1 + 1, 0, none⟩ = some (.map (some (w.heap.size + 1 + 1))) := hkeep.cell (by rw [cell_of Q3.out]; rfl) (by simp)
    have kB : wo.cell? ⟨w.heap.size, 0, none⟩ = some (.int .i64 blocks) := hkeep.cell (by rw [cell_of Q0.out]; rfl) (by simp; omega)
    by_cases hlt : k < l.length
    · obtain ⟨ad, rfl, r0, r1, r2, r3, r4⟩ := (hl.below hbel) k hlt
      have hft := Lib.hid (foundOf_take life l k hlt)
      have hgt := Lib.hid (greatestOf_take life l k hlt)
      have hlt' : (k : Int) < (l.length : Int) := by omega
      by_cases hlife : l[k].life = life
      · have hl1 : (l[k].life == life) = true := by simpa using hlife
        have HLF := Lib.hid hlife
        clear hlife
        cases hfr : (decide ((0 : Int) ≤ l[k].n) && decide (l[k].n ≤ 4294967295)) with
        | true =>
          have hn := hfr
          simp only [Bool.and_eq_true, decide_eq_true_eq] at hn
          obtain ⟨hn0, hn1⟩ := hn
          have HFR := Lib.hid hfr
          clear hfr
          have kF' : ∀ o, (wo.alloc o).cell? ⟨w.heap.size + 1 + 1 + 1, 0, none⟩ = some (.map (some (w.heap.size + 1 + 1))) := fun o => below_cell (alloc_below _ _) kF
          obtain ⟨o, hput, hmap2⟩ := (hmap.below (alloc_below wo (.cells l[k].cells.toArray 35))).put Try.underlying43 Try.underlying3 l[k].n l[k].val
          have hc2 : (ChangeMaps.setBlock (wo.alloc (.cells l[k].cells.toArray 35)) (w.heap.size + 1 + 1) o).cell? ⟨wo.heap.size, 2, none⟩ = some (.int .i64 l[k].n) :=
            (Keeps.setBlock (S := (· = w.heap.size + 1 + 1)) (.refl _ _) (fun _ => rfl) o).cell (by rw [cell_of (alloc_new _ _)]; rfl) (by have := hmap.lt; simp; omega)
          have hk2 : Keeps (· = w.heap.size + 1 + 1) W (ChangeMaps.setBlock (wo.alloc (.cells l[k].cells.toArray 35)) (w.heap.size + 1 + 1) o) := (hkeep.alloc _).setBlock (fun _ => rfl) o
          unfold GB.cells at hput hmap2 hc2 hk2
          unfold GB.val at hput
          revert hput hmap2 hc2 hk2
          generalize hw2 : ChangeMaps.setBlock _ _ o = w2
          intro hput hmap2 hc2 hk2
          have HK2 := Lib.hid hk2
          have HM2 := Lib.hid hmap2
          have HR := Lib.hid hmap
          clear hw2 hk2 hmap2 hmap hkeep hbel kM
          have hpk : l[k].pick life = true := by unfold GB.pick; rw [hl1, HFR.out]; rfl
          have HPK := Lib.hid hpk
          clear hpk
          go_wp2_with (go_at_call 11; refine (rfrom_any _ _ _ _).mono ?_; rw [HFR.out]; rintro e w' ⟨rfl, rfl⟩)
          all_goals
            go_roundw
            case rel => exact ⟨k + 1, by omega, by go_num, by rw [hgt.out, HPK.out, if_pos rfl]; first | done | exact congrArg _ (by omega), HK2.out, by rw [hft.out, HPK.out, if_pos rfl, gvals, ← mput_map]; exact HM2.out⟩
            case measure => simp [intOf]; omega
        | false =>
          have HFR := Lib.hid hfr
          clear hfr
          have hpk : l[k].pick life = false := by unfold GB.pick; rw [hl1, HFR.out]; rfl
          have HPK := Lib.hid hpk
          clear hpk
          have HR := Lib.hid hmap
          have HK := Lib.hid hkeep
          clear hmap hkeep hbel kM
          go_wp2_with (go_at_call 11; refine (rfrom_any _ _ _ _).mono ?_; rw [HFR.out]; rintro e w' ⟨rfl, rfl⟩)
          go_roundw
          case rel => exact ⟨k + 1, by omega, by go_num, by rw [hgt.out, HPK.out, if_neg (by simp)], HK.out.alloc _, by rw [hft.out, HPK.out, if_neg (by simp)]; exact HR.out.below (alloc_below _ _)⟩
          case measure => simp [intOf]; omega
      · have hl1 : (l[k].life == life) = false := by simpa using hlife
        clear hlife
        have hpk : l[k].pick life = false := by unfold GB.pick; rw [hl1]; rfl
        have HPK := Lib.hid hpk
        clear hpk
        have HR := Lib.hid hmap
        have HK := Lib.hid hkeep
        clear hmap hkeep hbel kM
        go_wp2_with (go_at_call 11; refine (rfrom_any _ _ _ _).mono ?_; rw [HFR.out]; rintro e w' ⟨rfl, rfl⟩)
        go_roundw
        case rel => exact ⟨k + 1, by omega, by go_num, by rw [hgt.out, HPK.out, if_neg (by simp)], HK.out.alloc _, by rw [hft.out, HPK.out, if_neg (by simp)]; exact HR.out.below (alloc_below _ _)⟩
        case measure => simp [intOf]; omega
    · have hkl : k = l.length := by omega
      have HKL := Lib.hid hkl
      have HTK := Lib.hid (show l.take k = l by rw [hkl]; exact List.take_of_length_le (Nat.le_refl _))
      clear hkl
      rw [HTK.out] at hmap g0 g1
      rw [HTK.out]
      have hres : wo.heap[w.heap.size + 1]? = some (.cells #[.int .i64 0, .int .i64 0, .int .i64 0, .int .i64 0] 32 (0, 0)) := (hkeep.block _ (by rw [HSZ.out]; omega) (by omega)).trans Q1.out
      by_cases hneg : greatestOf life l < 0
      · have hrc : recover files blocks life l = ⟨0, 0, 0, 0⟩ := by unfold recover; dsimp only; rw [if_pos hneg]
        have HRC := Lib.hid hrc
        have hbl : Below w.heap.size w (ChangeMaps.setBlock wo (w.heap.size + 1) (.cells #[.int .i64 0, .int .i64 0, .int .i64 0, .int .i64 0] 32 (0, 0))) :=
          (Keeps.setBlock (S := (· = w.heap.size + 1)) (.refl _ _) (fun _ => rfl) _).belowOf hbel (by have := hmap.lt; omega) (fun j hj e => by omega)
        have hwh := setBlock_same (w := wo) (Array.getElem?_eq_some_iff.1 hres).1 (.cells #[.int .i64 0, .int .i64 0, .int .i64 0, .int .i64 0] 32 (0, 0))
        have HBL := Lib.hid hbl
        have HRES := Lib.hid hres
        have HWH := Lib.hid hwh
        clear hrc hbel hkeep hmap hbl kM hres hwh
        go_wp2_with (refine wpList_store_block rfl 32 _ _ rfl (w.heap.size + 1) #[.int .i64 0, .int .i64 0, .int .i64 0, .int .i64 0] rfl rfl 32 _ HRES.out (by kernel_rfl) rfl (by simp [Value.oneCell']) ?_)
        exact bodyPost_ret (results_cell2 rfl _ _ (w.heap.size + 1) _ 32 (0, 0) rfl HWH.out _ Try.underlying32 rfl (by kernel_rfl)) rfl ⟨by rw [HRC.out]; rfl, HBL.out⟩
      · have hg0 : 0 ≤ greatestOf life l := by omega
        clear hneg g0
        have HRES := Lib.hid hres
        have HK := Lib.hid hkeep
        have HMAP := Lib.hid hmap
        have HBL := Lib.hid hbel
        clear hres hkeep hmap hbel kM
        have hfile : 0 ≤ greatestOf life l / blocks ∧ greatestOf life l / blocks ≤ 4294967295 ∧ greatestOf life l / blocks * blocks ≤ greatestOf life l := by
          refine ⟨Int.ediv_nonneg hg0 (by omega), ?_, Int.ediv_mul_le _ (by omega)⟩
          have := Int.ediv_le_self blocks hg0
          omega
        obtain ⟨hfile0, hfile1, hfile2⟩ := hfile
        have hbeg0 : 0 ≤ greatestOf life l / blocks * blocks := Int.mul_nonneg hfile0 (by omega)
        go_wp2_with fail
        obtain ⟨n1, n2, n3, n4⟩ := two_new wo (.cells #[.int .i64 (greatestOf life l / blocks * blocks)] 3) (.cells #[.int .i64 0, .int .i64 0, .int .i64 0, .int .i64 0] 32)
        have HNEW1 := Lib.hid n1
        have HNEW2 := Lib.hid n2
        have HS2 := Lib.hid n3
        have HB2 := Lib.hid n4
        clear n1 n2 n3 n4
        revert HNEW1 HNEW2 HB2 HS2
        generalize (wo.alloc (.cells #[.int .i64 (greatestOf life l / blocks * blocks)] 3)).alloc (.cells #[.int .i64 0, .int .i64 0, .int .i64 0, .int .i64 0] 32) = W1
        intro HNEW1 HNEW2 HS2 HB2
        have ht := goUp_le (mayUp (foundOf life l) (greatestOf life l / blocks * blocks) blocks) blocks.toNat (greatestOf life l / blocks * blocks)
        refine (walkUp_any (foundOf life l) (greatestOf life l / blocks * blocks) blocks (greatestOf life l / blocks * blocks) _ blocks.toNat (w.heap.size + 1 + 1) _ _ _ W1 (HMAP.out.below HB2.out) (below_cell HB2.out kF) (by rw [cell_of HNEW1.out]; rfl) (below_cell HB2.out kB) hbeg0 (by omega) hbeg0 (by omega) hb0 hb1 ⟨rfl, fun n hn => mayUp_end _ _ _ _ (by omega)⟩).mono ?_
        rintro e w3 ⟨rfl, hb3⟩
        obtain ⟨ht0, ht1⟩ := ht
        generalize hto : goUp (mayUp (foundOf life l) (greatestOf life l / blocks * blocks) blocks) blocks.toNat (greatestOf life l / blocks * blocks) = to at ht0 ht1
        have HTO := Lib.hid hto
        clear hto
        have hp3 : w3.heap[wo.heap.size + 1]? = some (.cells #[.int .i64 0, .int .i64 0, .int .i64 0, .int .i64 0] 32 (0, 0)) := (hb3.block _ (by rw [HS2.out]; omega)).trans HNEW2.out
        have HB3 := Lib.hid (below_step hb3 HB2.out (Nat.le_refl _))
        clear hb3
        have c1 := cell_of hp3 1
        have f1 := free_of hp3 1
        have hset := setCell_block hp3 1 (.int .i64 to)
        have HP3 := Lib.hid hp3
        have HSET := Lib.hid hset
        clear hp3 hset
        have hs3 := HB3.out.size
        have hM := HMAP.out.lt
        have hwr := HBL.out.size
        have HX : Hid (Keeps (fun x => x = wo.heap.size + 1) w3 (w3.setCell ⟨wo.heap.size + 1, 1, none⟩ (.int .i64 to))) := Keeps.setCell (S := fun x => x = wo.heap.size + 1) (.refl _ _) (fun _ => rfl) _
        have hXp : (w3.setCell ⟨wo.heap.size + 1, 1, none⟩ (.int .i64 to)).heap[wo.heap.size + 1]? = some (.cells #[.int .i64 0, .int .i64 to, .int .i64 0, .int .i64 0] 32 (0, 0)) := by
          rw [HSET.out]; exact setBlock_same (Array.getElem?_eq_some_iff.1 HP3.out).1 _
        have kB3 : (w3.setCell ⟨wo.heap.size + 1, 1, none⟩ (.int .i64 to)).cell? ⟨w.heap.size, 0, none⟩ = some (.int .i64 blocks) := HX.out.cell (below_cell HB3.out kB) (by simp; omega)
        have kF3 : (w3.setCell ⟨wo.heap.size + 1, 1, none⟩ (.int .i64 to)).cell? ⟨w.heap.size + 1 + 1 + 1, 0, none⟩ = some (.map (some (w.heap.size + 1 + 1))) := HX.out.cell (below_cell HB3.out kF) (by have := World.block_lt_of_cell? _ _ kF; simp at this ⊢; omega)
        have cp1 := cell_of hXp 1
        have cp1' : ∀ o, ((w3.setCell ⟨wo.heap.size + 1, 1, none⟩ (.int .i64 to)).alloc o).cell? ⟨wo.heap.size + 1, 1, none⟩ = some (.int .i64 to) := fun o => below_cell (alloc_below _ o) cp1
        have HXP := Lib.hid hXp
        have HKF := Lib.hid kF3
        clear hXp cp1 kF3
        have hq0 : 0 ≤ files := by omega
        have hq1 : 0 ≤ blocks := by omega
        go_wp2_with (go_at_call 10; refine (roldest_any _ _ _ _ hq0 hf1 hq1 hb1 hfile0 hfile1).mono ?_; rintro e w' ⟨rfl, rfl⟩)
        clear kB3 cp1' hq0 hq1
        have hl0' : (0 : Int) ≤ max 0 ((greatestOf life l / blocks - files + 1) * blocks) := Int.le_max_left ..
        have hspan := span_le (q := greatestOf life l / blocks) (blocks := blocks) (files := files) (to := to) (least := max 0 ((greatestOf life l / blocks - files + 1) * blocks)) (by omega) (Int.le_max_right ..) hf1 (by omega) (by omega) hb1
        generalize hle : max 0 ((greatestOf life l / blocks - files + 1) * blocks) = least at hl0' hspan
        have HLE := Lib.hid hle
        clear hle
        have hsX : (w3.setCell ⟨wo.heap.size + 1, 1, none⟩ (.int .i64 to)).heap.size = w3.heap.size := by rw [HSET.out]; simp
        have HSX := Lib.hid hsX
        clear hsX
        revert HX HXP HKF HSX
        generalize w3.setCell ⟨wo.heap.size + 1, 1, none⟩ (.int .i64 to) = X
        intro HX HXP HKF HSX
        have hm4 : IsMap (X.alloc (.cells #[.int .i64 least] 3)) (w.heap.size + 1 + 1) (gvals (foundOf life l)) := ((HMAP.out.below HB3.out).keeps HX.out (by omega)).below (alloc_below _ _)
        have hd := goDown_le (mayDown (foundOf life l) least) (to - least).toNat to
        refine (walkDown_any (foundOf life l) least to _ (to - least).toNat (w.heap.size + 1 + 1) _ _ _ hm4 (below_cell (alloc_below _ _) HKF.out) (by rw [← HSX.out, cell_of (alloc_new _ _)]; rfl) (by omega) (by omega) ⟨rfl, fun n hn => mayDown_end _ _ _ (by omega)⟩).mono ?_
        rintro e w4 ⟨rfl, hb4⟩
        obtain ⟨hd0, hd1⟩ := hd
        generalize hfr : goDown (mayDown (foundOf life l) least) (to - least).toNat to = fr at hd0 hd1
        have HFR := Lib.hid hfr
        have HM4 := Lib.hid (hm4.below hb4)
        clear hfr hm4
        have hbX4 := below_step hb4 (alloc_below X (.cells #[.int .i64 least] 3)) (Nat.le_refl _)
        have hp4 : w4.heap[wo.heap.size + 1]? = some (.cells #[.int .i64 0, .int .i64 to, .int .i64 0, .int .i64 0] 32 (0, 0)) := (hbX4.block _ (by rw [HSX.out]; have := HB3.out.size; have := (Array.getElem?_eq_some_iff.1 HP3.out).1; omega)).trans HXP.out
        have hkf4 := below_cell hbX4 HKF.out
        have HB4 : Hid (Keeps (fun x => x = wo.heap.size + 1) w3 w4) := HX.out.step hbX4
        clear hb4 hbX4
        have c0 := cell_of hp4 0
        have f0 := free_of hp4 0
        have hset4 := setCell_block hp4 0 (.int .i64 fr)
        have HP4 := Lib.hid hp4
        have HSET4 := Lib.hid hset4
        clear hp4 hset4
        have hY : (w4.setCell ⟨wo.heap.size + 1, 0, none⟩ (.int .i64 fr)).heap[wo.heap.size + 1]? = some (.cells #[.int .i64 fr, .int .i64 to, .int .i64 0, .int .i64 0] 32 (0, 0)) := by
          rw [HSET4.out]; exact setBlock_same (Array.getElem?_eq_some_iff.1 HP4.out).1 _
        have y0 := cell_of hY 0
        have y1 := cell_of hY 1
        have HY := Lib.hid hY
        clear hY
        go_wp2_with fail
        have hKY : Keeps (fun x => x = wo.heap.size + 1) w3 (w4.setCell ⟨wo.heap.size + 1, 0, none⟩ (.int .i64 fr)) := HB4.out.setCell (fun _ => rfl) _
        have hMY : IsMap (w4.setCell ⟨wo.heap.size + 1, 0, none⟩ (.int .i64 fr)) (w.heap.size + 1 + 1) (gvals (foundOf life l)) :=
          HM4.out.keeps (S := fun x => x = wo.heap.size + 1) (Keeps.setCell (S := fun x => x = wo.heap.size + 1) (.refl _ _) (fun _ => rfl) _) (by omega)
        have hFY : (w4.setCell ⟨wo.heap.size + 1, 0, none⟩ (.int .i64 fr)).cell? ⟨w.heap.size + 1 + 1 + 1, 0, none⟩ = some (.map (some (w.heap.size + 1 + 1))) :=
          (Keeps.setCell (S := fun x => x = wo.heap.size + 1) (.refl _ _) (fun _ => rfl) _).cell hkf4 (by have := World.block_lt_of_cell? _ _ kF; simp at this ⊢; omega)
        have HKY := Lib.hid hKY
        have HMY := Lib.hid hMY
        have HFY := Lib.hid hFY
        clear hKY hMY hFY y0 y1 HSET4 HP4 hkf4 c0 f0 HM4 HB4
        revert HY HKY HMY HFY
        generalize w4.setCell ⟨wo.heap.size + 1, 0, none⟩ (.int .i64 fr) = Y
        intro HY HKY HMY HFY
        go_loopw [20] (fun x wr => ∃ j : Nat, x = .int .i64 (fr + j) ∧ fr + j ≤ to ∧ Keeps (fun x => x = wo.heap.size + 1) Y wr ∧ Hid (wr.heap[wo.heap.size + 1]? = some (.cells #[.int .i64 fr, .int .i64 to, .int .i64 0, .int .i64 (sumLen (foundOf life l) j fr)] 32 (0, 0)))) (fun x _ => (to - intOf x).toNat)
        case atStart => exact ⟨0, by go_num, by omega, .refl _ _, HY.out⟩
        case round =>
          obtain ⟨j, rfl, hj, hky, hy⟩ := hrel
          have y0 := cell_of hy.out 0
          have y1 := cell_of hy.out 1
          have y3 := cell_of hy.out 3
          have z3 := free_of hy.out 3
          have hFj := hky.cell HFY.out (by have := World.block_lt_of_cell? _ _ kF; simp at this ⊢; omega)
          have hMj := HMY.out.keeps hky (by omega)
          have HKYj := Lib.hid hky
          clear hky
          by_cases hlt2 : fr + j < to
          · have hlk := look_no hMj (fr + j)
            have hv : (at? (foundOf life l) (fr + j)).val = .agg #[.int .i64 (at? (foundOf life l) (fr + j)).life, .int .i64 (at? (foundOf life l) (fr + j)).boot, .int .i64 (at? (foundOf life l) (fr + j)).n, .int .i64 (at? (foundOf life l) (fr + j)).off, .string (S (at? (foundOf life l) (fr + j)).data)] := rfl
            rw [hv] at hlk
            clear hv
            have hdl := HDAT.out (fr + j)
            have hsl := sumLen_le HDAT.out j fr
            obtain ⟨hsl0, hsl1⟩ := hsl
            have hsl2 : sumLen (foundOf life l) j fr ≤ 576460752303423488 := by
              have : (j : Int) * (140737488351232 : Nat) ≤ 4096 * 140737488351232 := Int.mul_le_mul (by omega) (by omega) (by omega) (by omega)
              omega
            clear hsl1
            have hfl := fun a b c d e => bfield4 a b c d e
            have hset := Lib.hid (setCell_block hy.out 3 (.int .i64 (sumLen (foundOf life l) (j + 1) fr)))
            have hsz := (Array.getElem?_eq_some_iff.1 hy.out).1
            have hst := Lib.hid (show sumLen (foundOf life l) (j + 1) fr = sumLen (foundOf life l) j fr + ((at? (foundOf life l) (fr + j)).data.length : Int) from rfl)
            have HMj := Lib.hid hMj
            clear hMj
            go_wp2
            go_roundw
            case rel => exact ⟨j + 1, by go_num, by omega, HKYj.out.setCell (fun _ => rfl) _, by unfold Hid; rw [← hst.out, hset.out]; exact setBlock_same hsz _⟩
            case measure => simp [intOf]; omega
          · have hje : j = (to - fr).toNat := by omega
            have y2 := cell_of hy.out 2
            have HKA : Hid (Keeps (fun x => x = wo.heap.size + 1) w3 wr) := HKY.out.trans HKYj.out
            have HRC : Hid (recover files blocks life l = ⟨fr, to, if fr < to then (at? (foundOf life l) fr).off else 0, sumLen (foundOf life l) j fr⟩) := by
              unfold Hid recover
              dsimp only
              rw [if_neg (by omega), HTO.out, HLE.out, HFR.out, hje]
            have hb1 : wr.heap[w.heap.size + 1]? = some (.cells #[.int .i64 0, .int .i64 0, .int .i64 0, .int .i64 0] 32 (0, 0)) :=
              (HKA.out.block _ (by have := (Array.getElem?_eq_some_iff.1 HRES.out).1; omega) (by have := (Array.getElem?_eq_some_iff.1 HRES.out).1; omega)).trans ((HB3.out.block _ (Array.getElem?_eq_some_iff.1 HRES.out).1).trans HRES.out)
            have hbA : Below w.heap.size w wr := HKA.out.belowOf (HBL.out.trans (HB3.out.mono (by omega))) (by omega) (fun x hx e => by omega)
            by_cases hft : fr < to
            · have hlk := look_no hMj fr
              have hv : (at? (foundOf life l) fr).val = .agg #[.int .i64 (at? (foundOf life l) fr).life, .int .i64 (at? (foundOf life l) fr).boot, .int .i64 (at? (foundOf life l) fr).n, .int .i64 (at? (foundOf life l) fr).off, .string (S (at? (foundOf life l) fr).data)] := rfl
              rw [hv] at hlk
              clear hv
              have hfl := fun a b c d e => bfield3 a b c d e
              have z2 := free_of hy.out 2
              have hset := setCell_block hy.out 2 (.int .i64 (at? (foundOf life l) fr).off)
              have hsz := (Array.getElem?_eq_some_iff.1 hy.out).1
              have hZ : (wr.setCell ⟨wo.heap.size + 1, 2, none⟩ (.int .i64 (at? (foundOf life l) fr).off)).heap[wo.heap.size + 1]? = some (.cells #[.int .i64 fr, .int .i64 to, .int .i64 (at? (foundOf life l) fr).off, .int .i64 (sumLen (foundOf life l) j fr)] 32 (0, 0)) := by
                rw [hset]; exact setBlock_same hsz _
              have x0 := cell_of hZ 0
              have x1 := cell_of hZ 1
              have x2 := cell_of hZ 2
              have x3 := cell_of hZ 3
              have HZ1 : Hid ((wr.setCell ⟨wo.heap.size + 1, 2, none⟩ (.int .i64 (at? (foundOf life l) fr).off)).heap[w.heap.size + 1]? = some (.cells #[.int .i64 0, .int .i64 0, .int .i64 0, .int .i64 0] 32 (0, 0))) := by
                unfold Hid
                rw [hset, setBlock_other _ (by have := (Array.getElem?_eq_some_iff.1 HRES.out).1; omega)]; exact hb1
              have HBZ : Hid (Below w.heap.size w (wr.setCell ⟨wo.heap.size + 1, 2, none⟩ (.int .i64 (at? (foundOf life l) fr).off))) := hbA.setCell (by simp; omega) _
              have HJ := Lib.hid hje
              have HSZ2 := Lib.hid hsz
              clear hset hZ hb1 hbA hMj hje hsz
              go_wp2_with (refine wpList_store_block rfl 32 _ _ rfl (w.heap.size + 1) #[.int .i64 fr, .int .i64 to, .int .i64 (at? (foundOf life l) fr).off, .int .i64 (sumLen (foundOf life l) j fr)] rfl rfl 32 _ HZ1.out (by kernel_rfl) rfl (by simp [Value.oneCell']) ?_)
              exact bodyPost_ret (results_cell2 rfl _ _ (w.heap.size + 1) _ 32 (0, 0) rfl (setBlock_same (Array.getElem?_eq_some_iff.1 HZ1.out).1 _) _ Try.underlying32 rfl (by kernel_rfl)) rfl
                ⟨by rw [HRC.out, if_pos hft]; rfl, (Keeps.setBlock (S := fun x => x = w.heap.size + 1) (.refl _ _) (fun _ => rfl) _).belowOf HBZ.out HBZ.out.size (fun x hx e => by omega)⟩
            · have HH1 := Lib.hid hb1
              have HBZ := Lib.hid hbA
              have HJ := Lib.hid hje
              clear hb1 hbA hMj hje
              go_wp2_with (refine wpList_store_block rfl 32 _ _ rfl (w.heap.size + 1) #[.int .i64 fr, .int .i64 to, .int .i64 0, .int .i64 (sumLen (foundOf life l) j fr)] rfl rfl 32 _ HH1.out (by kernel_rfl) rfl (by simp [Value.oneCell']) ?_)
              exact bodyPost_ret (results_cell2 rfl _ _ (w.heap.size + 1) _ 32 (0, 0) rfl (setBlock_same (Array.getElem?_eq_some_iff.1 HH1.out).1 _) _ Try.underlying32 rfl (by kernel_rfl)) rfl
                ⟨by rw [HRC.out, if_neg (by omega)]; rfl, (Keeps.setBlock (S := fun x => x = w.heap.size + 1) (.refl _ _) (fun _ => rfl) _).belowOf HBZ.out HBZ.out.size (fun x hx e => by omega)⟩
end Go.Proofs.Ytjdmindpiaijcaa
