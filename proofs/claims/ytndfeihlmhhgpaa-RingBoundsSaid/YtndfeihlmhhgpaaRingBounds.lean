/- sacristanlaw25.RingBounds returns true, whatever its blocks are and in every world. -/
import Derived.Test.YtndfeihlmhhgpaaRingBound
import Derived.Test.YtndfeihlmhhgpaaRingMore
import Derived.Test.YtndfeihlmhhgpaaKnown
import Derived.Test.YtndfeihlmhhgpaaWf
namespace Go.Proofs.Ytndfeihlmhhgpaa
open Go.RowKit

theorem zero_bool (w : World) : (zeroValue 4).run Try.prog w = .ok (.bool false) w := by kernel_rfl
def lenOf (o : Option GB) : Int := match o with
  | some g => (g.data.length : Int)
  | none => 0
set_option maxRecDepth 100000 in
set_option maxHeartbeats 2000000 in
theorem ringBounds_any (a0 a1 : Int) (A : Option Addr) (cap : Nat) (l : List GB) (w : World) (w0 : (Lit.int .u8 a0).wf = true) (w1 : (Lit.int .u8 a1).wf = true) (hl : RowB w A l) (hdat : ∀ g ∈ l, g.data.length ≤ 140737488351232) :
    Calls Try.prog 5 #[.int .u8 a0, .int .u8 a1, .slice A l.length cap] w fun e w' => e = .returned (.bool true) ∧ Below w.heap.size w w' := by
  by_cases h40 : 40 < l.length
  · have h40' : (40 : Int) < (l.length : Int) := by omega
    go_enter Try.func5, Try.ntmps5
    go_wp2_with (go_at_call 20; refine (known25_any _).mono ?_; rintro e w' ⟨rfl, hb⟩)
    go_ret
    exact ⟨rfl, hb⟩
  obtain ⟨u0, u1⟩ := of_u8 w0
  obtain ⟨u2, u3⟩ := of_u8 w1
  obtain ⟨f0, hf0⟩ : ∃ x, a0.tmod 5 = x := ⟨_, rfl⟩
  obtain ⟨b0, hb0⟩ : ∃ x, a1.tmod 6 = x := ⟨_, rfl⟩
  have f1 : 0 ≤ f0 ∧ f0 ≤ 4 := by rw [Int.tmod_eq_emod_of_nonneg u0] at hf0; omega
  have b1 : 0 ≤ b0 ∧ b0 ≤ 5 := by rw [Int.tmod_eq_emod_of_nonneg u2] at hb0; omega
  obtain ⟨f, hf⟩ : ∃ x, 2 + f0 = x := ⟨_, rfl⟩
  obtain ⟨b, hb⟩ : ∃ x, 1 + b0 = x := ⟨_, rfl⟩
  obtain ⟨q1, q2⟩ : 2 ≤ f ∧ f ≤ 64 := by omega
  obtain ⟨q3, q4⟩ : 1 ≤ b ∧ b ≤ 64 := by omega
  clear f1 b1 w0 w1
  have h40' : ¬ (40 : Int) < (l.length : Int) := by omega
  obtain ⟨fr, te, off, hp, h0, h1, h2, h3, hall, hlast⟩ := recover_bounds q1 q2 q3 q4 l
  have HDAT := Lib.hid (at_data (life := 7) hdat)
  have hspan := mul_span q1 q2 q3 q4
  have HP := Lib.hid hp
  have HL := Lib.hid hlast
  have HALL := Lib.hid hall
  have hsl := sumLen_le HDAT.out (te - fr).toNat fr
  obtain ⟨z, hz⟩ : ∃ z, sumLen (foundOf 7 l) (te - fr).toNat fr = z := ⟨_, rfl⟩
  rw [hz] at hp hsl
  have HZ := Lib.hid hz
  clear hz hall hlast
  have hmm := @run_makeMap Try.prog
  go_enter Try.func5, Try.ntmps5
  go_wp2_with (fail)
  refine (recover_ok f b 7 l A cap _ hl (by omega) hdat q1 q2 q3 q4 (by decide) (by decide)).mono ?_
  rw [hp]
  unfold Plc.val
  rintro e wa ⟨rfl, B1⟩
  clear hp
  go_wp2_with (fail)
  obtain ⟨n1, n2, n3, n4⟩ := two_new wa (.cells #[.int .i64 fr, .int .i64 te, .int .i64 off, .int .i64 z] 31) (.map #[] 0)
  have HB4 := Lib.hid (below_step n4 B1 (Nat.le_refl _))
  have kM : IsMap ((wa.alloc (.cells #[.int .i64 fr, .int .i64 te, .int .i64 off, .int .i64 z] 31)).alloc (.map #[] 0)) (wa.heap.size + 1) (usedOf f b fr 0) := ⟨[], 0, by simpa using n2, rfl⟩
  have Q1 := Lib.hid n1
  have HS := Lib.hid n3
  have KM := Lib.hid kM
  have HBS := Lib.hid B1.size
  clear n1 n2 n3 n4 B1 kM
  revert HB4 KM Q1 HS
  generalize (wa.alloc (.cells #[.int .i64 fr, .int .i64 te, .int .i64 off, .int .i64 z] 31)).alloc (.map #[] 0) = W
  intro HB4 Q1 HS KM
  go_loopw [12, 13] (fun v12 v13 wr => ∃ j : Nat, fr + j ≤ te ∧ v13 = .int .i64 (fr + j) ∧ v12 = .int .i64 (sumLen (foundOf 7 l) j fr) ∧ Keeps (· = wa.heap.size + 1) W wr ∧ IsMap wr (wa.heap.size + 1) (usedOf f b fr j)) (fun _ v13 _ => (te - intOf v13).toNat)
  case atStart => exact ⟨0, by omega, by go_num, rfl, .refl _ _, KM.out⟩
  case round =>
    obtain ⟨j, hj, rfl, rfl, hk, hm⟩ := hrel
    obtain ⟨wo, rfl⟩ : ∃ wo : World, wo = wr := ⟨_, rfl⟩
    have c0 : wo.cell? ⟨wa.heap.size, 0, none⟩ = some (.int .i64 fr) := hk.cell (by rw [cell_of Q1.out]; rfl) (by simp)
    have c1 : wo.cell? ⟨wa.heap.size, 1, none⟩ = some (.int .i64 te) := hk.cell (by rw [cell_of Q1.out]; rfl) (by simp)
    have c3 : wo.cell? ⟨wa.heap.size, 3, none⟩ = some (.int .i64 z) := hk.cell (by rw [cell_of Q1.out]; rfl) (by simp)
    have HK := Lib.hid hk
    have HM := Lib.hid hm
    clear hk hm
    by_cases hlt : fr + j < te
    · obtain ⟨hn1, g, hg, hat⟩ := HALL.out (fr + j) (by omega) hlt
      obtain ⟨n, hn⟩ : ∃ n, fr + (j : Int) = n := ⟨_, rfl⟩
      have hn0 : 0 ≤ n := by omega
      obtain ⟨s0, s1⟩ := sector_in q1 q2 q3 q4 (n := n) hn0 (by omega)
      have hnew := used_new q1 q2 q3 q4 h0 j hn1 (by omega)
      have hstep : Hid (usedOf f b fr (j + 1) = mput (usedOf f b fr j) (rSector f b (fr + j)) (.bool true)) := rfl
      have hsum : Hid (sumLen (foundOf 7 l) (j + 1) fr = sumLen (foundOf 7 l) j fr + ((at? (foundOf 7 l) (fr + j)).data.length : Int)) := rfl
      rw [hn] at hnew hstep hsum hg hat hlt hn1 ⊢
      rw [hat] at hsum
      have hgd : g.data.length ≤ 140737488351232 := by
        have := HDAT.out n
        rw [hat] at this
        exact this
      have hck := Lib.hid (rcheck_in q1 q2 q3 q4 hn0 hn1)
      have hlook := HM.out.look Try.underlying39 Try.underlying3 (zero_bool wo) (rSector f b n) false
      rw [hnew] at hlook
      obtain ⟨o, hput, hm2⟩ := HM.out.put Try.underlying39 Try.underlying3 (rSector f b n) (.bool true)
      have hk2 : Keeps (· = wa.heap.size + 1) W (ChangeMaps.setBlock wo (wa.heap.size + 1) o) := HK.out.setBlock (fun _ => rfl) o
      have HN := Lib.hid hn
      have HG := Lib.hid hg
      have HNEW := Lib.hid hnew
      have HM2 := Lib.hid hm2
      have HK2 := Lib.hid hk2
      clear hn hg hnew hm2 hk2 hat
      generalize hsec : rSector f b n = sc at *
      have HSEC := Lib.hid hsec
      clear hsec
      generalize hw2 : ChangeMaps.setBlock wo (wa.heap.size + 1) o = w2 at hput HM2 HK2
      clear hw2
      have hbel2 : Below w.heap.size w w2 := HK2.out.belowOf HB4.out (by rw [HS.out]; have := HBS.out; omega) (fun x hx e => by have := HBS.out; omega)
      go_wp2_with (go_at_call 21; refine (rSector_any _ _ _ _).mono ?_; rw [HSEC.out, hck.out]; rintro e w' ⟨rfl, rfl⟩)
      obtain ⟨sm, hsm⟩ : ∃ x, sumLen (foundOf 7 l) j fr = x := ⟨_, rfl⟩
      have hsb := sumLen_le HDAT.out j fr
      rw [hsm] at hsb hsum ⊢
      have hs0 : 0 ≤ sm := hsb.1
      have hs1 : sm ≤ 576460752303423488 := by
        have h5 : (j : Int) * (140737488351232 : Nat) ≤ 4096 * 140737488351232 := Int.mul_le_mul (by omega) (by omega) (by omega) (by omega)
        omega
      clear hsb hsm hsl
      go_loopw [16, 17, 18] (fun v16 v17 v18 wq => ∃ k : Nat, k ≤ l.length ∧ v18 = .int .i64 k ∧ v16 = .bool (lastOf (l.take k) n).isSome ∧ v17 = .int .i64 (lenOf (lastOf (l.take k) n)) ∧ Keeps (fun _ => False) w2 wq) (fun _ _ v18 _ => l.length - (intOf v18).toNat)
      case atStart => exact ⟨0, by omega, rfl, rfl, rfl, .refl _ _⟩
      case round =>
        obtain ⟨k, hk, rfl, rfl, rfl, hq⟩ := hrel
        have hbq : Below w.heap.size w wr := below_step (hq.below (fun _ _ h => h)) hbel2 (Nat.le_refl _)
        have HQ := Lib.hid hq
        clear hq
        by_cases hlt2 : k < l.length
        · obtain ⟨ad, rfl, r0, r1, r2, r3, r4⟩ := (hl.below hbq) k hlt2
          have hlt2' : (k : Int) < (l.length : Int) := by omega
          have hst := Lib.hid (lastOf_take l n k hlt2)
          by_cases h7 : l[k].life = 7
          · by_cases hnn : l[k].n = n
            · have H7 := Lib.hid (And.intro h7 hnn)
              have hdl : l[k].data.length ≤ 140737488351232 := hdat _ (List.getElem_mem hlt2)
              go_wp2
              go_region
              go_wp2
              go_roundw
              case rel => exact ⟨k + 1, by omega, by go_num, by rw [hst.out, if_pos H7.out]; rfl, by rw [hst.out, if_pos H7.out]; rfl, HQ.out.drew⟩
              case measure => simp [intOf]; omega
            · have hnn' : (l[k].n == n) = false := by rw [beq_eq_false_iff_ne]; exact hnn
              have HNN := Lib.hid hnn
              clear hnn
              go_wp2
              go_roundw
              case rel => exact ⟨k + 1, by omega, by go_num, by rw [hst.out, if_neg (fun h => HNN.out h.2)], by rw [hst.out, if_neg (fun h => HNN.out h.2)], HQ.out⟩
              case measure => simp [intOf]; omega
          · have h7' : (l[k].life == 7) = false := by rw [beq_eq_false_iff_ne]; exact h7
            have H7 := Lib.hid h7
            clear h7
            go_wp2
            go_roundw
            case rel => exact ⟨k + 1, by omega, by go_num, by rw [hst.out, if_neg (fun h => H7.out h.1)], by rw [hst.out, if_neg (fun h => H7.out h.1)], HQ.out⟩
            case measure => simp [intOf]; omega
        · have hkl : k = l.length := by omega
          have hlast : lastOf (l.take k) n = some g := by rw [hkl, List.take_length]; exact HG.out
          rw [hlast]
          have hgl : lenOf (some g) = (g.data.length : Int) := rfl
          rw [hgl]
          go_wp2
          go_roundw
          case rel => exact ⟨j + 1, by have := HN.out; omega, by have := HN.out; congr 1; omega, by rw [hsum.out], HK2.out.trans (HQ.out.mono (fun _ _ h => h.elim)), by rw [hstep.out]; exact HM2.out.keeps HQ.out (fun h => h)⟩
          case measure => simp [intOf]; omega
    · have hje : j = (te - fr).toNat := by omega
      have hbl : Below w.heap.size w wo := HK.out.belowOf HB4.out (by rw [HS.out]; have := HBS.out; omega) (fun x hx e => by have := HBS.out; omega)
      have hz2 : sumLen (foundOf 7 l) j fr = z := by rw [hje, HZ.out]
      rw [hz2]
      have HBL := Lib.hid hbl
      clear hje hbl hsl hz2
      by_cases hft : fr < te
      · have hdv := HL.out hft
        obtain ⟨d1, hd1⟩ : ∃ x, (te - 1) / b = x := ⟨_, rfl⟩
        obtain ⟨d2, hd2⟩ : ∃ x, fr / b = x := ⟨_, rfl⟩
        have d10 : 0 ≤ d1 ∧ d1 ≤ te - 1 := by rw [← hd1]; exact ⟨Int.ediv_nonneg (by omega) (by omega), Int.ediv_le_self _ (by omega)⟩
        have d20 : 0 ≤ d2 ∧ d2 ≤ fr := by rw [← hd2]; exact ⟨Int.ediv_nonneg (by omega) (by omega), Int.ediv_le_self _ (by omega)⟩
        rw [hd1, hd2] at hdv
        have hdv' : ¬ f ≤ d1 - d2 := by omega
        clear h2 hspan HDAT HP HALL
        go_wp2
        go_region
        go_wp2_with (go_at_call 20; refine (known25_any _).mono ?_; rintro e5 we ⟨rfl, B5⟩)
        go_ret
        exact ⟨rfl, below_step B5 HBL.out.drew (Nat.le_refl _)⟩
      · obtain rfl : fr = te := by omega
        clear h2 hspan HDAT HP HALL
        go_wp2
        go_region
        go_wp2_with (go_at_call 20; refine (known25_any _).mono ?_; rintro e5 we ⟨rfl, B5⟩)
        go_ret
        exact ⟨rfl, below_step B5 HBL.out.drew (Nat.le_refl _)⟩
end Go.Proofs.Ytndfeihlmhhgpaa
