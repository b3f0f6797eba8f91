/- RecordReads. -/
import Derived.Test.YtjpelmjocdodcaaRecLay
import Derived.Test.YtjpelmjocdodcaaRefRead
import Derived.Test.YtjpelmjocdodcaaKnown06
namespace Go.Proofs.Ytjpelmjocdodcaa
open Go.RowKit Go.ChangeMaps

theorem readVal_is (D : Dk) (z : Fz) (a n lsn boot : Int) : ∃ (c0 c1 c2 c3 c4 er : Int) (t : List UInt8), readVal D z a n lsn boot = .tuple #[.agg #[.int .i64 c0, .int .i64 c1, .int .i64 c2, .int .i64 c3, .int .u8 c4, .string (S t)], .int .i64 er] := by
  unfold readVal
  split
  · cases recRead D.read a.toNat n.toNat lsn boot with
    | none => exact ⟨_, _, _, _, _, _, [], rfl⟩
    | some f => exact ⟨_, _, _, _, _, _, _, rfl⟩
  · exact ⟨_, _, _, _, _, _, [], rfl⟩
set_option maxRecDepth 100000 in
set_option maxHeartbeats 8000000 in
theorem recordReads_any (n : Nat) (hn : n < 256) (A : Option Addr) (cap : Nat) (l : List RPut) (en lsn boot : Int) (w : World) (hp : RPutsAt w A l) :
    Calls Try.prog 14 #[.int .u8 n, .slice A l.length cap, .int .i64 en, .int .i64 lsn, .int .i64 boot] w fun e w' => e = .returned (.bool true) ∧ Below w.heap.size w w' := by
  have HO := Lib.hid (fun W : World => known06_any W)
  by_cases h20 : 20 < l.length
  · have h20' : (20 : Int) < (l.length : Int) := by omega
    go_enter Try.func14, Try.ntmps14
    go_wp2_with (go_at_call 38; refine (HO.out _).mono ?_; rintro e w2 ⟨rfl, bk⟩)
    go_ret
    exact ⟨rfl, bk⟩
  have h20' : ¬ (20 : Int) < (l.length : Int) := by omega
  have HPS := Lib.hid hp
  obtain ⟨q, hq⟩ : ∃ q, n % 16 + 1 = q := ⟨_, rfl⟩
  have hqi : (n : Int) % 16 + 1 = (q : Int) := by omega
  have hqj : (n : Int) % 16 + 2 = (q : Int) + 1 := by omega
  have hq16 : 1 ≤ q ∧ q ≤ 16 := by omega
  have HQ := Lib.hid hq16
  have hqb : (q : Int) ≤ 16 := by omega
  clear hp hq hq16
  go_enter Try.func14, Try.ntmps14
  go_wp2_with (fail)
  go_loop [11] (fun v11 => ∃ i : Nat, i ≤ l.length ∧ v11 = .int .i64 i ∧ Hid (∀ j (h : j < l.length), j < i → l[j].data.length ≤ 400)) (fun v11 => l.length - (intOf v11).toNat)
  case atStart => exact ⟨0, Nat.zero_le _, rfl, fun j _ hj => absurd hj (by omega)⟩
  case round =>
    obtain ⟨i, hi, rfl, hA⟩ := hrel
    by_cases hlt : i < l.length
    · obtain ⟨ad, rfl, ha, hb, hlsn, hk, hc, c0, c1, c2, c3, c4, c5⟩ := HPS.out i hlt
      by_cases hd : l[i].data.length ≤ 400
      · have hdi : ¬ (400 : Int) < (l[i].data.length : Int) := by omega
        have HA2 : Hid (∀ j (h : j < l.length), j < i + 1 → l[j].data.length ≤ 400) := fun j h hj => by
          by_cases e : j = i
          · subst e; exact hd
          · exact hA.out j h (by omega)
        clear hA hd c0 c1 c2 c3 c5
        go_wp2_with (fail)
        go_round
        case rel => exact ⟨i + 1, hlt, by go_num, HA2⟩
        case measure => simp [intOf]; omega
      · have hdi : (400 : Int) < (l[i].data.length : Int) := by omega
        clear hA hd c0 c1 c2 c3 c5
        go_wp2_with (go_at_call 38; refine (HO.out _).mono ?_; rintro e w2 ⟨rfl, bk⟩)
        go_ret
        exact ⟨rfl, bk⟩
    · have hil : i = l.length := by omega
      subst hil
      have H400 : Hid (∀ p ∈ l, p.data.length ≤ 400) := fun p hp => by
        obtain ⟨j, hj, rfl⟩ := List.getElem_of_mem hp
        exact hA.out j hj hj
      clear hA hi hlt
      go_wp2_with (fail)
      refine (newboth_ok q w HQ.out.1 (by have := HQ.out.2; omega)).mono ?_
      rintro e w1 ⟨x, d, f, m, v, r, g, sb, pv, rfl, hB⟩
      have hlay := lay_any w w1 x d f m v r g sb pv _ _ hB (by show 0 ≤ 0; omega) A cap l HPS.out (by omega) H400.out
      clear hB
      go_wp2_with (fail)
      refine hlay.mono ?_
      rintro e w2 ⟨rfl, hB2⟩
      obtain ⟨v2, pv2, D, z, hB, hPl⟩ := hB2
      have HB2 := Lib.hid hB
      have HPL := Lib.hid hPl
      clear hB hPl hlay
      go_wp2_with (fail)
      go_loopw [13] (fun v13 wr => ∃ at_ : Int, -1 ≤ at_ ∧ at_ ≤ (q : Int) + 2 ∧ v13 = .int .i64 at_ ∧ Hid (BothAt w wr x d f m v2 r g sb pv2 D z D z)) (fun v13 _ => ((q : Int) + 2 - intOf v13).toNat)
      case atStart => exact ⟨-1, by omega, by omega, rfl, HB2.out⟩
      case round =>
        obtain ⟨at_, ha1, ha2, rfl, hB⟩ := hrel
        by_cases hat : at_ ≤ (q : Int) + 1
        · obtain ⟨wo, rfl⟩ : ∃ wo : World, wo = wr := ⟨_, rfl⟩
          go_wp2_with (fail)
          go_loopw [14] (fun v14 wr => ∃ k : Nat, k ≤ 4 ∧ v14 = .int .i64 k ∧ Hid (BothAt w wr x d f m v2 r g sb pv2 D z D z)) (fun v14 _ => 4 - (intOf v14).toNat)
          case atStart => exact ⟨0, by omega, rfl, hB.out⟩
          case round =>
            obtain ⟨k, hk, rfl, hB2⟩ := hrel
            by_cases hk4 : k < 4
            · have cx1 := hB2.out.x1
              obtain ⟨ek, hek⟩ : ∃ ek, wrap64 (en - (k : Int)) = ek := ⟨_, rfl⟩
              obtain ⟨a0, a1, a2, a3, a4, er, t, hrv⟩ := readVal_is D z at_ ek lsn boot
              have hr1 := read_any d f m v2 D z at_ ek lsn boot wr hB2.out.lab
              rw [hrv] at hr1
              have HR2 : Hid (∀ W, RefAt W r g sb pv2 D → RFzAt W g z → Calls Try.prog 49 #[.pointer (some ⟨r, 0, none⟩), .int .i64 at_, .int .i64 ek, .int .i64 lsn, .int .i64 boot] W fun e w' => e = .returned (.tuple #[.agg #[.int .i64 a0, .int .i64 a1, .int .i64 a2, .int .i64 a3, .int .u8 a4, .string (S t)], .int .i64 er]) ∧ Below W.heap.size W w') := fun W h1 h2 => by
                have := rread_any r g sb pv2 D z at_ ek lsn boot W h1 h2
                rw [hrv] at this
                exact this
              have HBB := Lib.hid hB2.out
              clear hrv hB2
              go_wp2_with (fail)
              refine hr1.mono ?_
              rintro e w3 ⟨rfl, b3⟩
              have n4 := alloc_new w3 (.cells #[.int .i64 a0, .int .i64 a1, .int .i64 a2, .int .i64 a3, .int .u8 a4, .string (S t)] 77)
              have b4 := below_step (alloc_below w3 (.cells #[.int .i64 a0, .int .i64 a1, .int .i64 a2, .int .i64 a3, .int .u8 a4, .string (S t)] 77)) b3 (Nat.le_refl _)
              go_upto_region 18 with (fail)
              obtain ⟨w4, hw4⟩ : ∃ w4, w3.alloc (.cells #[.int .i64 a0, .int .i64 a1, .int .i64 a2, .int .i64 a3, .int .u8 a4, .string (S t)] 77) = w4 := ⟨_, rfl⟩
              rw [hw4] at n4 b4 ⊢
              have HB4 := Lib.hid (HBB.out.below b4)
              have N4 := Lib.hid n4
              clear b3 b4 n4 hw4 hr1 cx1 HBB
              have cx3 := HB4.out.x3
              go_wp2_with (fail)
              refine (HR2.out _ HB4.out.rat HB4.out.rfz).mono ?_
              rintro e w5 ⟨rfl, b5⟩
              have n6 := alloc_new w5 (.cells #[.int .i64 a0, .int .i64 a1, .int .i64 a2, .int .i64 a3, .int .u8 a4, .string (S t)] 77)
              have b6 := below_step (alloc_below w5 (.cells #[.int .i64 a0, .int .i64 a1, .int .i64 a2, .int .i64 a3, .int .u8 a4, .string (S t)] 77)) b5 (Nat.le_refl _)
              have n4' := (b6.block _ (Array.getElem?_eq_some_iff.1 N4.out).1).trans N4.out
              have i0 := (cell_of n6 0).trans rfl
              have i1 := (cell_of n6 1).trans rfl
              have i2 := (cell_of n6 2).trans rfl
              have i3 := (cell_of n6 3).trans rfl
              have i4 := (cell_of n6 4).trans rfl
              have i5 := (cell_of n6 5).trans rfl
              have j0 := (cell_of n4' 0).trans rfl
              have j1 := (cell_of n4' 1).trans rfl
              have j2 := (cell_of n4' 2).trans rfl
              have j3 := (cell_of n4' 3).trans rfl
              have j4 := (cell_of n4' 4).trans rfl
              have j5 := (cell_of n4' 5).trans rfl
              have HE := Lib.hid (HB4.out.below b6)
              clear b5 b6 n6 n4' N4 HB4 cx3 HR2 hek
              go_wp2_with (fail)
              go_roundw
              case rel => exact ⟨k + 1, hk4, by go_num, HE.out⟩
              case measure => simp [intOf]; omega
            · have hk4' : k = 4 := by omega
              subst hk4'
              go_wp2_with (fail)
              go_roundw
              case rel => exact ⟨at_ + 1, by omega, by omega, rfl, hB2.out⟩
              case measure => simp [intOf]; omega
        · have hgt : (q : Int) + 1 < at_ := by omega
          have HS : Hid (Calls Try.prog 37 #[.pointer (some ⟨x, 0, none⟩)] wr fun e w' => e = .returned (.bool true) ∧ Below wr.heap.size wr w') := same_any w wr x d f m v2 r g sb pv2 D z hB.out (by have := HPL.out; omega)
          go_wp2_with (fail)
          refine HS.out.mono ?_
          rintro e w9 ⟨rfl, b9⟩
          have HB9 := Lib.hid (hB.out.below b9)
          clear b9 HS
          go_wp2_with (fail)
          refine (HO.out _).mono ?_
          rintro e w10 ⟨rfl, bk⟩
          have HB10 := Lib.hid (HB9.out.below bk)
          clear bk
          go_wp2_with (fail)
          go_ret
          exact ⟨rfl, HB10.out.bel⟩
theorem recordReads_row (a0 : Int) (a1 : Option Addr) (c1 : Nat) (z1 : List RPut) (a2 a3 a4 : Int) (W : World) (w0 : (Lit.int .u8 a0).wf = true) (w1 : RPutsAt W a1 z1) (_w2 : (Lit.int .i64 a2).wf = true) (_w3 : (Lit.int .i64 a3).wf = true) (_w4 : (Lit.int .i64 a4).wf = true) :
    Calls Try.prog 14 #[.int .u8 a0, .slice a1 z1.length c1, .int .i64 a2, .int .i64 a3, .int .i64 a4] W fun e W' => e = .returned (.bool true) ∧ Below W.heap.size W W' := by
  obtain ⟨n, rfl, hn⟩ := u8_natq w0
  exact recordReads_any n hn a1 c1 z1 a2 a3 a4 W w1
end Go.Proofs.Ytjpelmjocdodcaa
