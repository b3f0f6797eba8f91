/- DiskDoes. -/
import Derived.Test.YtjpelmjocdodcaaBothAct
import Derived.Test.YtjpelmjocdodcaaRowD
namespace Go.Proofs.Ytjpelmjocdodcaa
open Go.RowKit Go.ChangeMaps

set_option maxRecDepth 100000 in
set_option maxHeartbeats 8000000 in
theorem diskDoes_any (n : Nat) (hn : n < 256) (A : Option Addr) (cap : Nat) (l : List Act4) (w : World) (hp : Acts4At w A l) :
    Calls Try.prog 8 #[.int .u8 n, .slice A l.length cap] w fun e w' => e = .returned (.bool true) ∧ Below w.heap.size w w' := by
  have HO := Lib.hid (fun W : World => known04_any W)
  by_cases h120 : 120 < l.length
  · have h120' : (120 : Int) < (l.length : Int) := by omega
    go_enter Try.func8, Try.ntmps8
    go_wp2_with (go_at_call 16; refine (HO.out _).mono ?_; rintro e w2 ⟨rfl, bk⟩)
    go_ret
    exact ⟨rfl, bk⟩
  have h120' : ¬ (120 : Int) < (l.length : Int) := by omega
  have HPS := Lib.hid hp
  obtain ⟨q, hq⟩ : ∃ q, n % 12 + 1 = q := ⟨_, rfl⟩
  have hqi : (n : Int) % 12 + 1 = (q : Int) := by omega
  have hq12 : 1 ≤ q ∧ q ≤ 12 := by omega
  have HQ := Lib.hid hq12
  clear hp hq hq12
  go_enter Try.func8, Try.ntmps8
  go_wp2_with (fail)
  refine (newboth_ok q w HQ.out.1 (by have := HQ.out.2; omega)).mono ?_
  rintro e w1 ⟨x, d, f, m, v, r, g, sb, pv, rfl, hB⟩
  have HB1 : Hid (∃ d f m v pv D z, BothAt w w1 x d f m v r g sb pv D z D z ∧ D.P.length ≤ 0) := ⟨_, _, _, _, _, _, _, hB, by show 0 ≤ 0; omega⟩
  clear hB hqi
  go_wp2_with (fail)
  go_loopw [6] (fun v6 wr => ∃ i : Nat, i ≤ l.length ∧ v6 = .int .i64 i ∧ Hid (∃ d f m v pv D z, BothAt w wr x d f m v r g sb pv D z D z ∧ D.P.length ≤ i)) (fun v6 _ => l.length - (intOf v6).toNat)
  case atStart => exact ⟨0, Nat.zero_le _, rfl, HB1.out⟩
  case round =>
    obtain ⟨i, hi, rfl, hr⟩ := hrel
    by_cases hlt : i < l.length
    · obtain ⟨d, f, m, v, pv, D, z, hB, hPl⟩ := hr.out
      obtain ⟨ad, rfl, hd, hb, hk, c0, c1, c2, c3, c4, c5⟩ := (HPS.out.below hB.bel) i hlt
      obtain ⟨⟨ac, k, b, keep, torn, bytes⟩, hp⟩ : ∃ p, l[i] = p := ⟨_, rfl⟩
      rw [hp] at hd hb hk c0 c1 c2 c3 c4 c5
      dsimp only at hd hb hk c0 c1 c2 c3 c4 c5
      have hac := act_any w wr x d f m v r g sb pv D z hB (by omega) ac k b keep torn bytes hk hb
      have hl120 : i < 120 := by omega
      clear hr hp hB
      go_wp2_with (fail)
      refine hac.mono ?_
      rintro e w3 ⟨rfl, hR⟩
      obtain ⟨d2, f2, m2, v2, pv2, D2, z2, hB2, hP2⟩ := hR
      have HE : Hid (BothAt w w3 x d2 f2 m2 v2 r g sb pv2 D2 z2 D2 z2 ∧ D2.P.length ≤ i + 1) := ⟨hB2, by omega⟩
      clear hB2 hP2 hac c0 c1 c2 c3 c4 c5
      go_wp2_with (fail)
      refine (same_any w _ x d2 f2 m2 _ r g sb _ _ _ HE.out.1 (by have := HE.out.2; omega)).mono ?_
      rintro e w9 ⟨rfl, b9⟩
      have HF := Lib.hid (HE.out.1.below b9)
      clear b9
      go_wp2_with (fail)
      go_roundw
      case rel => exact ⟨i + 1, hlt, by go_num, _, _, _, _, _, _, _, HF.out, HE.out.2⟩
      case measure => simp [intOf]; omega
    · have hil : i = l.length := by omega
      obtain ⟨d, f, m, v, pv, D, z, hB, hPl⟩ := hr.out
      have HB := Lib.hid hB
      have HPl := Lib.hid hPl
      subst hil
      clear hB hr hPl
      go_wp2_with (fail)
      refine (same_any w _ x d f m _ r g sb _ _ _ HB.out (by have := HPl.out; omega)).mono ?_
      rintro e w9 ⟨rfl, b9⟩
      have HF := Lib.hid (HB.out.below b9)
      clear b9
      go_wp2_with (fail)
      refine (HO.out _).mono ?_
      rintro e w10 ⟨rfl, bk⟩
      have HB10 := Lib.hid (HF.out.below bk)
      clear bk
      go_wp2_with (fail)
      go_ret
      exact ⟨rfl, HB10.out.bel⟩
theorem diskDoes_row (a0 : Int) (a1 : Option Addr) (c1 : Nat) (z1 : List Act4) (W : World) (w0 : (Lit.int .u8 a0).wf = true) (w1 : Acts4At W a1 z1) :
    Calls Try.prog 8 #[.int .u8 a0, .slice a1 z1.length c1] W fun e W' => e = .returned (.bool true) ∧ Below W.heap.size W W' := by
  obtain ⟨n, rfl, hn⟩ := u8_nat4 w0
  exact diskDoes_any n hn a1 c1 z1 W w1
end Go.Proofs.Ytjpelmjocdodcaa
