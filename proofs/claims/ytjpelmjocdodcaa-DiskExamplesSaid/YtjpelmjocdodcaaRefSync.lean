/- sacristanref04: Sync. -/
import Derived.Test.YtjpelmjocdodcaaRefWrite
namespace Go.Proofs.Ytjpelmjocdodcaa
open Go.RowKit Go.ChangeMaps

theorem rstrs_set (L : List (List UInt8)) (a : Nat) (s : List UInt8) : (rdStrs L).toArray.setIfInBounds a (.string (S s)) = (rdStrs (L.set a s)).toArray := by
  unfold rdStrs
  rw [List.map_set, List.setIfInBounds_toArray]
/-- A sector is stored. -/
theorem RefAt.setSec {w : World} {r g sb : Nat} {pv : Value} {D : Dk} (h : RefAt w r g sb pv D) {a : Nat} {s : List UInt8} (hs : s.length = 80) :
    RefAt (w.setCell ⟨sb, a, none⟩ (.string (S s))) r g sb pv ⟨D.S.set a s, D.P, D.full⟩ ∧ Keeps (fun k => k = sb) w (w.setCell ⟨sb, a, none⟩ (.string (S s))) := by
  rw [setCell_block h.sec a (.string (S s)), rstrs_set]
  have k : Keeps (fun k => k = sb) w (setBlock w sb (.cells (rdStrs (D.S.set a s)).toArray 9 (0, 0))) := Keeps.setBlock (S := fun k => k = sb) (.refl _ _) (fun _ => rfl) _
  refine ⟨⟨?_, setBlock_same (Array.getElem?_eq_some_iff.1 h.sec).1 _, row_keeps h.row k (fun j hj e => (h.pn j hj).2.1 e), ?_, h.rs, h.rg, h.sg, h.pn⟩, k⟩
  · show _ = some (Obj.cells #[.slice (some ⟨sb, 0, none⟩) (D.S.set a s).length (D.S.set a s).length, pv, .pointer (some ⟨g, 0, none⟩), .bool D.full] 123 (0, 0))
    rw [List.length_set]
    exact (k.block r (Array.getElem?_eq_some_iff.1 h.blk).1 h.rs).trans h.blk
  · obtain ⟨o1, o2, o3, o4⟩ := h.ok
    refine ⟨by show 1 ≤ (D.S.set a s).length; rw [List.length_set]; exact o1, by show (D.S.set a s).length ≤ _; rw [List.length_set]; exact o2, fun x hx => ?_, fun p hp => by show p.1 < (D.S.set a s).length ∧ _; rw [List.length_set]; exact o4 p hp⟩
    rcases List.mem_or_eq_of_mem_set hx with hx | rfl
    · exact o3 x hx
    · exact hs
/-- The pending writes are forgotten. -/
theorem RefAt.clear {w : World} {r g sb : Nat} {pv : Value} {D : Dk} (h : RefAt w r g sb pv D) :
    RefAt (w.setCell ⟨r, 1, none⟩ (.slice none 0 0)) r g sb (.slice none 0 0) ⟨D.S, [], D.full⟩ ∧ Keeps (fun k => k = r) w (w.setCell ⟨r, 1, none⟩ (.slice none 0 0)) := by
  rw [setCell_block h.blk 1 (.slice none 0 0)]
  obtain ⟨C, hC⟩ : ∃ C : Array Value, (#[.slice (some ⟨sb, 0, none⟩) D.S.length D.S.length, pv, .pointer (some ⟨g, 0, none⟩), .bool D.full] : Array Value).setIfInBounds 1 (.slice none 0 0) = C := ⟨_, rfl⟩
  have hC' : C = #[.slice (some ⟨sb, 0, none⟩) D.S.length D.S.length, .slice none 0 0, .pointer (some ⟨g, 0, none⟩), .bool D.full] := hC.symm
  rw [hC, hC']
  have k : Keeps (fun k => k = r) w (setBlock w r (.cells #[.slice (some ⟨sb, 0, none⟩) D.S.length D.S.length, .slice none 0 0, .pointer (some ⟨g, 0, none⟩), .bool D.full] 123 (0, 0))) := Keeps.setBlock (S := fun k => k = r) (.refl _ _) (fun _ => rfl) _
  refine ⟨⟨setBlock_same (Array.getElem?_eq_some_iff.1 h.blk).1 _, (k.block sb (Array.getElem?_eq_some_iff.1 h.sec).1 (fun e => h.rs e.symm)).trans h.sec, World.ownsRow_nil _ _ _ _, ?_, h.rs, h.rg, h.sg, fun j hj => by simp [Value.ownBlock] at hj⟩, k⟩
  obtain ⟨o1, o2, o3, o4⟩ := h.ok
  exact ⟨o1, o2, o3, fun p hp => by simp at hp⟩
theorem putAll_take (P : List (Nat × List UInt8)) (L : List (List UInt8)) {k : Nat} (hk : k < P.length) : putAll (P.take (k + 1)) L = (putAll (P.take k) L).set P[k].1 P[k].2 := by
  rw [List.take_succ_eq_append_getElem hk, putAll_append]
  rfl
set_option maxRecDepth 100000 in
set_option maxHeartbeats 4000000 in
theorem rdsync_any (r g sb : Nat) (pv : Value) (D : Dk) (z : Fz) (w : World) (h : RefAt w r g sb pv D) (hz : RFzAt w g z) :
    Calls Try.prog 62 #[.pointer (some ⟨r, 0, none⟩)] w fun e w' => e = .returned (.int .i64 (doSync D z).1) ∧ RAfter w w' r g sb pv (doSync D z).2.1 (doSync D z).2.2 := by
  obtain ⟨A, cap, rfl⟩ := ownsRow_is h.row
  have hPl := row_len h.row
  unfold maxLen at hPl
  have HH := Lib.hid h
  have HF := Lib.hid hz
  have c2 := h.c2
  have hlen := h.ok.2.1
  clear h hz
  rcases z.burn_cases with ⟨hb, _⟩ | hb
  · have HE : Hid (doSync D z = (0, D.sync, z.burn.2)) := by unfold Hid doSync; rw [if_pos hb]
    have HB := Lib.hid hb
    clear hb
    go_enter Try.func62, Try.ntmps62
    go_wp2_with (fail)
    refine (rfburn_any g z w HF.out).mono ?_
    rw [HB.out]
    rintro e w1 ⟨rfl, hw1⟩
    have H1 : Hid (RefAt w1 r g sb (.slice A D.P.length cap) ⟨putAll (D.P.take 0) D.S, D.P, D.full⟩) := by unfold Hid; rw [hw1]; exact HH.out.burn _
    have Z1 : Hid (RFzAt w1 g z.burn.2) := by unfold Hid; rw [hw1]; exact HF.out.burned
    have K1 : Hid (Keeps (ROwn r g sb (.slice A D.P.length cap)) w w1) := by unfold Hid; rw [hw1]; exact rkeeps_burn r g sb _ _
    clear hw1 c2
    go_wp2_with (fail)
    go_loopw [4] (fun v4 wr => ∃ k : Nat, k ≤ D.P.length ∧ v4 = .int .i64 k ∧ Hid (RefAt wr r g sb (.slice A D.P.length cap) ⟨putAll (D.P.take k) D.S, D.P, D.full⟩) ∧ Hid (RFzAt wr g z.burn.2) ∧ Hid (Keeps (ROwn r g sb (.slice A D.P.length cap)) w wr)) (fun v4 _ => D.P.length - (intOf v4).toNat)
    case atStart => exact ⟨0, Nat.zero_le _, rfl, H1, Z1, K1⟩
    case round =>
      obtain ⟨k, hk, rfl, hR, hZ, hK⟩ := hrel
      have c0 := hR.out.c0
      have c1 := hR.out.c1
      rw [putAll_length] at c0
      by_cases hlt : k < D.P.length
      · obtain ⟨p, rfl, e0, e0', e1⟩ := RefAt.pend (D := ⟨putAll (D.P.take k) D.S, D.P, D.full⟩) hR.out hlt
        have hPT := putAll_take D.P D.S hlt
        have hpk := HH.out.ok.2.2.2 (D.P[k]) (List.getElem_mem hlt)
        dsimp only at e0 e0' e1
        obtain ⟨⟨a, s⟩, hp⟩ : ∃ x, D.P[k] = x := ⟨_, rfl⟩
        simp only [hp] at e0 e0' e1 hPT hpk
        have ha : a < D.S.length := hpk.1
        have hai : (a : Int) < (D.S.length : Int) := by omega
        have s0 := hR.out.sec_at (i := a) (by show a < (putAll _ _).length; rw [putAll_length]; exact ha)
        have f0 := free_of hR.out.sec a
        have HPT := Lib.hid hPT
        have HS := Lib.hid hpk.2
        have HRD := Lib.hid (hR.out.setSec (a := a) HS.out)
        clear hp hPT hpk
        go_wp2_with (fail)
        go_region
        go_wp2_with (fail)
        have HR2 : Hid (RefAt (wr.setCell ⟨sb, a, none⟩ (.string (S s))).drew r g sb (.slice (some ⟨p, 0, none⟩) D.P.length cap) ⟨putAll (D.P.take (k + 1)) D.S, D.P, D.full⟩) := by
          unfold Hid
          rw [HPT.out]
          exact HRD.out.1.below (Below.refl _ _).drew
        have HZ2 := Lib.hid ((hZ.out.keeps HRD.out.2 (fun e => HH.out.sg e.symm)).below (Below.refl _ (wr.setCell ⟨sb, a, none⟩ (.string (S s)))).drew)
        have HK2 := Lib.hid (hK.out.trans ((HRD.out.2.mono (fun _ _ e => .inr (.inr (.inl e)))).drew))
        go_roundw
        case rel => exact ⟨k + 1, by omega, by go_num, HR2, HZ2, HK2⟩
        case measure => simp [intOf]; omega
      · obtain rfl : k = D.P.length := by omega
        have f1 := free_of hR.out.blk 1
        have HC := Lib.hid hR.out.clear
        go_wp2_with (fail)
        go_ret
        rw [HE.out]
        refine ⟨rfl, .slice none 0 0, ?_, hZ.out.keeps HC.out.2 (fun e => HH.out.rg e.symm), hK.out.trans (HC.out.2.mono (fun _ _ e => .inl e)), fun j hj => by simp [Value.ownBlock] at hj⟩
        have h := HC.out.1
        rw [List.take_of_length_le (Nat.le_refl _)] at h
        exact h
  · have HE : Hid (doSync D z = (10, D, z.burn.2)) := by unfold Hid doSync; rw [if_neg (by rw [hb]; decide), hb]
    have HB := Lib.hid hb
    clear hb
    go_enter Try.func62, Try.ntmps62
    go_wp2_with (fail)
    refine (rfburn_any g z w HF.out).mono ?_
    rw [HB.out]
    rintro e w1 ⟨rfl, rfl⟩
    go_wp2
    go_ret
    rw [HE.out]
    exact ⟨rfl, _, HH.out.burn _, HF.out.burned, rkeeps_burn r g sb _ _, fun _ hk => .inl hk⟩
end Go.Proofs.Ytjpelmjocdodcaa
