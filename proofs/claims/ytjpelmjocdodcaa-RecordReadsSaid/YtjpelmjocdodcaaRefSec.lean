/- sacristanref06.Parts, Sectors. -/
import Derived.Test.YtjpelmjocdodcaaRecSec
import Derived.Test.YtjpelmjocdodcaaDiskNew
namespace Go.Proofs.Ytjpelmjocdodcaa
open Go.RowKit Go.ChangeMaps

set_option maxHeartbeats 1000000 in
theorem rparts_any (n : Int) (w : World) :
    Calls Try.prog 40 #[.int .i64 n] w fun e w' => e = .returned (.tuple #[.int .i64 (partsOf n).1, .int .i64 (partsOf n).2]) ∧ w' = w := by
  by_cases h0 : n < 0
  · unfold partsOf
    rw [if_pos h0]
    go_enter Try.func40, Try.ntmps40
    go_wp2
    go_ret2
    exact ⟨rfl, rfl⟩
  · by_cases h1 : 4096 < n
    · unfold partsOf
      rw [if_neg h0, if_pos h1]
      go_enter Try.func40, Try.ntmps40
      go_wp2
      go_ret2
      exact ⟨rfl, rfl⟩
    · unfold partsOf
      rw [if_neg h0, if_neg h1]
      have hp := parts_val (n := n) (by omega) (by omega)
      go_enter Try.func40, Try.ntmps40
      go_wp2
      go_ret2
      exact ⟨by rw [← hp]; rfl, rfl⟩
/-- The first k sectors. -/
def secUp (boot lsn kind : Int) (t : List UInt8) (k : Nat) : List (List UInt8) := (List.range k).map fun (j : Nat) => (fencOf boot lsn j (npart t.length : Nat) kind (rpiece t j)).1
theorem secUp_len (boot lsn kind : Int) (t : List UInt8) (k : Nat) : (secUp boot lsn kind t k).length = k := by simp [secUp]
theorem secUp_succ (boot lsn kind : Int) (t : List UInt8) (k : Nat) : secUp boot lsn kind t (k + 1) = secUp boot lsn kind t k ++ [(fencOf boot lsn k (npart t.length : Nat) kind (rpiece t k)).1] := by simp [secUp, List.range_succ]
theorem secUp_done {boot lsn kind : Int} {t : List UInt8} (ht : t.length ≤ 4096) (h : ROk boot lsn) : recSecs boot lsn kind t = (secUp boot lsn kind t (npart t.length), 0) := by
  rw [recSecs_ok ht h]
  unfold secUp
  congr 1
  refine List.map_congr_left fun k hk => ?_
  rw [fencOf_piece ht (List.mem_range.1 hk), if_pos h]
set_option maxRecDepth 100000 in
set_option maxHeartbeats 4000000 in
theorem rsectors_any (boot lsn kind : Int) (hkd : 0 ≤ kind ∧ kind < 256) (t : List UInt8) (ht : t.length ≤ 1000000) (w : World) :
    Calls Try.prog 42 #[.int .i64 boot, .int .i64 lsn, .int .u8 kind, .string (S t)] w (SecsR w (recSecs boot lsn kind t).1 (recSecs boot lsn kind t).2) := by
  by_cases h : 4096 < t.length
  · have hp : partsOf t.length = (0, 5) := by unfold partsOf; rw [if_neg (by omega), if_pos (by omega)]
    rw [recSecs_long h]
    go_enter Try.func42, Try.ntmps42
    go_wp2_with (go_at_call 40; refine (rparts_any _ _).mono ?_; rw [hp]; rintro e w' ⟨rfl, rfl⟩)
    go_ret2
    exact ⟨none, 0, rfl, World.ownsRow_nil _ _ _ _, .refl _ _, fun k hk => by simp [Value.ownBlock] at hk⟩
  · have hle : t.length ≤ 4096 := by omega
    have hp : partsOf t.length = (((npart t.length : Nat) : Int), 0) := by unfold partsOf; rw [if_neg (by omega), if_neg (by omega), Int.toNat_natCast]
    have hn94 := npart_le hle
    have hn1 := npart_pos t.length
    obtain ⟨N, hN⟩ : ∃ N, npart t.length = N := ⟨_, rfl⟩
    have hNt : ∀ k, k < N → 44 * k ≤ t.length := fun k hk => by rw [← hN] at hk; unfold npart at hk; omega
    have HN := Lib.hid hN
    have HNT := Lib.hid hNt
    rw [hN] at hp hn94 hn1
    clear hN hNt
    go_enter Try.func42, Try.ntmps42
    go_wp2_with (go_at_call 40; refine (rparts_any _ _).mono ?_; rw [hp]; rintro e w' ⟨rfl, rfl⟩)
    clear hp
    obtain ⟨wo, rfl⟩ : ∃ wo : World, wo = w' := ⟨_, rfl⟩
    go_loopw [12, 13] (fun v12 v13 wr => ∃ k : Nat, k ≤ N ∧ v13 = .int .i64 k ∧ Hid (0 < k → ROk boot lsn) ∧ Hid (wr.ownsRow 0 9 1 v12 k (rstrs (secUp boot lsn kind t k))) ∧ Hid (Below wo.heap.size wo wr) ∧ Hid (∀ j, v12.ownBlock = some j → wo.heap.size ≤ j)) (fun _ v13 _ => N - (intOf v13).toNat)
    case atStart => exact ⟨0, Nat.zero_le _, rfl, fun h0 => absurd h0 (by omega), World.ownsRow_nil _ _ _ _, .refl _ _, fun k hk => by simp [Value.ownBlock] at hk⟩
    case round =>
      obtain ⟨k, hk, rfl, hE, hR, hB, hF⟩ := hrel
      by_cases hlt : k < N
      · obtain ⟨e, he⟩ : ∃ e : Nat, min (44 * k + 44) t.length = e := ⟨_, rfl⟩
        have hkn : (k:Int) < 94 := by omega
        have h44 := HNT.out k hlt
        obtain ⟨a, ha⟩ : ∃ a : Nat, 44 * k = a := ⟨_, rfl⟩
        have hmul : (k : Int) * 44 = (a : Int) := by omega
        rw [ha] at h44 he
        have hmin : min ((a : Int) + 44) (t.length : Int) = (e : Int) := by omega
        have hae : a ≤ e := by omega
        have hel : e ≤ t.length := by omega
        have hx : (S t).extract a e = S (rpiece t k) := by
          rw [S_extract]
          congr 1
          unfold rpiece
          rw [ha, ← he]
          by_cases hc : a + 44 ≤ t.length
          · rw [show min (a + 44) t.length = a + 44 by omega]
          · rw [show min (a + 44) t.length = t.length by omega, List.take_of_length_le (Nat.le_refl _), List.take_of_length_le (by omega)]
        have hfe := fencOf_piece (boot := boot) (lsn := lsn) (kind := kind) hle (k := k) (by rw [HN.out]; exact hlt)
        rw [HN.out] at hfe
        have hC := frEncode_any boot lsn k (N : Nat) kind (rpiece t k) wr hkd
        unfold fval at hC
        obtain ⟨⟨sx, er⟩, hxx⟩ : ∃ p, fencOf boot lsn k (N : Nat) kind (rpiece t k) = p := ⟨_, rfl⟩
        rw [hxx] at hC hfe
        have HXX := Lib.hid hxx
        have HFE := Lib.hid hfe
        clear hfe hxx ha he
        dsimp only at hC
        go_wp2_with (fail)
        refine hC.mono ?_
        rintro e2 w2 ⟨rfl, bb⟩
        clear hC
        by_cases hok : ROk boot lsn
        · obtain ⟨hs1, rfl⟩ : sx = (recF boot lsn kind t k).sec ∧ er = 0 := by have := HFE.out; rw [if_pos hok] at this; exact Prod.mk.inj this
          have hEQ : Hid (rstrs (secUp boot lsn kind t (k + 1)) = rstrs (secUp boot lsn kind t k) ++ [.string (S sx)]) := by
            unfold Hid
            rw [secUp_succ, HN.out, HXX.out]
            unfold rstrs
            rw [List.map_append]
            rfl
          have HOK := Lib.hid hok
          clear hs1 hok
          have n7 := alloc_new w2 (.cells #[.string (S sx)] 9)
          have b7 := alloc_below w2 (.cells #[.string (S sx)] 9)
          have b67 : Below _ _ (w2.alloc (.cells #[.string (S sx)] 9)) := below_step b7 bb (Nat.le_refl _)
          have ho7 := row_keeps (S := fun _ => False) hR.out (.of_below b67) (fun _ _ => id)
          obtain ⟨v', w8, hrun, hown, hgr, hat⟩ := append_run (P := Try.prog) _ 25 25 9 (.string ⟨#[]⟩) 1 16 Try.underlying25 (by kernel_rfl) rfl (by decide) u12 k _ ho7
            ⟨w2.heap.size, 0, none⟩ 1 1 [.string (S sx)] rfl (fun j u hu => by rw [cell_at n7, Nat.zero_add]; simpa using hu) (fun u hu => by simp at hu; rcases hu with rfl; rfl) (by unfold maxLen; omega) (by omega)
          obtain ⟨A', cap', rfl⟩ := ownsRow_is hown
          have HB8 := Lib.hid (grown_below (below_step b67 hB.out (Nat.le_refl _)) hgr (Nat.le_trans hB.out.size b67.size) hF.out)
          have HF8 : Hid (∀ j, (Value.slice A' (k + 1) cap').ownBlock = some j → wo.heap.size ≤ j) := fun j hj => by
            rcases hat with hat | hat
            · exact hF.out j (hat.symm.trans hj)
            · rw [hat] at hj
              injection hj with hj
              have h1 := hB.out.size
              have h2 := b67.size
              omega
          have HO8 : Hid (w8.ownsRow 0 9 1 (.slice A' (k + 1) cap') (k + 1) (rstrs (secUp boot lsn kind t (k + 1)))) := by
            unfold Hid
            rw [hEQ.out]
            exact hown
          have HRUN := Lib.hid hrun
          clear hrun n7 b7 hgr hat hown b67 bb ho7 hEQ
          go_wp2_with (at_builtin; refine wpList_append_eq rfl (.tmp 56) (.tmp 58) 25 rfl _ _ rfl rfl _ _ HRUN.out ?_)
          go_roundw
          case rel => exact ⟨k + 1, hlt, by go_num, fun _ => HOK.out, HO8, HB8, HF8⟩
          case measure => simp [intOf]; omega
        · obtain ⟨-, rfl⟩ : sx = [] ∧ er = 2 := by have := HFE.out; rw [if_neg hok] at this; exact Prod.mk.inj this
          have hbad := Lib.hid (recSecs_bad (kind := kind) hle hok)
          have HB2 := Lib.hid (below_step bb hB.out (Nat.le_refl _))
          clear hok bb
          go_wp2
          go_ret2
          rw [hbad.out]
          exact ⟨none, 0, rfl, World.ownsRow_nil _ _ _ _, HB2.out, fun k hk => by simp [Value.ownBlock] at hk⟩
      · obtain rfl : k = N := by omega
        have hdone := Lib.hid (secUp_done (kind := kind) hle (hE.out (by omega)))
        obtain ⟨A, cap, rfl⟩ := ownsRow_is hR.out
        go_wp2
        go_ret2
        rw [hdone.out, HN.out]
        refine ⟨A, cap, ?_, ?_, hB.out, ?_⟩
        · dsimp only; rw [secUp_len]; rfl
        · dsimp only; rw [secUp_len]; exact hR.out
        · dsimp only; rw [secUp_len]; exact hF.out
end Go.Proofs.Ytjpelmjocdodcaa
