/- sacristanref04: Pending; EqualInts. -/
import Derived.Test.YtjpelmjocdodcaaRefCrash
namespace Go.Proofs.Ytjpelmjocdodcaa
open Go.RowKit Go.ChangeMaps

set_option maxRecDepth 100000 in
set_option maxHeartbeats 2000000 in
theorem rdpending_any (r g sb : Nat) (pv : Value) (D : Dk) (w : World) (h : RefAt w r g sb pv D) (hP : D.P.length ≤ 1000000) :
    Calls Try.prog 66 #[.pointer (some ⟨r, 0, none⟩)] w (SomeInts w (pendNs D.P)) := by
  obtain ⟨A, cap, rfl⟩ := ownsRow_is h.row
  have HH := Lib.hid h
  clear h
  go_enter Try.func66, Try.ntmps66
  go_wp2_with (fail)
  go_loopw [3, 4] (fun v3 v4 wr => ∃ i : Nat, i ≤ D.P.length ∧ v4 = .int .i64 i ∧ Hid (wr.ownsRow 0 3 1 v3 i (intsOf (pendNs (D.P.take i)))) ∧ Hid (∀ k, v3.ownBlock = some k → w.heap.size ≤ k) ∧ Hid (Below w.heap.size w wr)) (fun _ v4 _ => D.P.length - (intOf v4).toNat)
  case atStart => exact ⟨0, Nat.zero_le _, rfl, World.ownsRow_nil _ _ _ _, fun k hk => by simp [Value.ownBlock] at hk, .refl _ _⟩
  case round =>
    obtain ⟨i, hi, rfl, ho, hf, hb⟩ := hrel
    have c1 := (HH.out.below hb.out).c1
    by_cases hlt : i < D.P.length
    · obtain ⟨g2, rfl, e0, e0', e1⟩ := (HH.out.below hb.out).pend hlt
      have HT : Hid (intsOf (pendNs (D.P.take (i + 1))) = intsOf (pendNs (D.P.take i)) ++ [.int .i64 (D.P[i].1 : Int)]) := by
        unfold Hid intsOf pendNs
        rw [List.take_succ_eq_append_getElem hlt, List.map_append, List.map_append]
        rfl
      obtain ⟨⟨a, s⟩, hp⟩ : ∃ p, D.P[i] = p := ⟨_, rfl⟩
      rw [hp] at e0 e0' e1 HT
      dsimp only at e0 e0' e1 HT
      clear hp
      have n3 := alloc_new wr (.cells #[.int .i64 a] 3)
      have b3 := alloc_below wr (.cells #[.int .i64 a] 3)
      obtain ⟨w3, hw3⟩ : ∃ w3, wr.alloc (.cells #[.int .i64 a] 3) = w3 := ⟨_, rfl⟩
      rw [hw3] at n3 b3
      have ho3 := row_keeps (S := fun _ => False) ho.out (.of_below b3) (fun _ _ => id)
      obtain ⟨v', w4, hrun, hown, hgr, hat⟩ := append_run (P := Try.prog) w3 28 28 3 (.int .i64 0) 1 8 Try.underlying28 (by kernel_rfl) rfl (by decide) u3 i _ ho3
        ⟨wr.heap.size, 0, none⟩ 1 1 [.int .i64 a] rfl (fun j u hu => by rw [cell_at n3, Nat.zero_add]; simpa using hu) (fun u hu => by simp at hu; subst hu; rfl) (by unfold maxLen; omega) (by omega)
      obtain ⟨A', cap', rfl⟩ := ownsRow_is hown
      have hrun2 := Lib.hid hrun
      have HB4 := Lib.hid (grown_below (below_step b3 hb.out (Nat.le_refl _)) hgr (Nat.le_trans hb.out.size b3.size) hf.out)
      have HF4 : Hid (∀ k, (Value.slice A' (i + 1) cap').ownBlock = some k → w.heap.size ≤ k) := fun k hk => by
        rcases hat with hat | hat
        · exact hf.out k (hat.symm.trans hk)
        · rw [hat] at hk
          injection hk with hk
          have h1 := hb.out.size
          have h2 := b3.size
          omega
      have HO4 : Hid (w4.ownsRow 0 3 1 (.slice A' (i + 1) cap') (i + 1) (intsOf (pendNs (D.P.take (i + 1))))) := by
        unfold Hid
        rw [HT.out]
        exact hown
      clear hrun n3 b3 hgr hat hown ho3
      go_wp2_with (at_builtin; refine wpList_append_eq rfl (.tmp 18) (.tmp 27) 28 rfl _ _ rfl rfl _ _ hrun2.out ?_)
      go_roundw
      case rel => exact ⟨i + 1, by omega, by go_num, HO4, HF4, HB4⟩
      case measure => simp [intOf]; omega
    · obtain rfl : i = D.P.length := by omega
      go_wp2_with (fail)
      go_ret
      have h1 := ho.out
      rw [List.take_of_length_le (Nat.le_refl _)] at h1
      exact ⟨_, rfl, by rw [show (pendNs D.P).length = D.P.length from List.length_map ..]; exact h1, hf.out, hb.out⟩
set_option maxRecDepth 100000 in
set_option maxHeartbeats 2000000 in
theorem eqInts_same (u v : Value) (L : List Int) (hK : L.length ≤ 1000000) (w : World) (h1 : w.ownsRow 0 3 1 u L.length (intsOf L)) (h2 : w.ownsRow 0 3 1 v L.length (intsOf L)) :
    Calls Try.prog 30 #[u, v] w fun e w' => e = .returned (.bool true) ∧ Below w.heap.size w w' := by
  obtain ⟨K, hKK⟩ : ∃ K, L.length = K := ⟨_, rfl⟩
  rw [hKK] at h1 h2 hK
  obtain ⟨A, cap, rfl⟩ := ownsRow_is h1
  obtain ⟨B, cap2, rfl⟩ := ownsRow_is h2
  have at_ : ∀ {W : World} {A : Option Addr} {cap : Nat} (h : W.ownsRow 0 3 1 (.slice A K cap) K (intsOf L)) {i : Nat} (hi : i < K), ∃ g, A = some ⟨g, 0, none⟩ ∧ W.cell? (Addr.add ⟨g, 0, none⟩ i) = some (.int .i64 (L.getD i 0)) ∧ W.cell? ⟨g, i, none⟩ = some (.int .i64 (L.getD i 0)) := fun {W A cap} h {i} hi => by
    rcases h.2 with ⟨e, hn⟩ | ⟨g, cap', cur, e, hb, hg, r⟩
    · have := h.1
      rw [hn] at this
      simp at this
      omega
    · simp only [Value.slice.injEq] at e
      obtain ⟨rfl, _, rfl⟩ := e
      have hc := h.cells (g := g) rfl i (.int .i64 (L.getD i 0)) (by
        unfold intsOf
        rw [List.getElem?_map, List.getD_eq_getElem?_getD, List.getElem?_eq_getElem (by omega)]
        rfl)
      refine ⟨g, rfl, hc, ?_⟩
      rw [add_eq, Nat.zero_add] at hc
      exact hc
  have AT := Lib.hid (fun (W : World) (A : Option Addr) (cap : Nat) (h : W.ownsRow 0 3 1 (.slice A K cap) K (intsOf L)) (i : Nat) (hi : i < K) => at_ h hi)
  have H1 := Lib.hid h1
  have H2 := Lib.hid h2
  clear h1 h2 at_ hKK
  go_enter Try.func30, Try.ntmps30
  go_wp2_with (fail)
  go_loopw [5] (fun v5 wr => ∃ i : Nat, i ≤ K ∧ v5 = .int .i64 i ∧ Hid (Below w.heap.size w wr)) (fun v5 _ => K - (intOf v5).toNat)
  case atStart => exact ⟨0, Nat.zero_le _, rfl, .refl _ _⟩
  case round =>
    obtain ⟨i, hi, rfl, hB⟩ := hrel
    by_cases hlt : i < K
    · obtain ⟨g1, rfl, y0, y1⟩ := AT.out wr A cap (row_keeps (S := fun _ => False) H1.out (.of_below hB.out) (fun _ _ => id)) i hlt
      obtain ⟨g2, rfl, z0, z1⟩ := AT.out wr B cap2 (row_keeps (S := fun _ => False) H2.out (.of_below hB.out) (fun _ _ => id)) i hlt
      obtain ⟨x, hx⟩ : ∃ x, L.getD i 0 = x := ⟨_, rfl⟩
      rw [hx] at y0 y1 z0 z1
      have HB2 := Lib.hid hB.out.drew
      clear hx
      go_wp2_with (fail)
      go_region
      go_wp2_with (fail)
      go_roundw
      case rel => exact ⟨i + 1, by omega, by go_num, HB2⟩
      case measure => simp [intOf]; omega
    · obtain rfl : K = i := by omega
      go_wp2_with (fail)
      go_ret
      exact ⟨rfl, hB.out⟩
end Go.Proofs.Ytjpelmjocdodcaa
