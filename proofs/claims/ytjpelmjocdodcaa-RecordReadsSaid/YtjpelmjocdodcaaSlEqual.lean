/- sacristankit.EqualStrings, slices.Equal on strings. slices.Equal on strings. -/
import Derived.Test.YtjpelmjocdodcaaRecSec
import Derived.Test.YtjpelmjocdodcaaDiskNew
namespace Go.Proofs.Ytjpelmjocdodcaa
open Go.RowKit Go.ChangeMaps

theorem rstr_at {W : World} {A : Option Addr} {cap K : Nat} {L : List (List UInt8)} (h : W.ownsRow 0 9 1 (.slice A K cap) K (rstrs L)) (hl : L.length = K) {i : Nat} (hi : i < K) :
    ∃ g, A = some ⟨g, 0, none⟩ ∧ W.cell? (Addr.add ⟨g, 0, none⟩ i) = some (.string (S (L.getD i []))) ∧ W.cell? ⟨g, i, none⟩ = some (.string (S (L.getD i []))) := by
  rcases h.2 with ⟨e, hn⟩ | ⟨g, cap', cur, e, hb, hg, r⟩
  · have := h.1
    rw [hn] at this
    simp at this
    omega
  · simp only [Value.slice.injEq] at e
    obtain ⟨rfl, _, rfl⟩ := e
    have hc := h.cells (g := g) rfl i (.string (S (L.getD i []))) (by
      unfold rstrs
      rw [List.getElem?_map, List.getD_eq_getElem?_getD, List.getElem?_eq_getElem (by omega)]
      rfl)
    refine ⟨g, rfl, hc, ?_⟩
    rw [add_eq, Nat.zero_add] at hc
    exact hc
theorem take_more {L M : List (List UInt8)} {i : Nat} (h1 : i < L.length) (h2 : i < M.length) (h : L.take i = M.take i) (e : L.getD i [] = M.getD i []) : L.take (i + 1) = M.take (i + 1) := by
  rw [List.getD_eq_getElem?_getD, List.getD_eq_getElem?_getD, List.getElem?_eq_getElem h1, List.getElem?_eq_getElem h2] at e
  rw [List.take_add_one, List.take_add_one, h, List.getElem?_eq_getElem h1, List.getElem?_eq_getElem h2]
  rw [show L[i] = M[i] from e]
end Go.Proofs.Ytjpelmjocdodcaa
namespace Go.Proofs.Ytjpelmjocdodcaa
open Go.RowKit Go.ChangeMaps

set_option maxRecDepth 100000 in
set_option maxHeartbeats 2000000 in
theorem slEqual_any (u v : Value) (L M : List (List UInt8)) (hL : L.length ≤ 1000000) (hM : M.length ≤ 1000000) (w : World) (h1 : w.ownsRow 0 9 1 u L.length (rstrs L)) (h2 : w.ownsRow 0 9 1 v M.length (rstrs M)) :
    Calls Try.prog 71 #[u, v] w fun e w' => e = .returned (.bool (decide (L = M))) ∧ Below w.heap.size w w' := by
  obtain ⟨A, cap, rfl⟩ := ownsRow_is h1
  obtain ⟨B, cap2, rfl⟩ := ownsRow_is h2
  by_cases hlen : L.length = M.length
  · obtain ⟨K, hKK⟩ : ∃ K, L.length = K := ⟨_, rfl⟩
    have hMK : M.length = K := by omega
    have H1 := Lib.hid h1
    have H2 := Lib.hid h2
    rw [hKK] at H1 hL ⊢
    rw [hMK] at H2 ⊢
    have HL := Lib.hid hKK
    have HM := Lib.hid hMK
    clear h1 h2 hKK hMK hlen hM
    go_enter Try.func71, Try.ntmps71
    go_wp2_with (fail)
    go_loopw [13] (fun v5 wr => ∃ i : Nat, i ≤ K ∧ v5 = .int .i64 i ∧ Hid (L.take i = M.take i) ∧ Hid (Below w.heap.size w wr)) (fun v5 _ => K - (intOf v5).toNat)
    case atStart => exact ⟨0, Nat.zero_le _, rfl, by unfold Hid; rw [List.take_zero, List.take_zero], .refl _ _⟩
    case round =>
      obtain ⟨i, hi, rfl, hT, hB⟩ := hrel
      by_cases hlt : i < K
      · obtain ⟨g1, rfl, y0, y1⟩ := rstr_at (row_keeps (S := fun _ => False) H1.out (.of_below hB.out) (fun _ _ => id)) HL.out hlt
        obtain ⟨g2, rfl, z0, z1⟩ := rstr_at (row_keeps (S := fun _ => False) H2.out (.of_below hB.out) (fun _ _ => id)) HM.out hlt
        have HB2 := Lib.hid hB.out.drew
        by_cases hne : L.getD i [] = M.getD i []
        · have HT2 := Lib.hid (take_more (by rw [HL.out]; exact hlt) (by rw [HM.out]; exact hlt) hT.out hne)
          rw [← hne] at z0 z1
          obtain ⟨x, hx⟩ : ∃ x, L.getD i [] = x := ⟨_, rfl⟩
          rw [hx] at y0 y1 z0 z1
          clear hx hne
          go_wp2_with (fail)
          go_region
          go_wp2_with (fail)
          go_roundw
          case rel => exact ⟨i + 1, by omega, by go_num, HT2, HB2⟩
          case measure => simp [intOf]; omega
        · have HNE : Hid (decide (L = M) = false) := by unfold Hid; rw [decide_eq_false_iff_not]; intro h; exact hne (by rw [h])
          obtain ⟨x, hx⟩ : ∃ x, L.getD i [] = x := ⟨_, rfl⟩
          obtain ⟨y, hy⟩ : ∃ y, M.getD i [] = y := ⟨_, rfl⟩
          rw [hx] at y0 y1 hne
          rw [hy] at z0 z1 hne
          have hb := fbeq_no hne
          clear hx hy hne
          go_wp2_with (fail)
          go_region
          go_wp2
          go_ret
          rw [HNE.out]
          exact ⟨rfl, HB2.out⟩
      · obtain rfl : K = i := by omega
        have HY : Hid (decide (L = M) = true) := by
          unfold Hid
          rw [decide_eq_true_iff]
          have := hT.out
          rwa [List.take_of_length_le (by rw [HL.out]; exact Nat.le_refl _), List.take_of_length_le (by rw [HM.out]; exact Nat.le_refl _)] at this
        go_wp2
        go_ret
        rw [HY.out]
        exact ⟨rfl, hB.out⟩
  · have HNE : Hid (decide (L = M) = false) := by unfold Hid; rw [decide_eq_false_iff_not]; intro h; exact hlen (by rw [h])
    obtain ⟨K, hKK⟩ : ∃ K, L.length = K := ⟨_, rfl⟩
    obtain ⟨K2, hK2⟩ : ∃ K, M.length = K := ⟨_, rfl⟩
    rw [hKK, hK2] at hlen
    have hli : ¬ ((K:Int) = (K2:Int)) := by omega
    rw [hKK, hK2]
    clear h1 h2 hKK hK2
    go_enter Try.func71, Try.ntmps71
    go_wp2
    go_ret
    rw [HNE.out]
    exact ⟨rfl, .refl _ _⟩
end Go.Proofs.Ytjpelmjocdodcaa
