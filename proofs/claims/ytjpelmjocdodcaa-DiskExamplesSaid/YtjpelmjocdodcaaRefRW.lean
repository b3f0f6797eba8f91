/- sacristanref04: Read and Write. -/
import Derived.Test.YtjpelmjocdodcaaRefDisk
namespace Go.Proofs.Ytjpelmjocdodcaa
open Go.RowKit Go.ChangeMaps

theorem RefAt.c0 {w : World} {r g sb : Nat} {pv : Value} {D : Dk} (h : RefAt w r g sb pv D) : w.cell? ⟨r, 0, none⟩ = some (.slice (some ⟨sb, 0, none⟩) D.S.length D.S.length) := (cell_of h.blk 0).trans rfl
theorem RefAt.c1 {w : World} {r g sb : Nat} {pv : Value} {D : Dk} (h : RefAt w r g sb pv D) : w.cell? ⟨r, 1, none⟩ = some pv := (cell_of h.blk 1).trans rfl
theorem RefAt.c2 {w : World} {r g sb : Nat} {pv : Value} {D : Dk} (h : RefAt w r g sb pv D) : w.cell? ⟨r, 2, none⟩ = some (.pointer (some ⟨g, 0, none⟩)) := (cell_of h.blk 2).trans rfl
theorem RefAt.c3 {w : World} {r g sb : Nat} {pv : Value} {D : Dk} (h : RefAt w r g sb pv D) : w.cell? ⟨r, 3, none⟩ = some (.bool D.full) := (cell_of h.blk 3).trans rfl
/-- A pending write's cells. -/
theorem RefAt.pend {w : World} {r g sb : Nat} {A : Option Addr} {cap : Nat} {D : Dk} (h : RefAt w r g sb (.slice A D.P.length cap) D) {k : Nat} (hk : k < D.P.length) :
    ∃ p, A = some ⟨p, 0, none⟩ ∧ w.cell? (Addr.add ⟨p, 0, none⟩ (k * 2)) = some (.int .i64 (D.P[k].1 : Int)) ∧ w.cell? ⟨p, k * 2, none⟩ = some (.int .i64 (D.P[k].1 : Int)) ∧ w.cell? ⟨p, k * 2 + 1, none⟩ = some (.string (S D.P[k].2)) := by
  obtain ⟨p, hA, h1, h2⟩ := wcell_at h.row rfl hk
  exact ⟨p, hA, by rw [add_eq, Nat.zero_add]; exact h1, h1, h2⟩
theorem lastOf_take (i : Nat) (P : List (Nat × List UInt8)) {k : Nat} (hk : k < P.length) (o : List UInt8) : lastOf i (P.take (k + 1)) o = if P[k].1 = i then P[k].2 else lastOf i (P.take k) o := by
  rw [List.take_succ_eq_append_getElem hk, lastOf_append]
  rfl
set_option maxRecDepth 100000 in
set_option maxHeartbeats 4000000 in
theorem rdread_any (r g sb : Nat) (pv : Value) (D : Dk) (z : Fz) (i : Int) (w : World) (h : RefAt w r g sb pv D) (hz : RFzAt w g z) :
    Calls Try.prog 59 #[.pointer (some ⟨r, 0, none⟩), .int .i64 i] w fun e w' => e = .returned (.tuple #[.string (S (doRead D z i).1), .int .i64 (doRead D z i).2]) ∧ w' = w := by
  obtain ⟨A, cap, rfl⟩ := ownsRow_is h.row
  have hPl := row_len h.row
  unfold maxLen at hPl
  have c0 := h.c0
  have c1 := h.c1
  have c2 := h.c2
  have d1 : w.cell? ⟨g, 1, none⟩ = some (.bool z.dead) := (cell_of hz.1 1).trans rfl
  have HH := Lib.hid h
  have hlen := h.ok.2.1
  rcases hasE_cases D i with ⟨he, hi0, hil, hii⟩ | ⟨he, hbad⟩
  · obtain ⟨n, rfl⟩ : ∃ n : Nat, i = n := ⟨i.toNat, by omega⟩
    rw [Int.toNat_natCast] at hil
    have hni : (n : Int) < (D.S.length : Int) := by omega
    cases hd : z.dead with
    | true =>
      rw [hd] at d1
      have HE : Hid (doRead D z n = ([], 10)) := by unfold Hid doRead; rw [if_pos he, hd]; rfl
      clear h hz he hii
      go_enter Try.func59, Try.ntmps59
      go_wp2
      go_ret2
      rw [HE.out]
      exact ⟨rfl, rfl⟩
    | false =>
      rw [hd] at d1
      have HE : Hid (doRead D z n = (D.read n, 0)) := by unfold Hid doRead; rw [if_pos he, hd, Int.toNat_natCast]; rfl
      have s0 : w.cell? (Addr.add ⟨sb, 0, none⟩ n) = some (.string (S (secAt D.S n))) := by rw [add_eq, Nat.zero_add]; exact h.sec_at hil
      have s0' := h.sec_at hil
      clear h hz he hii
      go_enter Try.func59, Try.ntmps59
      go_wp2
      go_loop [6, 7] (fun v6 v7 => ∃ k : Nat, k ≤ D.P.length ∧ v7 = .int .i64 k ∧ ∃ o, v6 = .string (S o) ∧ Hid (o = lastOf n (D.P.take k) (secAt D.S n))) (fun _ v7 => D.P.length - (intOf v7).toNat)
      case atStart => exact ⟨0, Nat.zero_le _, rfl, secAt D.S n, rfl, rfl⟩
      case round =>
        obtain ⟨k, hk, rfl, o, rfl, ho⟩ := hrel
        by_cases hlt : k < D.P.length
        · obtain ⟨p, rfl, e0, e0', e1⟩ := HH.out.pend hlt
          have HL := Lib.hid (lastOf_take n D.P hlt (secAt D.S n))
          obtain ⟨⟨a, s⟩, hp⟩ : ∃ x, D.P[k] = x := ⟨_, rfl⟩
          rw [hp] at e0 e0' e1
          simp only [hp] at HL
          dsimp only at e0 e0' e1
          by_cases hx : a = n
          · subst hx
            have HL2 : Hid (s = lastOf a (D.P.take (k + 1)) (secAt D.S a)) := by unfold Hid; rw [HL.out]; exact (if_pos rfl).symm
            clear HL hp ho
            go_wp2
            go_round
            case rel => exact ⟨k + 1, by omega, by go_num, s, rfl, HL2⟩
            case measure => simp [intOf]; omega
          · have hxi : ¬ (a : Int) = (n : Int) := by omega
            have hxb : ((a : Int) == (n : Int)) = false := beq_eq_false_iff_ne.2 hxi
            have HL2 : Hid (o = lastOf n (D.P.take (k + 1)) (secAt D.S n)) := by unfold Hid; rw [HL.out, if_neg hx]; exact ho.out
            clear HL hp ho
            go_wp2
            go_round
            case rel => exact ⟨k + 1, by omega, by go_num, o, rfl, HL2⟩
            case measure => simp [intOf]; omega
        · obtain rfl : k = D.P.length := by omega
          have HO : Hid (o = D.read n) := by unfold Hid; rw [ho.out, List.take_of_length_le (Nat.le_refl _)]; rfl
          clear ho
          go_wp2
          go_ret2
          rw [HE.out, HO.out]
          exact ⟨rfl, rfl⟩
  · have HE : Hid (doRead D z i = ([], 3)) := by unfold Hid doRead; rw [if_neg (by rw [he]; decide), he]
    clear h hz he
    by_cases h0 : i < 0
    · go_enter Try.func59, Try.ntmps59
      go_wp2
      go_ret2
      rw [HE.out]
      exact ⟨rfl, rfl⟩
    · have h1 : (D.S.length : Int) ≤ i := by omega
      go_enter Try.func59, Try.ntmps59
      go_wp2
      go_ret2
      rw [HE.out]
      exact ⟨rfl, rfl⟩
end Go.Proofs.Ytjpelmjocdodcaa
