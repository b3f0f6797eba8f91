/- ring.Recover's walk, up and down. -/
import Derived.Test.YtjdmindpiaijcaaRingUp
namespace Go.Proofs.Ytjdmindpiaijcaa
open Go.RowKit

theorem goUp_stop (may : Int → Bool) : ∀ (K : Nat) (a : Int), may a = false → goUp may K a = a
  | 0, a, _ => rfl
  | K + 1, a, h => by simp [goUp, h]
theorem goDown_stop (may : Int → Bool) : ∀ (K : Nat) (a : Int), may a = false → goDown may K a = a
  | 0, a, _ => rfl
  | K + 1, a, h => by simp [goDown, h]
theorem goUp_go (may : Int → Bool) {K : Nat} {a : Int} (hK : 0 < K) (h : may a = true) : goUp may K a = goUp may (K - 1) (a + 1) := by
  obtain ⟨k, rfl⟩ : ∃ k, K = k + 1 := ⟨K - 1, by omega⟩
  simp [goUp, h]
theorem goDown_go (may : Int → Bool) {K : Nat} {a : Int} (hK : 0 < K) (h : may a = true) : goDown may K a = goDown may (K - 1) (a - 1) := by
  obtain ⟨k, rfl⟩ : ∃ k, K = k + 1 := ⟨K - 1, by omega⟩
  simp [goDown, h]
def UpTo (may : Int → Bool) (R : Int) (a : Int) (K : Nat) : Prop := goUp may K a = R ∧ ∀ n, a + K ≤ n → may n = false
def DownTo (may : Int → Bool) (R : Int) (a : Int) (K : Nat) : Prop := goDown may K a = R ∧ ∀ n, n ≤ a - K → may n = false

set_option maxRecDepth 100000 in
set_option maxHeartbeats 400000 in
theorem walkUp_any (m : List (Int × GB)) (begin blocks a R : Int) (K M : Nat) (F A B : Addr) (w : World) (hm : IsMap w M (gvals m)) (hF : w.cell? F = some (.map (some M))) (hA : w.cell? A = some (.int .i64 begin)) (hB : w.cell? B = some (.int .i64 blocks))
    (ha0 : 0 ≤ a) (ha1 : a + K ≤ 9000000000) (hb0 : 0 ≤ begin) (hb1 : begin ≤ 4294967295) (hk0 : 1 ≤ blocks) (hk1 : blocks ≤ 64) (hu : UpTo (mayUp m begin blocks) R a K) :
    Calls Try.prog 12 #[.int .i64 a, .int .i64 1, .func (.func 13) #[] #[.pointer (some F), .pointer (some A), .pointer (some B)]] w fun e w' => e = .returned (.int .i64 R) ∧ Below w.heap.size w w' := by
  go_enter Try.func12, Try.ntmps12
  go_wp2
  go_loopw [0] (fun x wr => ∃ (b : Int) (k : Nat), x = .int .i64 b ∧ 0 ≤ b ∧ b + k ≤ 9000000000 ∧ UpTo (mayUp m begin blocks) R b k ∧ Below w.heap.size w wr ∧ Hid (b + k = a + K)) (fun x _ => (a + K - intOf x).toNat)
  case atStart => exact ⟨a, K, rfl, ha0, ha1, hu, Below.refl _ _, rfl⟩
  case round =>
    obtain ⟨b, k, rfl, hb, hbk, hub, hbel, hsum⟩ := hrel
    have HC := Lib.hid (mayUp_any m begin blocks b M F A B wr (hm.below hbel) (below_cell hbel hF) (below_cell hbel hA) (below_cell hbel hB) (by omega) (by omega) hb0 hb1 hk0 hk1)
    cases hmay : mayUp m begin blocks b with
    | true =>
      rw [hmay] at HC
      have HM := Lib.hid hmay
      clear hmay
      go_wp2_with (go_at_call 13; refine HC.out.mono ?_; rintro e w' ⟨rfl, hb2⟩)
      have hk : 0 < k := by
        rcases Nat.eq_zero_or_pos k with h | h
        · have := hub.2 b (by omega)
          rw [HM.out] at this; cases this
        · exact h
      have HS := hsum.out
      go_roundw
      case rel => exact ⟨b + 1, k - 1, rfl, by omega, by omega, ⟨by rw [← goUp_go _ hk HM.out]; exact hub.1, fun n hn => hub.2 n (by omega)⟩, below_step hb2 hbel (Nat.le_refl _), by unfold Hid; omega⟩
      case measure => simp [intOf]; omega
    | false =>
      rw [hmay] at HC
      have HM := Lib.hid hmay
      clear hmay
      go_wp2_with (go_at_call 13; refine HC.out.mono ?_; rintro e w' ⟨rfl, hb2⟩)
      go_ret
      exact ⟨ret_int (by rw [← hub.1, goUp_stop _ _ _ HM.out]), below_step hb2 hbel (Nat.le_refl _)⟩

set_option maxRecDepth 100000 in
set_option maxHeartbeats 400000 in
theorem walkDown_any (m : List (Int × GB)) (least a R : Int) (K M : Nat) (F A : Addr) (w : World) (hm : IsMap w M (gvals m)) (hF : w.cell? F = some (.map (some M))) (hA : w.cell? A = some (.int .i64 least))
    (ha0 : -1000000 ≤ a - K) (ha1 : a ≤ 9000000000) (hu : DownTo (mayDown m least) R a K) :
    Calls Try.prog 12 #[.int .i64 a, .int .i64 (-1), .func (.func 14) #[] #[.pointer (some F), .pointer (some A)]] w fun e w' => e = .returned (.int .i64 R) ∧ Below w.heap.size w w' := by
  go_enter Try.func12, Try.ntmps12
  go_wp2
  go_loopw [0] (fun x wr => ∃ (b : Int) (k : Nat), x = .int .i64 b ∧ -1000000 ≤ b - k ∧ b ≤ 9000000000 ∧ DownTo (mayDown m least) R b k ∧ Below w.heap.size w wr ∧ Hid (b - k = a - K)) (fun x _ => (intOf x - (a - K)).toNat)
  case atStart => exact ⟨a, K, rfl, ha0, ha1, hu, Below.refl _ _, rfl⟩
  case round =>
    obtain ⟨b, k, rfl, hb, hbk, hub, hbel, hsum⟩ := hrel
    have HC := Lib.hid (mayDown_any m least b M F A wr (hm.below hbel) (below_cell hbel hF) (below_cell hbel hA) (by omega) (by omega))
    cases hmay : mayDown m least b with
    | true =>
      rw [hmay] at HC
      have HM := Lib.hid hmay
      clear hmay
      go_wp2_with (go_at_call 14; refine HC.out.mono ?_; rintro e w' ⟨rfl, hb2⟩)
      have hk : 0 < k := by
        rcases Nat.eq_zero_or_pos k with h | h
        · have := hub.2 b (by omega)
          rw [HM.out] at this; cases this
        · exact h
      have HS := hsum.out
      go_roundw
      case rel => exact ⟨b - 1, k - 1, by rw [Int.sub_eq_add_neg], by omega, by omega, ⟨by rw [← goDown_go _ hk HM.out]; exact hub.1, fun n hn => hub.2 n (by omega)⟩, below_step hb2 hbel (Nat.le_refl _), by unfold Hid; omega⟩
      case measure => simp [intOf]; omega
    | false =>
      rw [hmay] at HC
      have HM := Lib.hid hmay
      clear hmay
      go_wp2_with (go_at_call 14; refine HC.out.mono ?_; rintro e w' ⟨rfl, hb2⟩)
      go_ret
      exact ⟨ret_int (by rw [← hub.1, goDown_stop _ _ _ HM.out]), below_step hb2 hbel (Nat.le_refl _)⟩
end Go.Proofs.Ytjdmindpiaijcaa
