/- block.same: whether two strings are equal. -/
import Derived.Test.YtgnhpbolmfbngaaFixed
import Derived.Test.YtgnhpbolmfbngaaCells
import Derived.WalkMore
import Derived.RegionTactic
namespace Go.Proofs.Ytgnhpbolmfbngaa
open Go.RowKit

theorem take_same {s t : ByteArray} {k : Nat} (hs : k < s.size) (ht : k < t.size) (h : s.data.toList.take k = t.data.toList.take k) (e : s[k] = t[k]) : s.data.toList.take (k + 1) = t.data.toList.take (k + 1) := by
  rw [take_snoc s k hs, take_snoc t k ht, h, e]
theorem ne_at {s t : ByteArray} {k : Nat} (hs : k < s.size) (ht : k < t.size) (e : ¬ s[k] = t[k]) : ¬ s.data.toList = t.data.toList := fun h => e (by
  obtain ⟨⟨l⟩⟩ := s
  obtain ⟨⟨m⟩⟩ := t
  obtain rfl : l = m := h
  rfl)
set_option maxHeartbeats 400000 in
theorem bsame_any (s t : ByteArray) (w : World) (hs : s.size ≤ 140737488351232) :
    Calls Try.prog 51 #[.string s, .string t] w fun e w' => e = .returned (.bool (decide (s.data.toList = t.data.toList))) ∧ Below w.heap.size w w' := by
  by_cases hl : s.size = t.size
  · have HL := Lib.hid hl
    have hl' : (s.size : Int) = (t.size : Int) := by omega
    clear hl
    go_enter Try.func51, Try.ntmps51
    go_wp2
    go_step3
    go_wp2
    go_step3
    go_wp2
    clear hl'
    go_loopw [5, 6] (fun x i wr => ∃ (k : Nat) (p : Bool), k ≤ s.size ∧ i = .int .i64 k ∧ x = .bool p ∧ Hid (p = true → s.data.toList.take k = t.data.toList.take k) ∧ Hid (p = false → ¬ s.data.toList = t.data.toList) ∧ Hid (Below w.heap.size w wr)) (fun _ i _ => s.size - (intOf i).toNat)
    case atStart => exact ⟨0, true, Nat.zero_le _, rfl, rfl, fun _ => by simp, fun h => by simp at h, Below.refl _ _⟩
    case round =>
      obtain ⟨k, p, hk, rfl, rfl, h1, h2, HB⟩ := hrel
      cases p with
      | false =>
        have HNE := Lib.hid (h2.out rfl)
        clear h1 h2
        go_wp2
        rw [Exit.noGoto_ret]
        go_ret
        exact ⟨ret_bool (decide_eq_false HNE.out).symm, HB.out⟩
      | true =>
        have HEQ := Lib.hid (h1.out rfl)
        clear h1 h2
        by_cases hlt : k < s.size
        · have hlt2 : k < t.size := by rw [← HL.out]; exact hlt
          by_cases he : s[k] = t[k]
          · have HE := Lib.hid he
            have he' : (s[k].toNat : Int) = (t[k].toNat : Int) := by rw [he]
            clear he
            go_wp2
            go_region
            go_wp2
            go_roundw
            case rel => exact ⟨k + 1, true, by omega, by go_num, rfl, fun _ => take_same hlt hlt2 HEQ.out HE.out, fun h => by simp at h, HB.out.drew⟩
            case measure => simp [intOf]; omega
          · have HE := Lib.hid he
            have he' : ((s[k].toNat : Int) == (t[k].toNat : Int)) = false := by rw [beq_eq_false_iff_ne]; exact fun h => he (UInt8.toNat_inj.1 (by omega))
            clear he
            go_wp2
            go_region
            go_wp2
            go_roundw
            case rel => exact ⟨k + 1, false, by omega, by go_num, rfl, fun h => by simp at h, fun _ => ne_at hlt hlt2 HE.out, HB.out.drew⟩
            case measure => simp [intOf]; omega
        · have HK := Lib.hid (show k = s.size by omega)
          go_wp2
          rw [Exit.noGoto_ret]
          go_ret
          refine ⟨ret_bool (decide_eq_true ?_).symm, HB.out⟩
          have := HEQ.out
          rw [HK.out, size_data s, List.take_of_length_le (Nat.le_refl _), ← size_data s, HL.out, size_data t, List.take_of_length_le (Nat.le_refl _)] at this
          exact this
  · have hl' : ((s.size : Int) == (t.size : Int)) = false := by rw [beq_eq_false_iff_ne]; omega
    have hne : ¬ s.data.toList = t.data.toList := fun h => hl (by rw [size_data, size_data, h])
    have HNE := Lib.hid hne
    clear hl hne
    go_enter Try.func51, Try.ntmps51
    go_wp2
    go_step3
    go_wp2
    go_step3
    go_wp2
    go_loopw [5, 6] (fun x i wr => i = .int .i64 0 ∧ x = .bool false ∧ wr = w) (fun _ _ _ => 0)
    case atStart => exact ⟨rfl, rfl, rfl⟩
    case round =>
      obtain ⟨rfl, rfl, rfl⟩ := hrel
      go_wp2
      rw [Exit.noGoto_ret]
      go_ret
      exact ⟨ret_bool (decide_eq_false HNE.out).symm, Below.refl _ _⟩
end Go.Proofs.Ytgnhpbolmfbngaa
