/- sacristanlaw25.RingTurns returns true, whatever files, blocks and the number are, in every world. No conditions. -/
import Derived.Test.YtholdgefpjepfaaKnown
import Derived.Test.YtholdgefpjepfaaRingMore
import Derived.Test.YtholdgefpjepfaaWf
namespace Go.Proofs.Ytholdgefpjepfaa
open Go.RowKit

theorem rcheck_in {f b n : Int} (h1 : 2 ≤ f) (h2 : f ≤ 64) (h3 : 1 ≤ b) (h4 : b ≤ 64) (h5 : 0 ≤ n) (h6 : n ≤ 4294967295) : rcheck f b n = 0 := by
  unfold rcheck; rw [if_pos ⟨⟨h1, h2⟩, h3, h4⟩, if_pos ⟨h5, h6⟩]
/-- First, told without division: q files ahead of block k, r blocks into the file. -/
theorem rFirst_next {f b q r : Int} (h1 : 2 ≤ f) (h2 : f ≤ 64) (h3 : 1 ≤ b) (h4 : b ≤ 64) (hr0 : 0 ≤ r) (hr1 : r < b) (hq : 0 ≤ q) (hk : q * b + r ≤ 4294967294) : rFirst f b (q * b + r + 1) = max 0 (q * b - f * b + b) := by
  have hqb : 0 ≤ q * b := Int.mul_nonneg hq (by omega)
  unfold rFirst
  rw [if_pos ⟨rcheck_in h1 h2 h3 h4 (by omega) (by omega), by omega⟩]
  have hd : (q * b + r + 1 - 1) / b = q := by
    rw [show q * b + r + 1 - 1 = r + q * b by omega, Int.add_mul_ediv_right _ _ (by omega), Int.ediv_eq_zero_of_lt hr0 hr1]
    omega
  rw [hd, Int.add_mul, Int.sub_mul, Int.one_mul]
theorem turn_facts {f b k : Int} (h1 : 2 ≤ f) (h2 : f ≤ 64) (h3 : 1 ≤ b) (h4 : b ≤ 64) (hk0 : 0 ≤ k) (hk1 : k ≤ 4294967293) :
    (rFirst f b (k + 1) = rFirst f b k ∨ (k % b = 0 ∧ rFirst f b (k + 1) = rFirst f b k + b)) ∧ 0 ≤ rFirst f b (k + 1) ∧ rFirst f b (k + 1) ≤ k ∧ k - rFirst f b (k + 1) < f * b ∧ (f * b ≤ k → k - f * b < rFirst f b (k + 1)) ∧ 0 ≤ rFirst f b k ∧ rFirst f b k ≤ k := by
  have hr0 := Int.emod_nonneg k (by omega : b ≠ 0)
  have hr1 := Int.emod_lt_of_pos k (by omega : 0 < b)
  have hq0 := Int.ediv_nonneg hk0 (by omega : 0 ≤ b)
  have hkk : k = k / b * b + k % b := by have := Int.mul_ediv_add_emod k b; rw [Int.mul_comm] at this; omega
  generalize k % b = r at *
  generalize k / b = q at *
  subst hkk
  have e1 := rFirst_next h1 h2 h3 h4 hr0 hr1 hq0 (by omega)
  have hfb : 2 * b ≤ f * b := Int.mul_le_mul_of_nonneg_right h1 (by omega)
  have hqb : 0 ≤ q * b := Int.mul_nonneg hq0 (by omega)
  have hcase : q * b + b ≤ f * b ∨ f * b ≤ q * b := by
    by_cases h : q + 1 ≤ f
    · left
      have := Int.mul_le_mul_of_nonneg_right h (by omega : 0 ≤ b)
      rw [Int.add_mul, Int.one_mul] at this
      exact this
    · right
      exact Int.mul_le_mul_of_nonneg_right (by omega) (by omega : 0 ≤ b)
  rw [e1]
  by_cases hr : r = 0
  · subst hr
    have e0 : rFirst f b (q * b + 0) = max 0 (q * b - f * b) := by
      by_cases hq : q = 0
      · subst hq
        unfold rFirst
        rw [if_neg (by rw [Int.zero_mul]; simp)]
        omega
      · have := rFirst_next h1 h2 h3 h4 (r := b - 1) (q := q - 1) (by omega) (by omega) (by omega) (by rw [Int.sub_mul]; omega)
        rw [Int.sub_mul, Int.one_mul, show q * b - b + (b - 1) + 1 = q * b + 0 by omega] at this
        rw [this]
        omega
    rw [e0]
    omega
  · have e0 := rFirst_next h1 h2 h3 h4 (r := r - 1) (q := q) (by omega) (by omega) hq0 (by omega)
    rw [show q * b + (r - 1) + 1 = q * b + r by omega] at e0
    rw [e0]
    omega
theorem turn_sector {f b k m : Int} (h1 : 2 ≤ f) (h2 : f ≤ 64) (h3 : 1 ≤ b) (h4 : b ≤ 64) (hk1 : k ≤ 4294967293) (hm0 : 0 ≤ m) (hm : m < k) (hd : k - m < f * b) : rSector f b m ≠ rSector f b k := by
  unfold rSector
  rw [if_pos (rcheck_in h1 h2 h3 h4 hm0 (by omega)), if_pos (rcheck_in h1 h2 h3 h4 (by omega) (by omega))]
  intro h
  have := Int.emod_emod_of_dvd
  have hz : (k - m) % (f * b) = 0 := Int.emod_eq_emod_iff_emod_sub_eq_zero.mp h.symm
  rw [Int.emod_eq_of_lt (by omega) hd] at hz
  omega

set_option maxHeartbeats 2000000 in
theorem ringTurns_any (a0 a1 a2 : Int) (w : World) (w0 : (Lit.int .u8 a0).wf = true) (w1 : (Lit.int .u8 a1).wf = true) (w2 : (Lit.int .u32 a2).wf = true) :
    Calls Try.prog 8 #[.int .u8 a0, .int .u8 a1, .int .u32 a2] w fun e w' => e = .returned (.bool true) ∧ Below w.heap.size w w' := by
  obtain ⟨u0, u1⟩ := of_u8 w0
  obtain ⟨u2, u3⟩ := of_u8 w1
  obtain ⟨u4, u5⟩ := of_u32 w2
  obtain ⟨f0, hf0⟩ : ∃ x, a0.tmod 63 = x := ⟨_, rfl⟩
  obtain ⟨b0, hb0⟩ : ∃ x, a1.tmod 64 = x := ⟨_, rfl⟩
  obtain ⟨k, hk⟩ : ∃ x, a2.tmod 4294967294 = x := ⟨_, rfl⟩
  have f1 : 0 ≤ f0 ∧ f0 ≤ 62 := by rw [Int.tmod_eq_emod_of_nonneg u0] at hf0; omega
  have b1 : 0 ≤ b0 ∧ b0 ≤ 63 := by rw [Int.tmod_eq_emod_of_nonneg u2] at hb0; omega
  have k1 : 0 ≤ k ∧ k ≤ 4294967293 := by rw [Int.tmod_eq_emod_of_nonneg u4] at hk; omega
  obtain ⟨f, hf⟩ : ∃ x, 2 + f0 = x := ⟨_, rfl⟩
  obtain ⟨b, hb⟩ : ∃ x, 1 + b0 = x := ⟨_, rfl⟩
  obtain ⟨q1, q2⟩ : 2 ≤ f ∧ f ≤ 64 := by omega
  obtain ⟨q3, q4⟩ : 1 ≤ b ∧ b ≤ 64 := by omega
  obtain ⟨k2, k3⟩ := k1
  clear f1 b1 w0 w1 w2
  obtain ⟨t1, t2, t3, t4, t5, t6, t7⟩ := turn_facts q1 q2 q3 q4 k2 k3
  have HS := Lib.hid (fun m (h0 : 0 ≤ m) (h1 : m < k) (h2 : k - m < f * b) => turn_sector (m := m) q1 q2 q3 q4 k3 h0 h1 h2)
  have C0 := Lib.hid (rcheck_in q1 q2 q3 q4 k2 (by omega : k ≤ 4294967295))
  have C1 := Lib.hid (rcheck_in q1 q2 q3 q4 (by omega : 0 ≤ k + 1) (by omega : k + 1 ≤ 4294967295))
  have C2 := Lib.hid (rcheck_in (f := 2) (by omega) (by omega) q3 q4 k2 (by omega : k ≤ 4294967295))
  have C3 := Lib.hid (fun m (h0 : 0 ≤ m) (h1 : m < k) => rcheck_in q1 q2 q3 q4 h0 (by omega : m ≤ 4294967295))
  obtain ⟨m1, m2⟩ := mul_span q1 q2 q3 q4
  have hB : rBegins b k = (k % b == 0) := by unfold rBegins; rw [if_pos C2.out]
  have hr : k.tmod b = k % b := Int.tmod_eq_emod_of_nonneg k2
  generalize k % b = r at *
  generalize hW : rFirst f b k = was at *
  generalize hI : rFirst f b (k + 1) = is at *
  generalize hA : rSector f b k = at_ at *
  generalize hP : f * b = F at *
  have hF : IntKind.i64.wrap (f * b) = F := by rw [hP, IntKind.wrap_i64]; omega
  have hBeg := Lib.hid hB
  have hWas := Lib.hid hW
  have hIs := Lib.hid hI
  have hAt := Lib.hid hA
  clear hB hW hI hA hP
  have hall : (r == 0) = true ∧ is = was ∨ (r == 0) = false ∧ is = was ∨ (r == 0) = true ∧ is = was + b := by
    rcases t1 with h | ⟨h, h'⟩
    · by_cases h0 : r = 0
      · exact .inl ⟨by simpa using h0, h⟩
      · exact .inr (.inl ⟨by simpa using h0, h⟩)
    · exact .inr (.inr ⟨by simpa using h, h'⟩)
  clear t1
  rcases hall with ⟨e0, rfl⟩ | ⟨e0, rfl⟩ | ⟨e0, e1⟩
  all_goals
    go_enter Try.func8, Try.ntmps8
    go_wp2_with (first
      | (go_at_call 41; refine (rFirst_any _ _ _ _).mono ?_; (first | rw [hWas.out, C0.out] | rw [hIs.out, C1.out]); rintro e w' ⟨rfl, rfl⟩)
      | (go_at_call 49; refine (rBegins_any _ _ _).mono ?_; rw [hBeg.out, C2.out, e0]; rintro e w' ⟨rfl, rfl⟩)
      | (go_at_call 46; refine (rSector_any _ _ _ _).mono ?_; rw [hAt.out, C0.out]; rintro e w' ⟨rfl, rfl⟩))
    all_goals
      clear hWas hIs hBeg
      go_loopw [18] (fun m wr => ∃ x : Int, m = .int .i64 x ∧ 0 ≤ x ∧ k - F < x ∧ Below w'.heap.size w' wr) (fun m _ => (k - intOf m).toNat)
      case atStart => exact ⟨_, rfl, by omega, by omega, Below.refl _ _⟩
      case round =>
        obtain ⟨x, rfl, hx, hx2, hbel⟩ := hrel
        by_cases hlt : x < k
        · obtain ⟨s, hs⟩ : ∃ s, rSector f b x = s := ⟨_, rfl⟩
          have hne : (s == at_) = false := by
            have := HS.out x hx hlt (by omega)
            rw [hs] at this
            simpa using this
          have hs' := Lib.hid hs
          have C := Lib.hid (C3.out x hx hlt)
          have hx64 : x + 1 ≤ 4294967295 := by omega
          clear hs HS C3 C0 C1 C2 hAt
          go_wp2_with (first | (go_at_call 46; refine (rSector_any _ _ _ _).mono ?_; rw [hs'.out, C.out]; rintro e w3 ⟨rfl, rfl⟩))
          go_roundw
          case rel => exact ⟨x + 1, rfl, by omega, by omega, hbel⟩
          case measure => simp [intOf]; omega
        · clear HS C3 C0 C1 C2 hAt
          go_wp2_with (first | (go_at_call 45; refine (known25_any _).mono ?_; rintro e w2 ⟨rfl, hb2⟩))
          go_ret
          exact ⟨rfl, below_step hb2 hbel (Nat.le_refl _)⟩
end Go.Proofs.Ytholdgefpjepfaa
