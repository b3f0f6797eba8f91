/- What Recover finds among the blocks that were written: the plain part of RingWhole. -/
import Derived.Test.YtndfeihlmhhgpaaRingTurned
import Derived.Test.YtndfeihlmhhgpaaRingFirst
namespace Go.Proofs.Ytndfeihlmhhgpaa
open Go.RowKit Go.Proofs.YtndfeihlmhhgpaaW.PrintWords Go.Proofs.YtndfeihlmhhgpaaW.PrintLast Go.Proofs.YtndfeihlmhhgpaaW.PrintMore

def gbW (x : SB) : GB := ⟨x.f0, x.f1, x.f2, x.f3, x.f4.data.toList⟩
def Bw (steps : Int) (n : Int) : GB := gbW (wblock steps n.toNat)
theorem mem_wrow {steps : Int} {a n : Nat} {x : SB} : x ∈ wrow steps a n ↔ ∃ k, a ≤ k ∧ k < n ∧ x = wblock steps k := by
  unfold wrow
  rw [List.mem_map]
  constructor
  · rintro ⟨k, hk, rfl⟩
    rw [List.mem_range'_1] at hk
    exact ⟨k, hk.1, by omega, rfl⟩
  · rintro ⟨k, h0, h1, rfl⟩
    exact ⟨k, by rw [List.mem_range'_1]; omega, rfl⟩
theorem pick_wblock (steps : Int) (k : Nat) (hk : k ≤ 100) : (gbW (wblock steps k)).pick 7 = true := by
  have h0 : decide ((0 : Int) ≤ (k : Int)) = true := decide_eq_true (by omega)
  have h1 : decide ((k : Int) ≤ 4294967295) = true := decide_eq_true (by omega)
  show ((7 : Int) == 7 && (decide ((0 : Int) ≤ (k : Int)) && decide ((k : Int) ≤ 4294967295))) = true
  rw [h0, h1]
  rfl
theorem there_turned {steps : Int} {a n : Nat} (hn : n ≤ 100) {r : List SB} (h3 : ∀ x ∈ r, x.f0 = 8 ∨ x ∈ wrow steps a n) (h4 : ∀ x ∈ wrow steps a n, x ∈ r) :
    There 7 (r.map gbW) (Bw steps) (fun k => (a : Int) ≤ k ∧ k < n) where
  is := fun b hb hp => by
    obtain ⟨x, hx, rfl⟩ := List.mem_map.1 hb
    rcases h3 x hx with h | h
    · have : ((8 : Int) == 7) = true := by
        have hp' : (x.f0 == 7 && _) = true := hp
        rw [h] at hp'
        simp at hp'
      cases this
    · obtain ⟨k, k0, k1, rfl⟩ := mem_wrow.1 h
      exact ⟨by unfold Bw; rfl, by show (a : Int) ≤ (k : Int); omega, by show (k : Int) < n; omega⟩
  all := fun k hk => by
    have hm : wblock steps k.toNat ∈ wrow steps a n := mem_wrow.2 ⟨k.toNat, by omega, by omega, rfl⟩
    refine ⟨gbW (wblock steps k.toNat), List.mem_map.2 ⟨_, h4 _ hm, rfl⟩, pick_wblock _ _ (by omega), ?_⟩
    show ((k.toNat : Nat) : Int) = k
    omega
theorem Bw_len (steps : Int) (i : Nat) : ((Bw steps i).data.length : Int) = wlen i := by
  rw [← wlen_size (i : Int)]
  rfl
theorem sumB_w (steps : Int) (a : Nat) : ∀ k : Nat, sumB (Bw steps) k a = woff (a + k) - woff a
  | 0 => by simp [sumB]
  | k + 1 => by
    show sumB (Bw steps) k a + ((Bw steps ((a : Int) + k)).data.length : Int) = woff (a + k + 1) - woff a
    rw [sumB_w steps a k, show ((a : Int) + (k : Int)) = ((a + k : Nat) : Int) by omega, Bw_len]
    have e : woff (a + k + 1) = woff (a + k) + wlen ((a + k : Nat) : Int) := rfl
    rw [e]
    omega
theorem Bw_boot (steps : Int) (n : Int) (hn : 1 ≤ n) : (Bw steps (n - 1)).boot ≤ (Bw steps n).boot := by
  obtain ⟨k, rfl⟩ : ∃ k : Nat, n = k + 1 := ⟨(n - 1).toNat, by omega⟩
  show wboot steps (((k : Int) + 1 - 1).toNat + 1) ≤ wboot steps (((k : Int) + 1).toNat + 1)
  rw [show ((k : Int) + 1 - 1).toNat = k by omega, show ((k : Int) + 1).toNat = k + 1 by omega]
  have e : wboot steps (k + 1 + 1) = wboot steps (k + 1) + wbit steps ((k + 1 : Nat) : Int) := rfl
  have := wbit_le steps ((k + 1 : Nat) : Int)
  rw [e]
  omega
theorem Bw_off (steps : Int) (k : Nat) : (Bw steps k).off = woff k := rfl
theorem recover_whole {f b : Int} (q1 : 2 ≤ f) (q2 : f ≤ 64) (q3 : 1 ≤ b) (q4 : b ≤ 64) {steps : Int} {n a c : Nat} (hn0 : 1 ≤ n) (hn : n ≤ 100) (hc : rFirst f b n = c) (ha : a ≤ c) {l : List GB} (H : There 7 l (Bw steps) (fun k => (a : Int) ≤ k ∧ k < n)) :
    recover f b 7 l = ⟨c, n, woff c, woff n - woff c⟩ := by
  obtain ⟨_, t1, t2, _⟩ := turn_facts q1 q2 q3 q4 (k := (n : Int) - 1) (by omega) (by omega)
  rw [show (n : Int) - 1 + 1 = n by omega, hc] at t1 t2
  have hlt : c < n := by omega
  have e : max 0 ((((n : Int) - 1) / b - f + 1) * b) = c := by
    rw [← hc]
    unfold rFirst
    rw [if_pos ⟨rcheck_in q1 q2 q3 q4 (by omega) (by omega), by omega⟩]
  have hd := Int.mul_ediv_add_emod ((n : Int) - 1) b
  have hr0 := Int.emod_nonneg ((n : Int) - 1) (by omega : b ≠ 0)
  have hr1 := Int.emod_lt_of_pos ((n : Int) - 1) (by omega : 0 < b)
  rw [Int.mul_comm] at hd
  have hbeg : (c : Int) ≤ ((n : Int) - 1) / b * b := by
    rw [← e]
    have h1 : 0 ≤ ((n : Int) - 1) / b := Int.ediv_nonneg (by omega) (by omega)
    have h2 : 0 ≤ ((n : Int) - 1) / b * b := Int.mul_nonneg h1 (by omega)
    have h3 : (((n : Int) - 1) / b - f + 1) * b ≤ ((n : Int) - 1) / b * b := Int.mul_le_mul_of_nonneg_right (by omega) (by omega)
    omega
  have := recover_is (files := f) (blocks := b) H (g := (n : Int) - 1) (te := n) (fr := c) q3 (by omega) (fun k hk => by omega) (by omega) (by omega) (fun k h0 h1 => by omega)
    (fun k h0 h1 => Bw_boot steps k (by omega)) (.inr (by omega)) (by omega) (by omega) (fun k h0 h1 => by omega) (.inl e.symm)
  rw [this, if_pos (by omega), Bw_off, show ((n : Int) - c).toNat = n - c by omega, sumB_w, show c + (n - c) = n by omega]
theorem recover_none {f b life : Int} {l : List GB} {B : Int → GB} {P : Int → Prop} (H : There life l B P) (h : ∀ n, ¬ P n) : recover f b life l = ⟨0, 0, 0, 0⟩ := by
  unfold recover
  simp only [H.nothing h]
  rfl
theorem written_any (z : Int) (steps : Int) (a n : Nat) (hz : z = a) (h0 : 0 ≤ steps) (h1 : steps ≤ 18446744073709551615) (hn : n ≤ 100) (w : World) :
    Calls Try.prog 17 #[.int .i64 z, .int .i64 n, .int .u64 steps] w fun e w' => ∃ v : Value, e = .returned v ∧ Kd.R PW.k29 29 w' w.heap.size (fun _ => True) v (wrow steps a n) ∧ Below w.heap.size w w' := by
  subst hz
  exact PW.sacristanlaw25_written.calls (n + 1) _ _ _ (wrow steps a n) w (written_is steps h0 h1 a n hn)
theorem first_le {f b : Int} (q1 : 2 ≤ f) (q2 : f ≤ 64) (q3 : 1 ≤ b) (q4 : b ≤ 64) {n c : Nat} (hn : n ≤ 100) (hc : rFirst f b n = c) : c ≤ n := by
  rcases Nat.eq_zero_or_pos n with rfl | h
  · unfold rFirst at hc
    rw [if_neg (fun h => h.2 rfl)] at hc
    omega
  · obtain ⟨_, t1, t2, _⟩ := turn_facts q1 q2 q3 q4 (k := (n : Int) - 1) (by omega) (by omega)
    rw [show (n : Int) - 1 + 1 = n by omega, hc] at t1 t2
    omega
/-- What Recover finds in a row that holds the blocks from a on, and others of another life. -/
theorem recover_all {f b : Int} (q1 : 2 ≤ f) (q2 : f ≤ 64) (q3 : 1 ≤ b) (q4 : b ≤ 64) {steps : Int} {n a c : Nat} (hn : n ≤ 100) (hc : rFirst f b n = c) (ha : a ≤ c) {r : List SB}
    (h3 : ∀ x ∈ r, (x.f0 = 8 ∧ ∃ y ∈ wrow steps a n, x.f4 = y.f4) ∨ x ∈ wrow steps a n) (h4 : ∀ x ∈ wrow steps a n, x ∈ r) : recover f b 7 (r.map gbW) = ⟨c, n, woff c, woff n - woff c⟩ := by
  have H := there_turned (steps := steps) (a := a) hn (r := r) (fun x hx => (h3 x hx).imp (fun h => h.1) id) h4
  rcases Nat.eq_zero_or_pos n with rfl | h
  · have e := recover_none (f := f) (b := b) H (fun k hk => by have := hk.1; have := hk.2; omega)
    have := first_le q1 q2 q3 q4 hn hc
    obtain rfl : c = 0 := by omega
    rw [e]
    rfl
  · exact recover_whole q1 q2 q3 q4 h hn hc ha H
theorem RowB_W {w : World} {A : Option Addr} {l : List SB} (hr : Kd.C PW.k29 w A l.length l) : RowB w A (l.map gbW) := fun i hi => by
  have hlm : (l.map gbW).length = l.length := List.length_map _
  have hi' : i < l.length := by rw [← hlm]; exact hi
  obtain ⟨ad, e, h0, h1, h2, h3, h4⟩ := PW.at_T29 hr (i : Int) (by omega) (by omega)
  rw [rd_get l i hi', Int.toNat_natCast] at h0 h1 h2 h3 h4
  refine ⟨ad, e, ?_, ?_, ?_, ?_, ?_⟩
  · rw [h0, List.getElem_map]; rfl
  · rw [h1, List.getElem_map]; rfl
  · rw [h2, List.getElem_map]; rfl
  · rw [h3, List.getElem_map]; rfl
  · rw [h4, List.getElem_map]; exact congrArg (fun x => some (Value.string x)) (S_of _).symm
theorem recover_W (f b : Int) (q1 : 2 ≤ f) (q2 : f ≤ 64) (q3 : 1 ≤ b) (q4 : b ≤ 64) (l : List SB) (hlen : l.length ≤ 200) (hd : ∀ x ∈ l, x.f4.size ≤ 10) {p : Plc} (hp : recover f b 7 (l.map gbW) = p) (A : Option Addr) (c : Nat) (w : World) (hr : Kd.C PW.k29 w A l.length l) :
    Calls Try.prog 18 #[.int .i64 f, .int .i64 b, .int .i64 7, .slice A l.length c] w fun e w' => e = .returned (.tuple #[p.val, .int .i64 0]) ∧ Below w.heap.size w w' := by
  have hdat : ∀ g ∈ l.map gbW, g.data.length ≤ 140737488351232 := fun g hg => by
    obtain ⟨x, hx, rfl⟩ := List.mem_map.mp hg
    show x.f4.data.toList.length ≤ _
    rw [Array.length_toList]
    exact Nat.le_trans (hd x hx) (by decide)
  have h := recover_ok f b 7 (l.map gbW) A c w (RowB_W hr) (by rw [List.length_map]; exact Nat.le_trans hlen (by decide)) hdat q1 q2 q3 q4 (by decide) (by decide)
  rw [List.length_map, hp] at h
  exact h
theorem wrow_small {steps : Int} {a n : Nat} {x : SB} (h : x ∈ wrow steps a n) : x.f4.size ≤ 10 := by
  obtain ⟨k, _, _, rfl⟩ := mem_wrow.1 h
  have h1 := wlen_size (k : Int)
  have h2 := wlen_le (k : Int)
  have h3 : (wblock steps k).f4.size = (digits.extract 0 (wlen k).toNat).size := rfl
  rw [h3]
  omega
theorem turned_small {steps : Int} {a n : Nat} {r : List SB} (h3 : ∀ x ∈ r, (x.f0 = 8 ∧ ∃ y ∈ wrow steps a n, x.f4 = y.f4) ∨ x ∈ wrow steps a n) : ∀ x ∈ r, x.f4.size ≤ 10 := fun x hx => by
  rcases h3 x hx with ⟨_, y, hy, e⟩ | h
  · rw [e]; exact wrow_small hy
  · exact wrow_small h
end Go.Proofs.Ytndfeihlmhhgpaa
