/- What sacristanlaw25.turned computes: the blocks in another order, with blocks of another life between. -/
import Derived.Test.YtndfeihlmhhgpaaRingWritten
namespace Go.Proofs.Ytndfeihlmhhgpaa
open Go.RowKit Go.Proofs.YtndfeihlmhhgpaaW.PrintWords Go.Proofs.YtndfeihlmhhgpaaW.PrintLast Go.Proofs.YtndfeihlmhhgpaaW.PrintMore

theorem rd_get (l : List SB) (i : Nat) (h : i < l.length) : PW.rd_T29 l (i : Int) = l[i] := by
  unfold PW.rd_T29
  rw [Int.toNat_natCast, List.getD_eq_getElem?_getD, List.getElem?_eq_getElem h]
  rfl
theorem turn_arith (i t n : Nat) (h : i < n) (hn : n ≤ 100) (ht : t ≤ 255) :
    (i : Int) < (n : Int) ∧ ¬ (n : Int) = 0 ∧ wrap64 (t : Int) = t ∧ wrap64 ((i : Int) + t) = ((i + t : Nat) : Int) ∧ (((i + t : Nat) : Int)).tmod (n : Int) = (((i + t) % n : Nat) : Int) ∧ wrap64 ((i : Int) + 1) = ((i + 1 : Nat) : Int) ∧
    (0 : Int) ≤ (((i + t) % n : Nat) : Int) ∧ (((i + t) % n : Nat) : Int) < (n : Int) := by
  have hm : (i + t) % n < n := Nat.mod_lt _ (by omega)
  refine ⟨by omega, by omega, w64 (by omega) (by omega), w64 (by omega) (by omega), ?_, ?_, Int.natCast_nonneg _, by omega⟩
  · rw [Int.tmod_eq_emod_of_nonneg (by omega)]; rfl
  · rw [w64 (by omega) (by omega)]; rfl
theorem turned_from (l : List SB) (t : Nat) (ht : t ≤ 255) (hl : l.length ≤ 100) : ∀ (j i : Nat) (x5 : List SB), i + j = l.length → x5.length = 2 * i → (∀ x ∈ x5, (x.f0 = 8 ∧ ∃ y ∈ l, x.f4 = y.f4) ∨ x ∈ l) →
    ∃ r, PW.sacristanlaw25_turned.l0 (j + 1) l t x5 i = some r ∧ (∀ x ∈ x5, x ∈ r) ∧ (∀ x ∈ r, (x.f0 = 8 ∧ ∃ y ∈ l, x.f4 = y.f4) ∨ x ∈ l) ∧ (∀ m, i ≤ m → m < l.length → ∀ h : (m + t) % l.length < l.length, l[(m + t) % l.length] ∈ r) ∧ r.length = 2 * l.length
  | 0, i, x5, hi, h5, hm => by
    refine ⟨x5, ?_, fun x hx => hx, hm, fun m h0 h1 => absurd h1 (by omega), by omega⟩
    have c : ¬ (i : Int) < (l.length : Int) := by omega
    unfold PW.sacristanlaw25_turned.l0
    rw [if_neg c]
  | j + 1, i, x5, hi, h5, hm => by
    have hlt : (i + t) % l.length < l.length := Nat.mod_lt _ (by omega)
    have ar := turn_arith i t l.length (by omega) hl ht
    have c5 : x5.length + 2 < 2932031007402 := by omega
    have hi1 : i + 1 + j = l.length := by omega
    have h51 : x5.length + 2 = 2 * (i + 1) := by omega
    obtain ⟨v, hv⟩ : ∃ v, v = wrap64 (l[(i + t) % l.length].f2 + wrap64 ((t : Int).tmod 3)) := ⟨_, rfl⟩
    have ih := turned_from l t ht hl j (i + 1) (x5 ++ [⟨8, l[(i + t) % l.length].f1, v, l[(i + t) % l.length].f3, l[(i + t) % l.length].f4⟩, l[(i + t) % l.length]]) hi1 (by rw [List.length_append]; exact h51)
      (fun x hx => by
        rcases List.mem_append.1 hx with hx | hx
        · exact hm x hx
        · rcases List.mem_cons.1 hx with rfl | hx
          · exact .inl ⟨rfl, l[(i + t) % l.length], List.getElem_mem _, rfl⟩
          · rw [List.mem_singleton] at hx; subst hx; exact .inr (List.getElem_mem _))
    obtain ⟨r, h1, h2, h3, h4, h6⟩ := ih
    refine ⟨r, ?_, fun x hx => h2 x (List.mem_append_left _ hx), h3, fun m h0 hm1 hh => ?_, h6⟩
    · obtain ⟨c1, c2, w1, w2, w3, w4, c3, c4⟩ := ar
      unfold PW.sacristanlaw25_turned.l0
      rw [if_pos c1, if_neg c2, w1, w2, w3, if_pos c3, if_pos c4, rd_get l _ hlt, w4]
      rw [← hv]
      rw [Option.bind_some]
      have c6 : x5.length + ([⟨8, l[(i + t) % l.length].f1, v, l[(i + t) % l.length].f3, l[(i + t) % l.length].f4⟩, ⟨l[(i + t) % l.length].f0, l[(i + t) % l.length].f1, l[(i + t) % l.length].f2, l[(i + t) % l.length].f3, l[(i + t) % l.length].f4⟩] : List SB).length < 2932031007402 := c5
      rw [if_pos c6]
      exact h1
    · by_cases hmi : m = i
      · subst hmi
        exact h2 _ (by simp)
      · exact h4 m (Nat.lt_of_le_of_ne h0 (fun e => hmi e.symm)) hm1 hh
theorem turned_is (l : List SB) (t : Nat) (ht : t ≤ 255) (hl : l.length ≤ 100) :
    ∃ r, PW.sacristanlaw25_turned.f (l.length + 1) l t = some r ∧ (∀ x ∈ r, (x.f0 = 8 ∧ ∃ y ∈ l, x.f4 = y.f4) ∨ x ∈ l) ∧ (∀ x ∈ l, x ∈ r) ∧ r.length = 2 * l.length := by
  obtain ⟨r, h1, h2, h3, h4, h6⟩ := turned_from l t ht hl l.length 0 [] (by omega) rfl (fun x hx => by cases hx)
  refine ⟨r, h1, h3, fun x hx => ?_, h6⟩
  obtain ⟨k, hk, rfl⟩ := List.mem_iff_getElem.1 hx
  have hpos : 0 < l.length := by omega
  have e : ((k + (l.length - t % l.length)) % l.length + t) % l.length = k := by
    rw [Nat.mod_add_mod]
    have ht1 := Nat.mod_add_div t l.length
    have ht2 := Nat.mod_lt t hpos
    have : k + (l.length - t % l.length) + t = k + l.length * (1 + t / l.length) := by
      rw [Nat.mul_add, Nat.mul_one]
      omega
    rw [this, Nat.add_mul_mod_self_left, Nat.mod_eq_of_lt hk]
  have := h4 ((k + (l.length - t % l.length)) % l.length) (by omega) (Nat.mod_lt _ hpos) (by rw [e]; exact hk)
  simp only [e] at this
  exact this
end Go.Proofs.Ytndfeihlmhhgpaa
