/- A disk with the writes to one sector alone, and losing against tearing with no bytes. -/
import Derived.Test.YtjpelmjocdodcaaBytesPure
import Derived.Test.YtjpelmjocdodcaaAgainPure
namespace Go.Proofs.Ytjpelmjocdodcaa

/-- The same writes, but only those to one sector have their seed. -/
def aloneL (n at_ : Nat) (l : List (Nat × Nat)) : List (Nat × Nat) := l.map fun p => (p.1, if p.1 % n = at_ then p.2 else 0)
theorem aloneL_length (n at_ : Nat) (l : List (Nat × Nat)) : (aloneL n at_ l).length = l.length := List.length_map ..
theorem aloneL_at (n at_ : Nat) (l : List (Nat × Nat)) {i : Nat} (hi : i < l.length) : (aloneL n at_ l).getD i (0, 0) = (l[i].1, if l[i].1 % n = at_ then l[i].2 else 0) := by
  unfold aloneL
  rw [List.getD_eq_getElem?_getD, List.getElem?_map, List.getElem?_eq_getElem hi]
  rfl
theorem fillAt_step0 (n : Nat) (l : List (Nat × Nat)) (i : Nat) : fillAt n 0 l (i + 1) = (fillAt n 0 l i).write ((l.getD i (0, 0)).1 % n) (sectorOf (l.getD i (0, 0)).2) := by
  show (if (i : Int) + 1 = 0 then _ else _) = _
  rw [if_neg (by omega)]
theorem alone_step (n at_ : Nat) (l : List (Nat × Nat)) {i a b b' r : Nat} (hi : i < l.length) (hab : l[i] = (a, b)) (hr : a % n = r) (hb : (if r = at_ then b else 0) = b') :
    fillAt n 0 (aloneL n at_ l) (i + 1) = (fillAt n 0 (aloneL n at_ l) i).write r (sectorOf b') := by
  rw [fillAt_step0, aloneL_at n at_ l hi, hab]
  dsimp only
  rw [hr, hb]
theorem fillAt_S0 (n : Nat) (l : List (Nat × Nat)) : ∀ i, (fillAt n 0 l i).S = List.replicate n Z80
  | 0 => rfl
  | i + 1 => by rw [fillAt_step0]; exact fillAt_S0 n l i
theorem fillD_P0 (n : Nat) (l : List (Nat × Nat)) : (fillD n 0 l).P = l.map (putOf n) := fillD_P n 0 l (Nat.zero_le _)
theorem alone_sec (n at_ : Nat) (l : List (Nat × Nat)) (k t b : Int) (h : at_ < n) : secAt ((fillD n 0 (aloneL n at_ l)).crash k t b).S at_ = secAt ((fillD n 0 l).crash k t b).S at_ := by
  have e1 : (fillD n 0 (aloneL n at_ l)).S = (fillD n 0 l).S := (fillAt_S0 ..).trans (fillAt_S0 ..).symm
  show secAt (tearFrom k t (tearN b) 0 (fillD n 0 (aloneL n at_ l)).P (fillD n 0 (aloneL n at_ l)).S) at_ = secAt (tearFrom k t (tearN b) 0 (fillD n 0 l).P (fillD n 0 l).S) at_
  rw [e1, fillD_P0, fillD_P0]
  refine tearFrom_one k t (tearN b) at_ _ _ 0 _ _ rfl (by rw [fillD_length]; exact h) rfl (by simp [aloneL_length]) (fun j p p' hp hp' => ?_)
  rw [List.getElem?_map] at hp hp'
  unfold aloneL at hp
  rw [List.getElem?_map] at hp
  cases hl : l[j]? with
  | none => rw [hl] at hp'; cases hp'
  | some q =>
    rw [hl] at hp hp'
    obtain rfl := Option.some.inj hp
    obtain rfl := Option.some.inj hp'
    refine ⟨rfl, fun e => ?_⟩
    have e' : q.1 % n = at_ := e
    show sectorOf (if q.1 % n = at_ then q.2 else 0) = sectorOf q.2
    rw [if_pos e']
/-- Tearing with no bytes is losing. -/
theorem lost_zero (n : Nat) (l : List (Nat × Nat)) (keep keep' torn : Int) (h0 : 0 < n) (h : ∀ j : Nat, j < l.length → if (j : Int) = torn then keepB keep' j = false else keepB keep' j = keepB keep j) :
    (fillD n 0 l).crash keep torn 0 = (fillD n 0 l).crash keep' (-1) 0 := by
  have hP := fillD_P0 n l
  unfold Dk.crash
  have e := tearFrom_zero keep keep' torn (-1) (tearN 0) (fillD n 0 l).P 0 (fillD n 0 l).S (fun p hp => by
    rw [hP] at hp
    obtain ⟨q, _, rfl⟩ := List.mem_map.1 hp
    rw [fillD_length]
    exact Nat.mod_lt _ h0) (fun j _ hj => ⟨by omega, h j (by rw [hP, List.length_map] at hj; omega)⟩)
  rw [show tearN 0 = 0 from rfl] at e ⊢
  rw [e]
end Go.Proofs.Ytjpelmjocdodcaa
