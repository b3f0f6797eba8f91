/- A fuse and a disk, as numbers and lists. -/
import Derived.Test.YtjpelmjocdodcaaPures
namespace Go.Proofs.Ytjpelmjocdodcaa

inductive Fz where
  | idle
  | armed (k : Nat)
  | blown
def Fz.burn : Fz → Int × Fz
  | .idle => (0, .idle)
  | .armed 0 => (10, .blown)
  | .armed (k + 1) => (0, .armed k)
  | .blown => (10, .blown)
def Fz.dead : Fz → Bool
  | .blown => true
  | _ => false
def Fz.arm (z : Fz) (k : Int) : Int × Fz :=
  if k < 0 then (3, z) else if z.dead then (7, z) else (0, .armed k.toNat)
def Fz.st : Fz → Int
  | .idle => 0
  | .armed _ => 1
  | .blown => 2
def Fz.left : Fz → Nat
  | .armed k => k
  | _ => 0

/-- A sector's bytes. -/
def secAt (L : List (List UInt8)) (i : Nat) : List UInt8 := L.getD i []
/-- The sectors, and the writes that are pending. -/
structure Dk where
  S : List (List UInt8)
  P : List (Nat × List UInt8)
  full : Bool
def Dk.Ok (D : Dk) : Prop := 1 ≤ D.S.length ∧ D.S.length ≤ 65536 ∧ (∀ s ∈ D.S, s.length = 80) ∧ ∀ p ∈ D.P, p.1 < D.S.length ∧ p.2.length = 80
def Z80 : List UInt8 := List.replicate 80 0
def Dk.new (n : Nat) : Dk := ⟨List.replicate n Z80, [], false⟩
def lastOf (i : Nat) : List (Nat × List UInt8) → List UInt8 → List UInt8
  | [], o => o
  | p :: r, o => lastOf i r (if p.1 = i then p.2 else o)
def Dk.read (D : Dk) (i : Nat) : List UInt8 := lastOf i D.P (secAt D.S i)
def putAll : List (Nat × List UInt8) → List (List UInt8) → List (List UInt8)
  | [], S => S
  | p :: r, S => putAll r (S.set p.1 p.2)
def Dk.sync (D : Dk) : Dk := ⟨putAll D.P D.S, [], D.full⟩
def Dk.write (D : Dk) (i : Nat) (d : List UInt8) : Dk := ⟨D.S, D.P ++ [(i, d)], D.full⟩
/-- Whether the write k is kept. -/
def keepB (keep : Int) (k : Nat) : Bool := !(Go.bits .and .u64 (keep / 2 ^ (k % 64)) 1 == 0)
def tearN (bytes : Int) : Nat := ((bytes.tmod 80 + 80).tmod 80).toNat
def tearAt (keep torn : Int) (n k : Nat) (p : Nat × List UInt8) (S : List (List UInt8)) : List (List UInt8) :=
  if (k : Int) = torn then S.set p.1 (p.2.take n ++ (secAt S p.1).drop n) else if keepB keep k then S.set p.1 p.2 else S
def tearFrom (keep torn : Int) (n : Nat) : Nat → List (Nat × List UInt8) → List (List UInt8) → List (List UInt8)
  | _, [], S => S
  | k, p :: r, S => tearFrom keep torn n (k + 1) r (tearAt keep torn n k p S)
def Dk.crash (D : Dk) (keep torn bytes : Int) : Dk := ⟨tearFrom keep torn (tearN bytes) 0 D.P D.S, [], D.full⟩
def hasE (D : Dk) (i : Int) : Int := if 0 ≤ i ∧ i < D.S.length then 0 else 3
/-- What the calls return, and what they leave. -/
def doWrite (D : Dk) (z : Fz) (i : Int) (s : List UInt8) : Int × Dk × Fz :=
  if hasE D i = 0 then (if s.length = 80 then (if z.burn.1 = 0 then (0, D.write i.toNat s, z.burn.2) else (z.burn.1, D, z.burn.2)) else (2, D, z)) else (hasE D i, D, z)
def doSync (D : Dk) (z : Fz) : Int × Dk × Fz := if z.burn.1 = 0 then (0, D.sync, z.burn.2) else (z.burn.1, D, z.burn.2)
def doRead (D : Dk) (z : Fz) (i : Int) : List UInt8 × Int := if hasE D i = 0 then (if z.dead then ([], 10) else (D.read i.toNat, 0)) else ([], hasE D i)
def doDurable (D : Dk) (i : Int) : List UInt8 := if hasE D i = 0 then secAt D.S i.toNat else []
theorem hasE_cases (D : Dk) (i : Int) : (hasE D i = 0 ∧ 0 ≤ i ∧ i.toNat < D.S.length ∧ (i.toNat : Int) = i) ∨ (hasE D i = 3 ∧ ¬ (0 ≤ i ∧ i < D.S.length)) := by
  unfold hasE
  by_cases h : 0 ≤ i ∧ i < D.S.length
  · rw [if_pos h]; exact .inl ⟨rfl, h.1, by omega, by omega⟩
  · rw [if_neg h]; exact .inr ⟨rfl, h⟩
theorem Fz.burn_cases (z : Fz) : (z.burn.1 = 0 ∧ z.dead = false) ∨ z.burn.1 = 10 := by
  rcases z with _ | ⟨_ | k⟩ | _
  · exact .inl ⟨rfl, rfl⟩
  · exact .inr rfl
  · exact .inl ⟨rfl, rfl⟩
  · exact .inr rfl
theorem tmod80 (b : Int) : -80 < b.tmod 80 ∧ b.tmod 80 < 80 := by
  cases b with
  | ofNat m =>
    have h : (Int.ofNat m).tmod 80 = ((m % 80 : Nat) : Int) := rfl
    rw [h]; omega
  | negSucc m =>
    have h : (Int.negSucc m).tmod 80 = -(((m + 1) % 80 : Nat) : Int) := rfl
    rw [h]; omega
theorem tearN_lt (b : Int) : tearN b < 80 := by
  unfold tearN
  have h := tmod80 b
  have h0 : 0 ≤ b.tmod 80 + 80 := by omega
  rw [Int.tmod_eq_emod_of_nonneg h0]
  omega
end Go.Proofs.Ytjpelmjocdodcaa
