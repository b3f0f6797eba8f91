/- A record's pieces and sectors, without a program. What record.Read returns. What Read finds, in plain words: a record that lies whole; and, the other way round, what was found lies whole. -/
import Derived.Test.YtjpelmjocdodcaaGFOne
import Derived.Test.YtjpelmjocdodcaaDiskPure
namespace Go.Proofs.Ytjpelmjocdodcaa

def npart (n : Nat) : Nat := max 1 ((n + 43) / 44)
def rpiece (t : List UInt8) (k : Nat) : List UInt8 := (t.take (44 * k + 44)).drop (44 * k)
theorem rpiece_len (t : List UInt8) (k : Nat) : (rpiece t k).length = min (44 * k + 44) t.length - 44 * k := by unfold rpiece; rw [List.length_drop, List.length_take]
theorem rpiece_le (t : List UInt8) (k : Nat) : (rpiece t k).length ≤ 44 := by rw [rpiece_len]; omega
/-- The numbers of a record that is valid. -/
def ROk (boot lsn : Int) : Prop := 1 ≤ boot ∧ boot ≤ 4294967295 ∧ 1 ≤ lsn ∧ lsn ≤ 281474976710655
instance (boot lsn : Int) : Decidable (ROk boot lsn) := by unfold ROk; infer_instance
def recF (boot lsn kind : Int) (t : List UInt8) (k : Nat) : Frm := ⟨boot.toNat, lsn.toNat, k, npart t.length, kind.toNat, rpiece t k⟩
/-- The sectors of a record, and the error. -/
def recSecs (boot lsn kind : Int) (t : List UInt8) : List (List UInt8) × Int :=
  if 4096 < t.length then ([], 5) else if ROk boot lsn then ((List.range (npart t.length)).map fun k => (recF boot lsn kind t k).sec, 0) else ([], 2)
theorem npart_pos (n : Nat) : 1 ≤ npart n := by unfold npart; omega
theorem npart_le {n : Nat} (h : n ≤ 4096) : npart n ≤ 94 := by unfold npart; omega
/-- Encode of a piece. -/
theorem fencOf_piece {boot lsn kind : Int} {t : List UInt8} {k : Nat} (ht : t.length ≤ 4096) (hk : k < npart t.length) :
    fencOf boot lsn k (npart t.length : Nat) kind (rpiece t k) = if ROk boot lsn then ((recF boot lsn kind t k).sec, 0) else ([], 2) := by
  have h1 := rpiece_le t k
  have h2 := npart_le ht
  have h3 := npart_pos t.length
  unfold fencOf
  rw [if_neg (by omega)]
  by_cases h : ROk boot lsn
  · rw [if_pos h, if_pos (by unfold FOk; unfold ROk at h; omega)]
    unfold recF
    simp
  · rw [if_neg h, if_neg (by unfold FOk; unfold ROk at h; omega)]
theorem recF_ok {boot lsn kind : Int} {t : List UInt8} {k : Nat} (hk : 0 ≤ kind ∧ kind < 256) (ht : t.length ≤ 4096) (h : ROk boot lsn) (hn : k < npart t.length) : (recF boot lsn kind t k).Ok := by
  have h1 := rpiece_le t k
  have h2 := npart_le ht
  unfold ROk at h
  unfold recF Frm.Ok
  dsimp only
  omega
theorem recSecs_long {boot lsn kind : Int} {t : List UInt8} (h : 4096 < t.length) : recSecs boot lsn kind t = ([], 5) := by unfold recSecs; rw [if_pos h]
theorem recSecs_bad {boot lsn kind : Int} {t : List UInt8} (h : t.length ≤ 4096) (hb : ¬ ROk boot lsn) : recSecs boot lsn kind t = ([], 2) := by unfold recSecs; rw [if_neg (by omega), if_neg hb]
theorem recSecs_ok {boot lsn kind : Int} {t : List UInt8} (h : t.length ≤ 4096) (hb : ROk boot lsn) : recSecs boot lsn kind t = ((List.range (npart t.length)).map fun k => (recF boot lsn kind t k).sec, 0) := by unfold recSecs; rw [if_neg (by omega), if_pos hb]
theorem rpiece_sub {t : List UInt8} {k j : Nat} (hj : j < (rpiece t k).length) (h : 44 * k + j < t.length) : (rpiece t k)[j] = t[44 * k + j] := by
  have h1 : (rpiece t k)[j]? = some t[44 * k + j] := by
    rw [rpiece_len] at hj
    unfold rpiece
    rw [List.getElem?_drop, List.getElem?_take, if_pos (by omega), List.getElem?_eq_getElem h]
  exact (List.getElem?_eq_some_iff.1 h1).2
end Go.Proofs.Ytjpelmjocdodcaa
namespace Go.Proofs.Ytjpelmjocdodcaa

/-- The frame that the sector at + i holds. -/
def rdec (rd : Nat → List UInt8) (a i : Nat) : Option Frm := fdecodeOf (rd (a + i))
def rdata (rd : Nat → List UInt8) (a : Nat) : Nat → List UInt8
  | 0 => []
  | k + 1 => rdata rd a k ++ (match rdec rd a k with | some f => f.data | none => [])
def rsecs (rd : Nat → List UInt8) (a k : Nat) : List (List UInt8) := (List.range k).map fun i => rd (a + i)
theorem rsecs_len (rd : Nat → List UInt8) (a k : Nat) : (rsecs rd a k).length = k := by simp [rsecs]
theorem rsecs_succ (rd : Nat → List UInt8) (a k : Nat) : rsecs rd a (k + 1) = rsecs rd a k ++ [rd (a + k)] := by simp [rsecs, List.range_succ]
/-- All the sectors of a record lie ahead of the end and hold frames. -/
def rwhole (rd : Nat → List UInt8) (a n k : Nat) : Prop := ∀ i, i < k → a + i < n ∧ (rdec rd a i).isSome = true
instance (rd : Nat → List UInt8) (a n k : Nat) : Decidable (rwhole rd a n k) := by unfold rwhole; infer_instance
def rgood (rd : Nat → List UInt8) (a n : Nat) (lsn boot : Int) (f : Frm) : Prop :=
  rwhole rd a n f.parts ∧ (recSecs f.boot f.lsn f.kind (rdata rd a f.parts)).2 = 0 ∧ (f.lsn : Int) = lsn ∧ boot ≤ f.boot ∧ rsecs rd a f.parts = (recSecs f.boot f.lsn f.kind (rdata rd a f.parts)).1
instance (rd : Nat → List UInt8) (a n : Nat) (lsn boot : Int) (f : Frm) : Decidable (rgood rd a n lsn boot f) := by unfold rgood; infer_instance
def recRead (rd : Nat → List UInt8) (a n : Nat) (lsn boot : Int) : Option Frm :=
  match rdec rd a 0 with
  | none => none
  | some f => if rgood rd a n lsn boot f then some ⟨f.boot, f.lsn, f.part, f.parts, f.kind, rdata rd a f.parts⟩ else none
theorem recRead_none {rd : Nat → List UInt8} {a n : Nat} {lsn boot : Int} (h : rdec rd a 0 = none) : recRead rd a n lsn boot = none := by unfold recRead; rw [h]
theorem recRead_bad {rd : Nat → List UInt8} {a n : Nat} {lsn boot : Int} {f : Frm} (h : rdec rd a 0 = some f) (hb : ¬ rgood rd a n lsn boot f) : recRead rd a n lsn boot = none := by unfold recRead; rw [h]; exact if_neg hb
theorem recRead_good {rd : Nat → List UInt8} {a n : Nat} {lsn boot : Int} {f : Frm} (h : rdec rd a 0 = some f) (hb : rgood rd a n lsn boot f) : recRead rd a n lsn boot = some ⟨f.boot, f.lsn, f.part, f.parts, f.kind, rdata rd a f.parts⟩ := by unfold recRead; rw [h]; exact if_pos hb
theorem rdec_ok {rd : Nat → List UInt8} {a i : Nat} {f : Frm} (h : rdec rd a i = some f) : f.Ok ∧ f.sec = rd (a + i) := fdecodeOf_some h
/-- A sector that is not there, or holds no frame. -/
theorem recRead_stop {rd : Nat → List UInt8} {a n i : Nat} {lsn boot : Int} {f : Frm} (h : rdec rd a 0 = some f) (hi : i < f.parts) (hb : ¬ (a + i < n ∧ (rdec rd a i).isSome = true)) : recRead rd a n lsn boot = none :=
  recRead_bad h (fun g => hb (g.1 i hi))
theorem recRead_first {rd : Nat → List UInt8} {a n : Nat} {lsn boot : Int} (hb : ¬ (a < n ∧ (rdec rd a 0).isSome = true)) : recRead rd a n lsn boot = none := by
  cases h : rdec rd a 0 with
  | none => exact recRead_none h
  | some f =>
    refine recRead_stop h (i := 0) (by have := (rdec_ok h).1; unfold Frm.Ok at this; omega) ?_
    rw [Nat.add_zero]
    exact hb
theorem rdata_len (rd : Nat → List UInt8) (a k : Nat) : (rdata rd a k).length ≤ 44 * k := by
  induction k with
  | zero => exact Nat.le_refl _
  | succ k ih =>
    unfold rdata
    rw [List.length_append]
    have : (match rdec rd a k with | some f => f.data | none => []).length ≤ 44 := by
      cases h : rdec rd a k with
      | none => exact Nat.zero_le _
      | some f => have := (rdec_ok h).1; unfold Frm.Ok at this; exact this.2.2.2.2.2.2.2
    omega
theorem rdata_succ {rd : Nat → List UInt8} {a k : Nat} {f : Frm} (h : rdec rd a k = some f) : rdata rd a (k + 1) = rdata rd a k ++ f.data := by
  show rdata rd a k ++ _ = _
  rw [h]
/-- The number of the error that a call with such arguments returns ahead of all reading. -/
def readE (D : Dk) (z : Fz) (a n : Int) : Int := if a < 0 ∨ n < a ∨ (D.S.length : Int) < n then 3 else if z.dead then 10 else 0
end Go.Proofs.Ytjpelmjocdodcaa
namespace Go.Proofs.Ytjpelmjocdodcaa

theorem recF_val {boot lsn kind : Int} {t : List UInt8} {k : Nat} : (recF boot lsn kind t k).data = rpiece t k := rfl
theorem take_piece (t : List UInt8) (k : Nat) : t.take (44 * k) ++ rpiece t k = t.take (44 * (k + 1)) := by
  unfold rpiece
  have h := List.take_append_drop (44 * k) (t.take (44 * k + 44))
  rw [List.take_take, show min (44 * k) (44 * k + 44) = 44 * k by omega] at h
  rw [h]
  rfl
theorem rdata_of {rd : Nat → List UInt8} {a : Nat} {t : List UInt8} {f : Nat → Frm} {n : Nat} (h : ∀ k, k < n → rdec rd a k = some (f k) ∧ (f k).data = rpiece t k) : rdata rd a n = t.take (44 * n) := by
  induction n with
  | zero => simp [rdata]
  | succ n ih =>
    obtain ⟨h1, h2⟩ := h n (Nat.lt_succ_self n)
    rw [rdata_succ h1, h2, ih fun k hk => h k (by omega), take_piece]
theorem take_all (t : List UInt8) : t.take (44 * npart t.length) = t := List.take_of_length_le (by unfold npart; omega)
/-- The sectors of a record lie at A. -/
def RAt (rd : Nat → List UInt8) (A : Nat) (b l kind : Int) (t : List UInt8) : Prop := ∀ k, k < npart t.length → rd (A + k) = (recF b l kind t k).sec
theorem RAt.dec {rd : Nat → List UInt8} {A : Nat} {b l kind : Int} {t : List UInt8} (h : RAt rd A b l kind t) (hk : 0 ≤ kind ∧ kind < 256) (ht : t.length ≤ 4096) (hb : ROk b l) {k : Nat} (hn : k < npart t.length) : rdec rd A k = some (recF b l kind t k) := by
  unfold rdec
  rw [h k hn]
  exact fdecodeOf_sec (recF_ok hk ht hb hn)
theorem RAt.data {rd : Nat → List UInt8} {A : Nat} {b l kind : Int} {t : List UInt8} (h : RAt rd A b l kind t) (hk : 0 ≤ kind ∧ kind < 256) (ht : t.length ≤ 4096) (hb : ROk b l) : rdata rd A (npart t.length) = t := by
  rw [rdata_of (f := recF b l kind t) fun k hn => ⟨h.dec hk ht hb hn, rfl⟩, take_all]
theorem RAt.secs {rd : Nat → List UInt8} {A : Nat} {b l kind : Int} {t : List UInt8} (h : RAt rd A b l kind t) (ht : t.length ≤ 4096) (hb : ROk b l) : rsecs rd A (npart t.length) = (recSecs b l kind t).1 := by
  rw [recSecs_ok ht hb]
  unfold rsecs
  exact List.map_congr_left fun k hk => h k (List.mem_range.1 hk)
theorem recF_toNat (b l kind : Int) (t : List UInt8) : recF (b.toNat : Nat) (l.toNat : Nat) (kind.toNat : Nat) t = recF b l kind t := by
  funext k
  unfold recF
  simp
  omega
/-- What Read returns where a whole record lies. -/
def rfound (b l kind : Int) (t : List UInt8) : Frm := ⟨b.toNat, l.toNat, 0, npart t.length, kind.toNat, t⟩
theorem RAt.found {rd : Nat → List UInt8} {A N : Nat} {b l kind : Int} {t : List UInt8} (h : RAt rd A b l kind t) (hk : 0 ≤ kind ∧ kind < 256) (ht : t.length ≤ 4096) (hb : ROk b l) (hN : A + npart t.length ≤ N) {boot : Int} (hle : boot ≤ b) :
    recRead rd A N l boot = some (rfound b l kind t) := by
  have hp := npart_pos t.length
  have h0 := h.dec hk ht hb (k := 0) (by omega)
  have hb' := hb
  unfold ROk at hb'
  have e1 : ((recF b l kind t 0).boot : Int) = b := by show (b.toNat : Int) = b; omega
  have e2 : ((recF b l kind t 0).lsn : Int) = l := by show (l.toNat : Int) = l; omega
  have e3 : ((recF b l kind t 0).kind : Int) = kind := by show (kind.toNat : Int) = kind; omega
  have e4 : (recF b l kind t 0).parts = npart t.length := rfl
  rw [recRead_good h0]
  · rw [e4, h.data hk ht hb]
    rfl
  · unfold rgood
    rw [e1, e2, e3, e4, h.data hk ht hb]
    refine ⟨fun i hi => ⟨by omega, by rw [h.dec hk ht hb hi]; rfl⟩, by rw [recSecs_ok ht hb], rfl, hle, h.secs ht hb⟩
/-- What was found lies there whole. -/
theorem recRead_inv {rd : Nat → List UInt8} {A N : Nat} {lsn boot : Int} {r : Frm} (h : recRead rd A N lsn boot = some r) :
    r.data.length ≤ 4096 ∧ ROk r.boot r.lsn ∧ r.part = 0 ∧ r.parts = npart r.data.length ∧ (r.lsn : Int) = lsn ∧ boot ≤ r.boot ∧ r.kind < 256 ∧ A + r.parts ≤ N ∧ RAt rd A r.boot r.lsn r.kind r.data := by
  unfold recRead at h
  cases h0 : rdec rd A 0 with
  | none => rw [h0] at h; cases h
  | some f =>
    rw [h0] at h
    dsimp only at h
    by_cases hg : rgood rd A N lsn boot f
    · rw [if_pos hg] at h
      obtain rfl := Option.some.inj h
      dsimp only
      obtain ⟨g1, g2, g3, g4, g5⟩ := hg
      obtain ⟨ok, hs⟩ := rdec_ok h0
      rw [Nat.add_zero] at hs
      generalize hR : rdata rd A f.parts = R at g2 g5 ⊢
      have ok' := ok
      unfold Frm.Ok at ok'
      by_cases hl : 4096 < R.length
      · rw [recSecs_long hl] at g2; simp at g2
      · by_cases hb : ROk f.boot f.lsn
        · rw [recSecs_ok (by omega) hb] at g5
          have hlen := congrArg List.length g5
          rw [rsecs_len, List.length_map, List.length_range] at hlen
          have hat : RAt rd A f.boot f.lsn f.kind R := fun k hk => by
            have h1 : (rsecs rd A f.parts)[k]? = some (rd (A + k)) := by
              unfold rsecs
              rw [List.getElem?_map, List.getElem?_range (by omega)]
              rfl
            rw [g5, List.getElem?_map, List.getElem?_range hk] at h1
            exact (Option.some.inj h1).symm
          have h00 := hat 0 (npart_pos _)
          rw [Nat.add_zero, ← hs] at h00
          have hf := fsec_inj ok (recF_ok (by omega) (by omega) hb (npart_pos _)) h00
          refine ⟨by omega, hb, ?_, hlen, g3, g4, by omega, ?_, hat⟩
          · rw [hf]; rfl
          · have := (g1 (f.parts - 1) (by omega)).1; omega
        · rw [recSecs_bad (by omega) hb] at g2; simp at g2
    · rw [if_neg hg] at h; cases h
/-- A record of another number or of a lesser boot, or one that the end cuts off, or another part of it, is not found. -/
theorem RAt.not {rd : Nat → List UInt8} {A N : Nat} {b l kind : Int} {t : List UInt8} {k : Nat} (h : rd A = (recF b l kind t k).sec) (hn : k < npart t.length) (hk : 0 ≤ kind ∧ kind < 256) (ht : t.length ≤ 4096) (hb : ROk b l) {lsn boot : Int}
    (hne : k ≠ 0 ∨ lsn ≠ l ∨ b < boot ∨ N < A + npart t.length) : recRead rd A N lsn boot = none := by
  cases hr : recRead rd A N lsn boot with
  | none => rfl
  | some r =>
    exfalso
    obtain ⟨i1, i2, i3, i4, i5, i6, i7, i8, i9⟩ := recRead_inv hr
    have hp := npart_pos r.data.length
    have h0 := i9 0 hp
    rw [Nat.add_zero, h] at h0
    have e := fsec_inj (recF_ok hk ht hb hn) (recF_ok (by omega) i1 i2 hp) h0
    unfold ROk at hb i2
    have q1 : k = 0 := congrArg Frm.part e
    have q2 : l.toNat = (r.lsn : Int).toNat := congrArg Frm.lsn e
    have q3 : b.toNat = (r.boot : Int).toNat := congrArg Frm.boot e
    have q4 : npart t.length = npart r.data.length := congrArg Frm.parts e
    omega
/-- A sector that holds no frame is no record's. -/
theorem recRead_nof {rd : Nat → List UInt8} {A N i : Nat} {lsn boot : Int} {b l kind : Int} {t : List UInt8} (h0 : i ≠ 0 → rd A = (recF b l kind t 0).sec) (hk : 0 ≤ kind ∧ kind < 256) (ht : t.length ≤ 4096) (hb : ROk b l) (hn : i < npart t.length)
    (hf : rdec rd A i = none) : recRead rd A N lsn boot = none := by
  by_cases hi : i = 0
  · subst hi; exact recRead_none hf
  · have h1 : rdec rd A 0 = some (recF b l kind t 0) := by
      unfold rdec
      rw [Nat.add_zero, h0 hi]
      exact fdecodeOf_sec (recF_ok hk ht hb (npart_pos _))
    exact recRead_stop h1 (i := i) hn (fun h => by rw [hf] at h; simp at h)
end Go.Proofs.Ytjpelmjocdodcaa
