/- A record that a crash has torn: the plain part of RecordTorn. RecordTorn: what the walk needs, in plain words. -/
import Derived.Test.YtjpelmjocdodcaaRecWrite
import Derived.Test.YtjpelmjocdodcaaCrashPure
import Derived.Test.YtjpelmjocdodcaaFrmTear
import Derived.Test.YtjpelmjocdodcaaAgainPure
import Derived.Test.YtjpelmjocdodcaaRecAlone
namespace Go.Proofs.Ytjpelmjocdodcaa

/-- What a crash makes of a sector: the write k to it, and what was there. -/
def mixAt (keep torn : Int) (n k : Nat) (new old : List UInt8) : List UInt8 := if (k : Int) = torn then new.take n ++ old.drop n else if keepB keep k then new else old
theorem tear_wputs (keep torn : Int) (n : Nat) (L : List (List UInt8)) : ∀ (a k0 : Nat) (S0 : List (List UInt8)) (i : Nat), i < S0.length → secAt (tearFrom keep torn n k0 (wputs a L) S0) i = if a ≤ i ∧ i < a + L.length then mixAt keep torn n (k0 + (i - a)) (L.getD (i - a) []) (secAt S0 i) else secAt S0 i := by
  induction L with
  | nil => intro a k0 S0 i hi; rw [if_neg (by simp only [List.length_nil]; omega)]; rfl
  | cons s r ih =>
    intro a k0 S0 i hi
    show secAt (tearFrom keep torn n (k0 + 1) (wputs (a + 1) r) (tearAt keep torn n k0 (a, s) S0)) i = _
    have hl : (tearAt keep torn n k0 (a, s) S0).length = S0.length := tearAt_length ..
    have h1 : secAt (tearAt keep torn n k0 (a, s) S0) i = if a = i then mixAt keep torn n k0 s (secAt S0 i) else secAt S0 i := by
      unfold tearAt mixAt
      by_cases e : (k0 : Int) = torn
      · rw [if_pos e, if_pos e, secAt_set _ _ _ _ hi]
        by_cases e2 : a = i
        · rw [if_pos e2, if_pos e2, e2]
        · rw [if_neg e2, if_neg e2]
      · rw [if_neg e, if_neg e]
        by_cases e3 : keepB keep k0 = true
        · rw [if_pos e3, if_pos e3, secAt_set _ _ _ _ hi]
        · rw [if_neg e3, if_neg e3]; simp
    rw [ih _ _ _ _ (by rw [hl]; exact hi), h1, List.length_cons]
    by_cases e : a = i
    · subst e
      rw [if_neg (by omega), if_pos rfl, if_pos (by omega), Nat.sub_self]
      rfl
    · rw [if_neg e]
      by_cases h : a + 1 ≤ i ∧ i < a + 1 + r.length
      · rw [if_pos h, if_pos (by omega), show i - a = (i - (a + 1)) + 1 by omega, List.getD_cons_succ, show k0 + 1 + (i - (a + 1)) = k0 + (i - (a + 1) + 1) by omega]
      · rw [if_neg h, if_neg (by omega)]
/-- A frame of an older record. -/
def Older (b l : Nat) (f : Frm) : Prop := (f.boot < b ∧ f.lsn = l) ∨ (f.boot = b ∧ f.lsn < l)
def OldSec (b l : Nat) (s : List UInt8) : Prop := s = List.replicate 80 0 ∨ ∃ f : Frm, f.Ok ∧ s = f.sec ∧ Older b l f
theorem mix_dec {keep torn : Int} {n k : Nat} {a : Frm} {old : List UInt8} (hn : n ≤ 80) (ha : a.Ok) (ho : OldSec a.boot a.lsn old) {g : Frm} (h : fdecodeOf (mixAt keep torn n k a.sec old) = some g) :
    mixAt keep torn n k a.sec old = a.sec ∨ Older a.boot a.lsn g := by
  have hold : ∀ f : Frm, f.Ok → Older a.boot a.lsn f → fdecodeOf f.sec = some g → Older a.boot a.lsn g := fun f hf o e => by
    rw [fdecodeOf_sec hf] at e
    obtain rfl := Option.some.inj e
    exact o
  unfold mixAt at h ⊢
  by_cases e : (k : Int) = torn
  · rw [if_pos e] at h ⊢
    by_cases e1 : a.sec.take n ++ old.drop n = a.sec
    · exact .inl e1
    · right
      rcases ho with rfl | ⟨f, hf, rfl, o⟩
      · rw [ftorn_blank ha hn e1] at h; cases h
      · by_cases e2 : a.sec.take n ++ f.sec.drop n = f.sec
        · rw [e2] at h; exact hold f hf o h
        · rw [torn_frames ha hf (by unfold Older at o; omega) hn e1 e2] at h; cases h
  · rw [if_neg e] at h ⊢
    by_cases e3 : keepB keep k = true
    · rw [if_pos e3]; exact .inl rfl
    · rw [if_neg e3] at h
      right
      rcases ho with rfl | ⟨f, hf, rfl, o⟩
      · rw [fdecodeOf_zeros] at h; cases h
      · exact hold f hf o h
theorem pieces_eq {t u : List UInt8} {n : Nat} (h : ∀ k, k < n → rpiece t k = rpiece u k) : t.take (44 * n) = u.take (44 * n) := by
  induction n with
  | zero => rfl
  | succ n ih => rw [← take_piece, ← take_piece, ih fun k hk => h k (by omega), h n (Nat.lt_succ_self n)]
/-- Whole, or not at all. -/
theorem torn_whole {rd : Nat → List UInt8} {keep torn : Int} {n A N : Nat} {b l kind boot : Int} {t : List UInt8} {old : Nat → List UInt8} (hn : n ≤ 80) (hk : 0 ≤ kind ∧ kind < 256) (ht : t.length ≤ 4096) (hb : ROk b l)
    (hrd : ∀ k, k < npart t.length → rd (A + k) = mixAt keep torn n k (recF b l kind t k).sec (old k)) (ho : ∀ k, k < npart t.length → OldSec b.toNat l.toNat (old k)) {r : Frm} (hboot : boot = b) (h : recRead rd A N l boot = some r) : r = rfound b l kind t := by
  subst hboot
  obtain ⟨i1, i2, i3, i4, i5, i6, i7, i8, i9⟩ := recRead_inv h
  have hp := npart_pos t.length
  have hp' := npart_pos r.data.length
  have hb' := hb
  unfold ROk at hb'
  have step : ∀ k, k < npart t.length → k < npart r.data.length → ¬ Older boot.toNat l.toNat (recF r.boot r.lsn r.kind r.data k) → recF r.boot r.lsn r.kind r.data k = recF boot l kind t k := fun k h1 h2 hno => by
    have e1 := i9 k h2
    rw [hrd k h1] at e1
    have ok2 := recF_ok (boot := r.boot) (lsn := r.lsn) (kind := r.kind) (by omega) i1 i2 h2
    have ok1 := recF_ok hk ht hb h1
    rcases mix_dec (keep := keep) (torn := torn) (k := k) hn ok1 (ho k h1) (g := recF r.boot r.lsn r.kind r.data k) (by rw [e1]; exact fdecodeOf_sec ok2) with h3 | h3
    · exact fsec_inj ok2 ok1 (e1.symm.trans h3)
    · exact absurd h3 hno
  have e0 := step 0 hp hp' (by
    unfold Older
    show ¬ (((r.boot : Int).toNat < boot.toNat ∧ (r.lsn : Int).toNat = l.toNat) ∨ ((r.boot : Int).toNat = boot.toNat ∧ (r.lsn : Int).toNat < l.toNat))
    omega)
  have q1 : (r.boot : Int).toNat = boot.toNat := congrArg Frm.boot e0
  have q2 : (r.lsn : Int).toNat = l.toNat := congrArg Frm.lsn e0
  have q3 : npart r.data.length = npart t.length := congrArg Frm.parts e0
  have q4 : (r.kind : Int).toNat = kind.toNat := congrArg Frm.kind e0
  have q5 : r.data = t := by
    have h1 : r.data.take (44 * npart t.length) = t.take (44 * npart t.length) := pieces_eq fun k hk => by
      have e := step k hk (by omega) (by
        unfold Older
        show ¬ (((r.boot : Int).toNat < boot.toNat ∧ (r.lsn : Int).toNat = l.toNat) ∨ ((r.boot : Int).toNat = boot.toNat ∧ (r.lsn : Int).toNat < l.toNat))
        omega)
      exact congrArg Frm.data e
    rw [take_all, ← q3, take_all] at h1
    exact h1
  obtain ⟨rb, rl, rp, rps, rk, rdt⟩ := r
  dsimp only at *
  subst q5
  unfold rfound
  rw [Int.toNat_natCast] at q1 q2 q4
  rw [q1, q2, q4, i3, i4]
theorem torn_all {rd : Nat → List UInt8} {keep torn : Int} {n A N : Nat} {b l kind : Int} {t : List UInt8} {old : Nat → List UInt8} (hk : 0 ≤ kind ∧ kind < 256) (ht : t.length ≤ 4096) (hb : ROk b l) (hN : A + npart t.length ≤ N)
    (hrd : ∀ k, k < npart t.length → rd (A + k) = mixAt keep torn n k (recF b l kind t k).sec (old k)) (hall : ∀ k, k < npart t.length → ¬ (k : Int) = torn ∧ keepB keep k = true) : recRead rd A N l b = some (rfound b l kind t) := by
  have h : RAt rd A b l kind t := fun k hk => by
    rw [hrd k hk]
    unfold mixAt
    rw [if_neg (hall k hk).1, if_pos (hall k hk).2]
  exact h.found hk ht hb hN (Int.le_refl _)
end Go.Proofs.Ytjpelmjocdodcaa
namespace Go.Proofs.Ytjpelmjocdodcaa
open Go.RowKit

theorem and_one (N : Nat) (hN : N < 18446744073709551616) (k : Nat) : (Go.bits .and .u64 ((N : Int) / 2 ^ (k % 64)) 1 == 1) = keepB (N : Int) k := by
  have hj : k % 64 < 64 := Nat.mod_lt _ (by omega)
  rw [keepB_bit N hN]
  obtain ⟨j, hjj⟩ : ∃ j, k % 64 = j := ⟨_, rfl⟩
  rw [hjj]
  have e1 : ((N : Int) / 2 ^ j) = ((N / 2 ^ j : Nat) : Int) := by norm_cast
  have hlt : N / 2 ^ j < 18446744073709551616 := Nat.lt_of_le_of_lt (Nat.div_le_self ..) hN
  have e2 : Go.bits .and .u64 ((N / 2 ^ j : Nat) : Int) 1 = ((N / 2 ^ j % 2 : Nat) : Int) := by
    show IntKind.u64.wrap (((BitVec.ofInt 64 ((N / 2 ^ j : Nat) : Int)) &&& (BitVec.ofInt 64 1)).toNat : Int) = _
    have h3 : ((BitVec.ofInt 64 ((N / 2 ^ j : Nat) : Int)) &&& (BitVec.ofInt 64 1)).toNat = N / 2 ^ j % 2 := by
      rw [BitVec.toNat_and, BitVec.ofInt_natCast, BitVec.toNat_ofNat, Nat.mod_eq_of_lt hlt]
      show (N / 2 ^ j) &&& 1 = _
      exact Nat.and_one_is_mod _
    rw [h3]
    exact wrap_u64 (by omega) (by omega)
  rw [e1, e2, Nat.testBit_eq_decide_div_mod_eq]
  rcases Nat.mod_two_eq_zero_or_one (N / 2 ^ j) with h | h <;> rw [h] <;> rfl
/-- Whether the first i writes are kept, and none is torn. -/
def allB (keep torn : Int) (n i : Nat) : Bool := decide (torn < 0 ∨ (n : Int) ≤ torn) && (List.range i).all fun j => keepB keep j
theorem allB_succ (keep torn : Int) (n i : Nat) : allB keep torn n (i + 1) = (allB keep torn n i && keepB keep i) := by
  unfold allB
  rw [List.range_succ, List.all_append]
  simp [Bool.and_assoc]
theorem allB_true {keep torn : Int} {n : Nat} (h : allB keep torn n n = true) (k : Nat) (hk : k < n) : ¬ (k : Int) = torn ∧ keepB keep k = true := by
  unfold allB at h
  rw [Bool.and_eq_true, decide_eq_true_iff, List.all_eq_true] at h
  exact ⟨by omega, h.2 k (List.mem_range.2 hk)⟩
/-- The sectors of the older record. -/
theorem old_secs {b l x y : Nat} {o : List UInt8} (ho : o.length ≤ 600) (hx : 1 ≤ x ∧ x ≤ 4294967295) (hy : 1 ≤ y ∧ y ≤ 281474976710655) (h : (x < b ∧ y = l) ∨ (x = b ∧ y < l)) :
    (recSecs x y 2 o).2 = 0 ∧ 1 ≤ (recSecs x y 2 o).1.length ∧ (recSecs x y 2 o).1.length ≤ 14 ∧ ∀ s ∈ (recSecs x y 2 o).1, s.length = 80 ∧ OldSec b l s := by
  have hb : ROk x y := by unfold ROk; omega
  have hn : npart o.length ≤ 14 := by unfold npart; omega
  rw [recSecs_ok (by omega) hb]
  refine ⟨rfl, by rw [List.length_map, List.length_range]; exact npart_pos _, by rw [List.length_map, List.length_range]; exact hn, fun s hs => ?_⟩
  obtain ⟨k, hk, rfl⟩ := List.mem_map.1 hs
  refine ⟨(recF x y 2 o k).sec_length (rpiece_le o k), .inr ⟨recF x y 2 o k, recF_ok (by decide) (by omega) hb (List.mem_range.1 hk), rfl, ?_⟩⟩
  unfold Older
  show ((x : Int).toNat < b ∧ (y : Int).toNat = l) ∨ ((x : Int).toNat = b ∧ (y : Int).toNat < l)
  omega
/-- A disk whose sectors are old. -/
def OldD (b l : Nat) (D : Dk) : Prop := D.S.length = 40 ∧ D.P = [] ∧ ∀ i, i < 40 → OldSec b l (secAt D.S i)
theorem oldD_new (b l : Nat) : OldD b l (Dk.new 40) := ⟨List.length_replicate, rfl, fun i hi => .inl (by
  show List.getD (List.replicate 40 Z80) i [] = Z80
  rw [List.getD_eq_getElem?_getD, List.getElem?_replicate, if_pos hi]
  rfl)⟩
theorem oldD_puts {b l a : Nat} {T : List (List UInt8)} (hT : ∀ s ∈ T, OldSec b l s) : OldD b l ((Dk.new 40).puts a T).sync := by
  have hl : ((Dk.new 40).puts a T).S.length = 40 := List.length_replicate
  refine ⟨(putAll_length _ _).trans hl, rfl, fun i hi => ?_⟩
  rw [sync_sec (by rw [hl]; exact hi), puts_read]
  by_cases h : a ≤ i ∧ i < a + T.length
  · rw [if_pos h, List.getD_eq_getElem?_getD, List.getElem?_eq_getElem (by omega)]
    exact hT _ (List.getElem_mem _)
  · rw [if_neg h]
    have h2 := (oldD_new b l).2.2 i hi
    exact h2
/-- What Read returns behind the crash: the whole record, or nothing; and nothing only if not all was kept. -/
theorem torn_read {b l : Nat} {t : List UInt8} (ht : t.length ≤ 600) (hb : 1 ≤ b ∧ b ≤ 4294967295) (hl : 1 ≤ l ∧ l ≤ 281474976710655) {D : Dk} (hD : OldD b l D) (keep torn bytes : Int) (L : List (List UInt8)) (hL : (recSecs b l 2 t).1 = L) (vb vl : Int) (evb : vb = b) (evl : vl = l) :
    readVal ((D.puts 4 L).crash keep torn bytes) .idle 4 40 vl vb = .tuple #[.agg #[.int .i64 vb, .int .i64 vl, .int .i64 0, .int .i64 (L.length : Int), .int .u8 2, .string (S t)], .int .i64 0] ∨
    (readVal ((D.puts 4 L).crash keep torn bytes) .idle 4 40 vl vb = .tuple #[zfrm, .int .i64 12] ∧ allB keep torn L.length L.length = false) := by
  subst evb evl
  have hok : ROk b l := by unfold ROk; omega
  have hlen : L.length = npart t.length := by rw [← hL]; exact recSecs_len (by omega) hok
  have hn : npart t.length ≤ 14 := by unfold npart; omega
  obtain ⟨E, hE⟩ : ∃ E, (D.puts 4 L).crash keep torn bytes = E := ⟨_, rfl⟩
  have hES : E.S = tearFrom keep torn (tearN bytes) 0 (wputs 4 L) D.S := by
    rw [← hE]
    show tearFrom keep torn (tearN bytes) 0 (D.P ++ wputs 4 L) D.S = _
    rw [hD.2.1, List.nil_append]
  have hEP : E.P = [] := by rw [← hE]; rfl
  have hEl : E.S.length = 40 := by rw [hES, tearFrom_length]; exact hD.1
  have hrd : ∀ k, k < npart t.length → E.read (4 + k) = mixAt keep torn (tearN bytes) k (recF b l 2 t k).sec (secAt D.S (4 + k)) := fun k hk => by
    have hLk : L.getD k [] = (recF b l 2 t k).sec := by
      rw [← hL, recSecs_ok (by omega) hok, List.getD_eq_getElem?_getD, List.getElem?_map, List.getElem?_range hk]
      rfl
    show lastOf (4 + k) E.P (secAt E.S (4 + k)) = _
    rw [hEP, hES]
    show secAt _ (4 + k) = _
    rw [tear_wputs _ _ _ _ _ _ _ _ (by rw [hD.1]; omega), if_pos (by omega), show 4 + k - 4 = k by omega, hLk, Nat.zero_add]
  have ho : ∀ k, k < npart t.length → OldSec ((b : Int)).toNat ((l : Int)).toNat (secAt D.S (4 + k)) := fun k hk => hD.2.2 _ (by omega)
  rw [hE]
  have h0 : readE E .idle 4 40 = 0 := by
    unfold readE
    rw [if_neg (by omega), if_neg (by decide)]
  unfold readVal
  rw [if_pos h0, show ((4:Int).toNat) = 4 from rfl, show ((40:Int).toNat) = 40 from rfl]
  cases hr : recRead E.read 4 40 l b with
  | some r =>
    left
    rw [torn_whole (n := tearN bytes) (by have := tearN_lt bytes; omega) (by decide) (by omega) hok hrd ho rfl hr]
    unfold rfound recVal Frm.val
    rw [hlen]
    rfl
  | none =>
    right
    refine ⟨rfl, ?_⟩
    cases ha : allB keep torn L.length L.length with
    | false => rfl
    | true =>
      have := torn_all (n := tearN bytes) (N := 40) (by decide) (by omega) hok (by omega) hrd (fun k hk => allB_true ha k (by omega))
      rw [this] at hr
      cases hr
end Go.Proofs.Ytjpelmjocdodcaa
