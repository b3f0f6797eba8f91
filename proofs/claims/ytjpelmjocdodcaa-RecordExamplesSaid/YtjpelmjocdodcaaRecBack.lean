/- RecordBack: the plain part. -/
import Derived.Test.YtjpelmjocdodcaaRecAlone
import Derived.Test.YtjpelmjocdodcaaFrmTear
namespace Go.Proofs.Ytjpelmjocdodcaa
open Go.RowKit

theorem recF_fields {b l kind : Int} (hk : 0 ≤ kind ∧ kind < 256) (hb : ROk b l) (t : List UInt8) (k : Nat) :
    (recF b l kind t k).val = .agg #[.int .i64 b, .int .i64 l, .int .i64 k, .int .i64 (npart t.length : Nat), .int .u8 kind, .string (S (rpiece t k))] := by
  unfold ROk at hb
  unfold recF Frm.val
  dsimp only
  rw [show ((b.toNat : Nat) : Int) = b by omega, show ((l.toNat : Nat) : Int) = l by omega, show ((kind.toNat : Nat) : Int) = kind by omega]
theorem rfound_val {b l kind : Int} (hk : 0 ≤ kind ∧ kind < 256) (hb : ROk b l) (t : List UInt8) :
    (rfound b l kind t).val = .agg #[.int .i64 b, .int .i64 l, .int .i64 0, .int .i64 (npart t.length : Nat), .int .u8 kind, .string (S t)] := by
  unfold ROk at hb
  unfold rfound Frm.val
  dsimp only
  rw [show ((b.toNat : Nat) : Int) = b by omega, show ((l.toNat : Nat) : Int) = l by omega, show ((kind.toNat : Nat) : Int) = kind by omega]
  rfl
theorem secAt_rec {b l kind : Int} {t : List UInt8} (ht : t.length ≤ 4096) (hb : ROk b l) {L : List (List UInt8)} (hL : (recSecs b l kind t).1 = L) {i : Nat} (hi : i < npart t.length) : secAt L i = (recF b l kind t i).sec := by
  rw [← hL, recSecs_ok ht hb]
  unfold secAt
  rw [List.getD_eq_getElem?_getD, List.getElem?_map, List.getElem?_range hi]
  rfl
theorem rpiece_full {t : List UInt8} {i : Nat} (h : i < npart t.length - 1) : (rpiece t i).length = 44 := by
  rw [rpiece_len]
  unfold npart at h
  omega
theorem back_reads {b l kind : Int} (hk : 0 ≤ kind ∧ kind < 256) {t : List UInt8} (ht : t.length ≤ 4096) (hb : ROk b l) (k : Nat) {L : List (List UInt8)} (hL : (recSecs b l kind t).1 = L) {n : Nat} (hn : n = npart t.length) {D : Dk} (hD : (Dk.new (n + k + 1)).puts k L = D) :
    (∀ bo, bo ≤ b → readVal D .idle k ((n : Int) + (k : Int)) l bo = .tuple #[.agg #[.int .i64 b, .int .i64 l, .int .i64 0, .int .i64 (n : Int), .int .u8 kind, .string (S t)], .int .i64 0]) ∧
    readVal D .idle k ((n : Int) + (k : Int)) l (b + 1) = .tuple #[zfrm, .int .i64 12] ∧
    readVal D .idle k ((n : Int) + (k : Int)) (l + 1) b = .tuple #[zfrm, .int .i64 12] ∧
    readVal D .idle k ((n : Int) + (k : Int) - 1) l b = .tuple #[zfrm, .int .i64 12] ∧
    readVal D .idle ((k : Int) + 1) ((n : Int) + (k : Int) + 1) l b = .tuple #[zfrm, .int .i64 12] := by
  have hp := npart_pos t.length
  have hlen : L.length = n := by rw [← hL, hn]; exact recSecs_len ht hb
  have hDl : D.S.length = n + k + 1 := by rw [← hD]; exact List.length_replicate
  have hat : RAt D.read k b l kind t := by rw [← hD, ← hL]; exact puts_rat _ _ ht hb
  have h0 := hat 0 hp
  rw [Nat.add_zero] at h0
  have hE : ∀ a c : Nat, a ≤ c → c ≤ n + k + 1 → readE D .idle a c = 0 := fun a c h1 h2 => by
    unfold readE
    rw [if_neg (by omega), if_neg (by decide)]
  have e1 : (n : Int) + (k : Int) = ((n + k : Nat) : Int) := by omega
  have e2 : (n : Int) + (k : Int) - 1 = ((n + k - 1 : Nat) : Int) := by omega
  have e3 : (n : Int) + (k : Int) + 1 = ((n + k + 1 : Nat) : Int) := by omega
  have e4 : (k : Int) + 1 = ((k + 1 : Nat) : Int) := by omega
  refine ⟨fun bo hbo => ?_, ?_, ?_, ?_, ?_⟩
  · unfold readVal
    rw [e1, if_pos (hE _ _ (by omega) (by omega)), Int.toNat_natCast, Int.toNat_natCast, hat.found hk ht hb (by omega) hbo]
    show Value.tuple #[(rfound b l kind t).val, .int .i64 0] = _
    rw [rfound_val hk hb, ← hn]
  · unfold readVal
    rw [e1, if_pos (hE _ _ (by omega) (by omega)), Int.toNat_natCast, Int.toNat_natCast, RAt.not h0 hp hk ht hb (by omega)]
    rfl
  · unfold readVal
    rw [e1, if_pos (hE _ _ (by omega) (by omega)), Int.toNat_natCast, Int.toNat_natCast, RAt.not h0 hp hk ht hb (by omega)]
    rfl
  · unfold readVal
    rw [e2, if_pos (hE _ _ (by omega) (by omega)), Int.toNat_natCast, Int.toNat_natCast, RAt.not h0 hp hk ht hb (by omega)]
    rfl
  · unfold readVal
    rw [e3, e4, if_pos (hE _ _ (by omega) (by omega)), Int.toNat_natCast, Int.toNat_natCast]
    by_cases h1 : n = 1
    · rw [recRead_none (by
        unfold rdec
        rw [← hD, puts_read, if_neg (by omega)]
        show fdecodeOf (List.getD (List.replicate (n + k + 1) Z80) (k + 1 + 0) []) = none
        rw [List.getD_eq_getElem?_getD, List.getElem?_replicate, if_pos (by omega)]
        exact fdecodeOf_zeros)]
      rfl
    · rw [RAt.not (hat 1 (by omega)) (by omega) hk ht hb (by omega)]
      rfl
end Go.Proofs.Ytjpelmjocdodcaa
