/- RecordAlone: the plain part. -/
import Derived.Test.YtjpelmjocdodcaaRecWrite
import Derived.Test.YtjpelmjocdodcaaFrmTear
import Derived.Test.YtjpelmjocdodcaaRead
import Derived.Test.YtjpelmjocdodcaaKnown06
namespace Go.Proofs.Ytjpelmjocdodcaa
open Go.RowKit

theorem secs_any (boot lsn kind : Int) (hkd : 0 ≤ kind ∧ kind < 256) (t : List UInt8) (w : World) :
    Calls Try.prog 41 #[.int .i64 boot, .int .i64 lsn, .int .u8 kind, .string (S t)] w (SecsR w (recSecs boot lsn kind t).1 (recSecs boot lsn kind t).2) := by
  by_cases h : 4096 < t.length
  · refine (sectors_long boot lsn kind t h w).mono ?_
    rintro e w' ⟨rfl, hb⟩
    rw [recSecs_long h]
    exact ⟨none, 0, rfl, World.ownsRow_nil _ _ _ _, hb, fun k hk => by simp [Value.ownBlock] at hk⟩
  · exact sectors_any boot lsn kind hkd t (by omega) w
theorem str_list (a : ByteArray) : ∃ t, a = S t := ⟨a.data.toList, (S_of a).symm⟩
theorem write_read (D : Dk) (k : Nat) (s : List UInt8) (i : Nat) : (D.write k s).read i = if k = i then s else D.read i := by
  show lastOf i (D.P ++ [(k, s)]) (secAt D.S i) = _
  rw [lastOf_append]
  rfl
def seedSec (b : Nat) : List UInt8 := (List.range 80).map fun j => UInt8.ofNat (b + j)
theorem seedSec_length (b : Nat) : (seedSec b).length = 80 := by simp [seedSec]
theorem seedSec_get (b j : Nat) (h : j < 80) : (seedSec b).getD j 0 = UInt8.ofNat (b + j) := by
  unfold seedSec
  rw [List.getD_eq_getElem?_getD, List.getElem?_map, List.getElem?_range h]
  rfl
theorem seedSec_bad (b : Nat) : fdecodeOf (seedSec b) = none := by
  cases h : fdecodeOf (seedSec b) with
  | none => rfl
  | some c =>
    obtain ⟨ok, hs⟩ := fdecodeOf_some h
    have hc := c.sec_again ok.2.2.2.2.2.2.2
    rw [hs] at hc
    have h1 := congrArg (fun l => List.getD l 0 0) hc
    have e0 := seedSec_get b 0 (by omega)
    have e1 := seedSec_get b 69 (by omega)
    rw [List.getD_eq_getElem?_getD] at e0 e1
    simp only [List.getD_eq_getElem?_getD] at h1
    rw [List.getElem?_take_of_lt (by omega), List.getElem?_drop, e0, show 80 - 11 + 0 = 69 from rfl, e1] at h1
    have h2 := congrArg UInt8.toNat h1
    rw [UInt8.toNat_ofNat', UInt8.toNat_ofNat'] at h2
    omega
/-- What Read returns behind a write to the sector k. -/
theorem alone_read {t : List UInt8} (ht : t.length ≤ 400) (k sd : Nat) (L : List (List UInt8)) (hL : (recSecs 5 6 1 t).1 = L) :
    readVal (((Dk.new 30).puts 10 L).write k (seedSec sd)) .idle 10 (10 + (L.length : Int)) 6 5 = if 10 ≤ k ∧ k < 10 + L.length then .tuple #[zfrm, .int .i64 12] else .tuple #[.agg #[.int .i64 5, .int .i64 6, .int .i64 0, .int .i64 (L.length : Int), .int .u8 1, .string (S t)], .int .i64 0] := by
  have hb : ROk 5 6 := by unfold ROk; decide
  have hlen : L.length = npart t.length := by rw [← hL]; exact recSecs_len (by omega) hb
  have hn : npart t.length ≤ 10 := by unfold npart; omega
  have hp := npart_pos t.length
  obtain ⟨D, hD⟩ : ∃ D, ((Dk.new 30).puts 10 L).write k (seedSec sd) = D := ⟨_, rfl⟩
  have hDl : D.S.length = 30 := by rw [← hD]; exact List.length_replicate
  have h0 : readE D .idle 10 (10 + (L.length : Int)) = 0 := by
    unfold readE
    rw [if_neg (by omega), if_neg (by decide)]
  have hat : RAt ((Dk.new 30).puts 10 L).read 10 5 6 1 t := by rw [← hL]; exact puts_rat _ _ (by omega) hb
  rw [hD]
  unfold readVal
  rw [if_pos h0, show ((10:Int).toNat) = 10 from rfl, show ((10 + (L.length : Int)).toNat) = 10 + L.length by omega]
  have hrd : ∀ i, D.read i = if k = i then seedSec sd else ((Dk.new 30).puts 10 L).read i := fun i => by rw [← hD]; exact write_read _ _ _ _
  by_cases h : 10 ≤ k ∧ k < 10 + L.length
  · rw [if_pos h]
    rw [recRead_nof (i := k - 10) (b := 5) (l := 6) (kind := 1) (t := t) (fun hk => by
      rw [hrd, if_neg (by omega)]
      have := hat 0 hp
      exact this) (by decide) (by omega) hb (by omega) (by
      unfold rdec
      rw [show 10 + (k - 10) = k by omega, hrd, if_pos rfl]
      exact seedSec_bad sd)]
    rfl
  · rw [if_neg h]
    have hat2 : RAt D.read 10 5 6 1 t := fun i hi => by
      rw [hrd, if_neg (by omega)]
      exact hat i hi
    rw [hat2.found (by decide) (by omega) hb (by omega) (by decide)]
    unfold rfound recVal Frm.val
    rw [hlen]
    rfl
end Go.Proofs.Ytjpelmjocdodcaa
