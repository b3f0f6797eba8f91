/- slots.Encode: what each call returns. -/
import Derived.Test.YtgnhpbolmfbngaaFixed
import Derived.Test.YtgnhpbolmfbngaaSltPure
import Derived.Deep.RegionHeld3
import Derived.Deep.DeepCutAuto
namespace Go.Proofs.Ytgnhpbolmfbngaa
open Go.RowKit

set_option maxHeartbeats 400000 in
theorem sfrom_any (n lo hi : Int) (w : World) :
    Calls Try.prog 52 #[.int .i64 n, .int .i64 lo, .int .i64 hi] w fun e w' => e = .returned (.bool (decide (lo ≤ n) && decide (n ≤ hi))) ∧ w' = w := by
  by_cases h1 : lo ≤ n <;> by_cases h2 : n ≤ hi
  all_goals
    go_enter Try.func52, Try.ntmps52
    go_wp2
    go_ret
    simp [h1, h2]

def hval (seq boot area first snaps : Int) : Value := .agg #[.int .i64 seq, .int .i64 boot, .int .i64 area, .int .i64 first, .int .i64 snaps]
def Hd.val (b : Hd) : Value := hval b.seq b.boot b.area b.first b.snaps
/-- The fields of a header that is valid. -/
def HOk (seq boot area first snaps : Int) : Prop := 1 ≤ seq ∧ seq ≤ 281474976710655 ∧ 1 ≤ first ∧ first ≤ 281474976710655 ∧ 1 ≤ boot ∧ boot ≤ 4294967295 ∧ 0 ≤ area ∧ area ≤ 1 ∧ 0 ≤ snaps ∧ snaps ≤ 65535
instance (seq boot area first snaps : Int) : Decidable (HOk seq boot area first snaps) := by unfold HOk; infer_instance
theorem Hd.hok {b : Hd} (ok : b.Ok) : HOk b.seq b.boot b.area b.first b.snaps := by
  obtain ⟨h1, h2, h3, h4, h5, h6, h7, h8⟩ := ok
  unfold HOk
  omega
theorem hok_hd {seq boot area first snaps : Int} (h : HOk seq boot area first snaps) : ∃ b : Hd, b.Ok ∧ seq = b.seq ∧ boot = b.boot ∧ area = b.area ∧ first = b.first ∧ snaps = b.snaps := by
  unfold HOk at h
  refine ⟨⟨seq.toNat, boot.toNat, area.toNat, first.toNat, snaps.toNat⟩, ?_, ?_⟩
  · unfold Hd.Ok
    dsimp only
    omega
  · dsimp only
    omega

set_option maxRecDepth 100000 in
set_option maxHeartbeats 1000000 in
theorem sEncode_ok (b : Hd) (w : World) (ok : b.Ok) :
    Calls Try.prog 20 #[b.val] w fun e w' => e = .returned (.tuple #[.string (S b.sec), .int .i64 0]) ∧ Below w.heap.size w w' := by
  obtain ⟨seq, boot, area, first, snaps⟩ := b
  obtain ⟨h1, h2, h3, h4, h5, h6, h7, h8⟩ := ok
  dsimp only [Hd.val, hval] at *
  have t1 : (decide ((1:Int) ≤ seq) && decide ((seq:Int) ≤ 281474976710655)) = true := by simp; omega
  have t2 : (decide ((1:Int) ≤ first) && decide ((first:Int) ≤ 281474976710655)) = true := by simp; omega
  have t3 : (decide ((1:Int) ≤ boot) && decide ((boot:Int) ≤ 4294967295)) = true := by simp; omega
  have t4 : (area : Int) ≤ 1 := by omega
  have t5 : (snaps : Int) ≤ 65535 := by omega
  go_enter Try.func20, Try.ntmps20
  go_wp2_with (go_at_call 52; refine (sfrom_any _ _ _ _).mono ?_; rintro e w' ⟨rfl, rfl⟩)
  clear t1 t2 t3 t4 t5
  generalize hW : w.alloc (Obj.cells #[Value.int IntKind.i64 ↑seq, Value.int IntKind.i64 ↑boot, Value.int IntKind.i64 ↑area, Value.int IntKind.i64 ↑first, Value.int IntKind.i64 ↑snaps] 40) = W
  have HS : Hid (W.heap.size = w.heap.size + 1) := by unfold Hid; rw [← hW]; simp
  have HBW : Below w.heap.size w W := by rw [← hW]; exact (Below.refl _ _).alloc (Nat.le_refl _) _
  have c0 : W.cell? ⟨w.heap.size, 0, none⟩ = some (.int .i64 seq) := by rw [← hW]; simp
  have c1 : W.cell? ⟨w.heap.size, 1, none⟩ = some (.int .i64 boot) := by rw [← hW]; simp
  have c2 : W.cell? ⟨w.heap.size, 2, none⟩ = some (.int .i64 area) := by rw [← hW]; simp
  have c3 : W.cell? ⟨w.heap.size, 3, none⟩ = some (.int .i64 first) := by rw [← hW]; simp
  have c4 : W.cell? ⟨w.heap.size, 4, none⟩ = some (.int .i64 snaps) := by rw [← hW]; simp
  clear hW
  have hs1 : w.heap.size + 1 ≤ W.heap.size := by rw [HS.out]; exact Nat.le_refl _
  go_region_held3 (fun w' => Below (w.heap.size + 1) W w' ∧ w'.cell? ⟨w.heap.size, 0, none⟩ = some (.int .i64 seq) ∧ w'.cell? ⟨w.heap.size, 1, none⟩ = some (.int .i64 boot) ∧ w'.cell? ⟨w.heap.size, 2, none⟩ = some (.int .i64 area) ∧ w'.cell? ⟨w.heap.size, 3, none⟩ = some (.int .i64 first) ∧ w'.cell? ⟨w.heap.size, 4, none⟩ = some (.int .i64 snaps)) (first | exact boxed5 (below_step (by assumption) (held5 (by assumption)) hs1) c0 c1 c2 c3 c4 | exact boxed5 (below_start _) c0 c1 c2 c3 c4)
    (first | (go_at_call 53; (with_reducible refine (sfixed4 _ _ (by omega) (by omega)).mono ?_); rintro e w' ⟨rfl, hb⟩) | (go_at_call 53; (with_reducible refine (sfixed6 _ _ (by omega) (by omega)).mono ?_); rintro e w' ⟨rfl, hb⟩) | (go_at_call 53; (with_reducible refine (sfixed1 _ _ (by omega) (by omega)).mono ?_); rintro e w' ⟨rfl, hb⟩) | (go_at_call 53; (with_reducible refine (sfixed2 _ _ (by omega) (by omega)).mono ?_); rintro e w' ⟨rfl, hb⟩))
  rename_i hheld
  clear hb
  obtain ⟨hB, k0, k1, k2, k3, k4⟩ := hheld
  have HLEN := Lib.hid (Hd.head_length ⟨seq, boot, area, first, snaps⟩)
  unfold Hd.head at HLEN
  dsimp only at HLEN
  generalize hH : be 6 seq ++ (be 4 boot ++ (be 1 area ++ (be 6 first ++ be 2 snaps))) = H at HLEN
  have HH := Lib.hid hH
  clear hH k0 k1 k2 k3 k4 c0 c1 c2 c3 c4
  have hs2 : w.heap.size + 1 ≤ w'.heap.size := Nat.le_trans hs1 hB.size
  have hc : crcSum H < 4294967296 := crcMore_lt 0 H
  have hcw : IntKind.i64.wrap ((crcSum H : Nat) : Int) = ((crcSum H : Nat) : Int) := by rw [IntKind.wrap_i64]; omega
  have HL1 := Lib.hid (show H.length ≤ 140737488351232 by rw [HLEN.out]; omega)
  have hlen : H.length = 19 := HLEN.out
  generalize w' = W1 at *
  go_wp2_with fail
  (with_reducible refine (crcSum_any _ _ HL1.out).mono ?_)
  rintro e w' ⟨rfl, hb1⟩
  have hB1 : Below (w.heap.size + 1) W w' := below_step hb1 hB hs1
  have hs3 : w.heap.size + 1 ≤ w'.heap.size := Nat.le_trans hs1 hB1.size
  clear hb1 hB hs2
  generalize w' = W2 at *
  go_wp2_with fail
  (with_reducible refine (sfixed4 _ _ (by omega) (by omega)).mono ?_)
  rintro e w' ⟨rfl, hb2⟩
  have hB2 : Below (w.heap.size + 1) W w' := below_step hb2 hB1 hs1
  have hs4 : w.heap.size + 1 ≤ w'.heap.size := Nat.le_trans hs1 hB2.size
  clear hb2 hB1 hs3
  generalize w' = W3 at *
  have hw1 : IntKind.i64.wrap 51 = 51 := by decide
  go_wp2_with fail
  go_region_held3 (fun w' => Below (w.heap.size + 1) W w' ∧ True) (first | exact ⟨below_step (by assumption) (held0 (by assumption)) hs1, trivial⟩ | exact ⟨hB2.drew, trivial⟩)
    (first | (go_at_call 49; (with_reducible refine (repeat_zero _ _ (by omega) (by omega)).mono ?_); rintro e w' ⟨rfl, hb⟩))
  rename_i hheld3
  have hB3 := hheld3.1
  have hfin : Below w.heap.size w w' := HBW.trans (hB3.mono (by omega))
  have hval' : S (H ++ (be 4 (crcSum H) ++ List.replicate 51 0)) ++ (S H).extract 0 6 = S (Hd.sec ⟨seq, boot, area, first, snaps⟩) := by
    rw [S_extract, S_append, List.drop_zero]
    unfold Hd.sec Hd.head
    dsimp only
    rw [HH.out]
    simp only [List.append_assoc]
  have HVAL := Lib.hid hval'
  clear hheld3 hb hcw hval' hw1
  go_wp2
  go_ret2
  exact ⟨ret_str2 HVAL.out, hfin⟩
end Go.Proofs.Ytgnhpbolmfbngaa
