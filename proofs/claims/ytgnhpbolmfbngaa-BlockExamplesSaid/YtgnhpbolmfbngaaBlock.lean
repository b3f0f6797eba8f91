/- block.Encode: what each call returns. -/
import Derived.Test.YtgnhpbolmfbngaaFixed
import Derived.Test.YtgnhpbolmfbngaaBlockPure
import Derived.Deep.RegionHeld3
import Derived.Deep.DeepCutAuto
namespace Go.Proofs.Ytgnhpbolmfbngaa
open Go.RowKit

set_option maxHeartbeats 400000 in
theorem bfrom_any (n lo hi : Int) (w : World) :
    Calls Try.prog 46 #[.int .i64 n, .int .i64 lo, .int .i64 hi] w fun e w' => e = .returned (.bool (decide (lo ≤ n) && decide (n ≤ hi))) ∧ w' = w := by
  by_cases h1 : lo ≤ n <;> by_cases h2 : n ≤ hi
  all_goals
    go_enter Try.func46, Try.ntmps46
    go_wp2
    go_ret
    simp [h1, h2]

def Blk.val (b : Blk) : Value := .agg #[.int .i64 b.life, .int .i64 b.boot, .int .i64 b.n, .int .i64 b.off, .string (S b.data)]

set_option maxRecDepth 100000 in
set_option maxHeartbeats 1000000 in
theorem bEncode_ok (b : Blk) (w : World) (ok : b.Ok) :
    Calls Try.prog 17 #[b.val] w fun e w' => e = .returned (.tuple #[.string (S b.sec), .int .i64 0]) ∧ Below w.heap.size w w' := by
  obtain ⟨life, boot, n, off, d⟩ := b
  obtain ⟨h1, h2, h3, h4, h5, h6, h7⟩ := ok
  dsimp only [Blk.val] at *
  have hd : d.isEmpty = false := by cases d <;> simp_all
  have t1 : (decide ((0:Int) ≤ life) && decide ((life:Int) ≤ 4294967295)) = true := by simp; omega
  have t2 : (decide ((1:Int) ≤ boot) && decide ((boot:Int) ≤ 4294967295)) = true := by simp; omega
  have t3 : (decide ((0:Int) ≤ n) && decide ((n:Int) ≤ 4294967295)) = true := by simp; omega
  have t4 : (decide ((0:Int) ≤ off) && decide ((off:Int) ≤ 281474976710655)) = true := by simp; omega
  go_enter Try.func17, Try.ntmps17
  go_wp2_with (go_at_call 46; refine (bfrom_any _ _ _ _).mono ?_; rintro e w' ⟨rfl, rfl⟩)
  generalize hW : w.alloc (Obj.cells #[Value.int IntKind.i64 ↑life, Value.int IntKind.i64 ↑boot, Value.int IntKind.i64 ↑n, Value.int IntKind.i64 ↑off, Value.string (S d)] 31) = W
  have HS : Hid (W.heap.size = w.heap.size + 1) := by unfold Hid; rw [← hW]; simp
  have HBW : Below w.heap.size w W := by rw [← hW]; exact (Below.refl _ _).alloc (Nat.le_refl _) _
  have c0 : W.cell? ⟨w.heap.size, 0, none⟩ = some (.int .i64 life) := by rw [← hW]; simp
  have c1 : W.cell? ⟨w.heap.size, 1, none⟩ = some (.int .i64 boot) := by rw [← hW]; simp
  have c2 : W.cell? ⟨w.heap.size, 2, none⟩ = some (.int .i64 n) := by rw [← hW]; simp
  have c3 : W.cell? ⟨w.heap.size, 3, none⟩ = some (.int .i64 off) := by rw [← hW]; simp
  have c4 : W.cell? ⟨w.heap.size, 4, none⟩ = some (.string (S d)) := by rw [← hW]; simp
  clear hW
  have hs1 : w.heap.size + 1 ≤ W.heap.size := by rw [HS.out]; exact Nat.le_refl _
  clear t1 t2 t3 t4
  go_region_held3 (fun w' => Below (w.heap.size + 1) W w' ∧ w'.cell? ⟨w.heap.size, 0, none⟩ = some (.int .i64 life) ∧ w'.cell? ⟨w.heap.size, 1, none⟩ = some (.int .i64 boot) ∧ w'.cell? ⟨w.heap.size, 2, none⟩ = some (.int .i64 n) ∧ w'.cell? ⟨w.heap.size, 3, none⟩ = some (.int .i64 off) ∧ w'.cell? ⟨w.heap.size, 4, none⟩ = some (.string (S d))) (first | exact boxed5 (below_step (by assumption) (held5 (by assumption)) hs1) c0 c1 c2 c3 c4 | exact boxed5 (below_start _) c0 c1 c2 c3 c4)
    (first | (go_at_call 47; (with_reducible refine (bfixed4 _ _ (by omega) (by omega)).mono ?_); rintro e w' ⟨rfl, hb⟩) | (go_at_call 47; (with_reducible refine (bfixed6 _ _ (by omega) (by omega)).mono ?_); rintro e w' ⟨rfl, hb⟩) | (go_at_call 47; (with_reducible refine (bfixed1 _ _ (by omega) (by omega)).mono ?_); rintro e w' ⟨rfl, hb⟩))
  rename_i hheld
  clear hb
  obtain ⟨hB, k0, k1, k2, k3, k4⟩ := hheld
  have HLEN := Lib.hid (Blk.head_length ⟨life, boot, n, off, d⟩)
  unfold Blk.head at HLEN
  dsimp only at HLEN
  generalize hH : be 4 life ++ (be 4 boot ++ (be 4 n ++ (be 6 off ++ be 1 d.length))) = H at HLEN
  have HH := Lib.hid hH
  clear hH
  have hs2 : w.heap.size + 1 ≤ w'.heap.size := Nat.le_trans hs1 hB.size
  have hc : crcSum (H ++ d) < 4294967296 := crcMore_lt 0 (H ++ d)
  have hcw : IntKind.i64.wrap ((crcSum (H ++ d) : Nat) : Int) = ((crcSum (H ++ d) : Nat) : Int) := by rw [IntKind.wrap_i64]; omega
  have hbig1 : ¬ 9223372036854775807 < 19 + d.length := by omega
  have hbig2 : ¬ 9223372036854775807 < 23 + d.length := by omega
  have hlen1 : (H ++ d).length ≤ 140737488351232 := by rw [List.length_append, HLEN.out]; omega
  have HL1 := Lib.hid hlen1
  clear hlen1
  have hlen : H.length = 19 := HLEN.out
  generalize w' = W1 at *
  go_wp2_with fail
  go_region_held3 (fun w' => Below (w.heap.size + 1) W w' ∧ w'.cell? ⟨w.heap.size, 0, none⟩ = some (.int .i64 life) ∧ w'.cell? ⟨w.heap.size, 1, none⟩ = some (.int .i64 boot) ∧ w'.cell? ⟨w.heap.size, 2, none⟩ = some (.int .i64 n) ∧ w'.cell? ⟨w.heap.size, 3, none⟩ = some (.int .i64 off) ∧ w'.cell? ⟨w.heap.size, 4, none⟩ = some (.string (S d))) (first | exact boxed5 (below_step (by assumption) (held5 (by assumption)) hs1) c0 c1 c2 c3 c4 | exact boxed5 hB.drew c0 c1 c2 c3 c4)
    (first | (go_at_call 48; (with_reducible refine (crcSum_any _ _ HL1.out).mono ?_); rintro e w' ⟨rfl, hb⟩) | (go_at_call 47; (with_reducible refine (bfixed4 _ _ (by omega) (by omega)).mono ?_); rintro e w' ⟨rfl, hb⟩))
  rename_i hheld2
  have hB2 := hheld2.1
  clear hheld2 hb
  have hs3 : w.heap.size + 1 ≤ w'.heap.size := Nat.le_trans hs1 hB2.size
  clear hB k0 k1 k2 k3 k4 hs2 c0 c1 c2 c3 c4
  generalize w' = W2 at *
  have hw1 : IntKind.i64.wrap (68 - (19 + (4 + (d.length : Int)))) = ((45 - d.length : Nat) : Int) := by rw [IntKind.wrap_i64]; omega
  have hbig3 : ¬ 9223372036854775807 < 19 + (4 + (d.length + (45 - d.length))) + 12 := by omega
  have hbig5 : ¬ 9223372036854775807 < 19 + (4 + d.length) + (45 - d.length) := by omega
  have hbig4 : ¬ 9223372036854775807 < 19 + (4 + (d.length + (45 - d.length))) := by omega
  go_wp2_with fail
  go_region_held3 (fun w' => Below (w.heap.size + 1) W w' ∧ True) (first | exact ⟨below_step (by assumption) (held0 (by assumption)) hs1, trivial⟩ | exact ⟨hB2.drew, trivial⟩)
    (first | (go_at_call 49; (with_reducible refine (repeat_zero _ _ (by omega) (by omega)).mono ?_); rintro e w' ⟨rfl, hb⟩))
  rename_i hheld3
  have hB3 := hheld3.1
  have hfin : Below w.heap.size w w' := HBW.trans (hB3.mono (by omega))
  have hval : S (H ++ (be 4 (crcSum (H ++ d)) ++ (d ++ List.replicate (45 - d.length) 0))) ++ (S H).extract 0 12 = S (Blk.sec ⟨life, boot, n, off, d⟩) := by
    rw [S_extract, S_append, List.drop_zero]
    unfold Blk.sec Blk.head
    dsimp only
    rw [HH.out]
    simp only [List.append_assoc]
  clear hheld3 hb hbig5 hbig4 hbig3 hw1 hbig1 hbig2 hcw hlen
  have HVAL := Lib.hid hval
  clear hval
  go_wp2
  go_ret2
  exact ⟨ret_str2 HVAL.out, hfin⟩
end Go.Proofs.Ytgnhpbolmfbngaa
