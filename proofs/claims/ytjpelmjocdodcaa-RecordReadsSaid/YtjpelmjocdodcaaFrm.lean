/- frame.Encode: what each call returns. -/
import Derived.Test.YtjpelmjocdodcaaFixed
import Derived.Test.YtjpelmjocdodcaaPures
import Derived.Deep.RegionHeld3
import Derived.Deep.DeepCutAuto
namespace Go.Proofs.Ytjpelmjocdodcaa
open Go.RowKit

set_option maxHeartbeats 400000 in
theorem ffrom_any (n lo hi : Int) (w : World) :
    Calls Try.prog 85 #[.int .i64 n, .int .i64 lo, .int .i64 hi] w fun e w' => e = .returned (.bool (decide (lo ≤ n) && decide (n ≤ hi))) ∧ w' = w := by
  by_cases h1 : lo ≤ n <;> by_cases h2 : n ≤ hi
  all_goals
    go_enter Try.func85, Try.ntmps85
    go_wp2
    go_ret
    simp [h1, h2]

def Frm.val (b : Frm) : Value := .agg #[.int .i64 b.boot, .int .i64 b.lsn, .int .i64 b.part, .int .i64 b.parts, .int .u8 b.kind, .string (S b.data)]

set_option maxRecDepth 100000 in
set_option maxHeartbeats 1000000 in
theorem fEncode_ok (b : Frm) (w : World) (ok : b.Ok) :
    Calls Try.prog 68 #[b.val] w fun e w' => e = .returned (.tuple #[.string (S b.sec), .int .i64 0]) ∧ Below w.heap.size w w' := by
  obtain ⟨boot, lsn, part, parts, kind, d⟩ := b
  obtain ⟨h1, h2, h3, h4, h5, h6, h7, h8⟩ := ok
  dsimp only [Frm.val] at *
  obtain ⟨q, hq⟩ : ∃ q : Int, (parts : Int) - 1 = q := ⟨_, rfl⟩
  have hw : IntKind.i64.wrap ((parts : Int) - 1) = q := by rw [IntKind.wrap_i64]; omega
  have t1 : (decide ((1:Int) ≤ boot) && decide ((boot:Int) ≤ 4294967295)) = true := by simp; omega
  have t2 : (decide ((1:Int) ≤ lsn) && decide ((lsn:Int) ≤ 281474976710655)) = true := by simp; omega
  have t3 : (decide ((1:Int) ≤ parts) && decide ((parts:Int) ≤ 255)) = true := by simp; omega
  have t4 : (part : Int) ≤ q := by omega
  have hkw : IntKind.i64.wrap (kind : Int) = (kind : Int) := by rw [IntKind.wrap_i64]; omega
  clear hq
  go_enter Try.func68, Try.ntmps68
  go_wp2_with (go_at_call 85; refine (ffrom_any _ _ _ _).mono ?_; rintro e w' ⟨rfl, rfl⟩)
  clear hw t1 t2 t3 t4
  generalize hW : w.alloc (Obj.cells #[Value.int IntKind.i64 ↑boot, Value.int IntKind.i64 ↑lsn, Value.int IntKind.i64 ↑part, Value.int IntKind.i64 ↑parts, Value.int IntKind.u8 ↑kind, Value.string (S d)] 77) = W
  have HS : Hid (W.heap.size = w.heap.size + 1) := by unfold Hid; rw [← hW]; simp
  have HBW : Below w.heap.size w W := by rw [← hW]; exact (Below.refl _ _).alloc (Nat.le_refl _) _
  have c0 : W.cell? ⟨w.heap.size, 0, none⟩ = some (.int .i64 boot) := by rw [← hW]; simp
  have c1 : W.cell? ⟨w.heap.size, 1, none⟩ = some (.int .i64 lsn) := by rw [← hW]; simp
  have c2 : W.cell? ⟨w.heap.size, 2, none⟩ = some (.int .i64 part) := by rw [← hW]; simp
  have c3 : W.cell? ⟨w.heap.size, 3, none⟩ = some (.int .i64 parts) := by rw [← hW]; simp
  have c4 : W.cell? ⟨w.heap.size, 4, none⟩ = some (.int .u8 kind) := by rw [← hW]; simp
  have c5 : W.cell? ⟨w.heap.size, 5, none⟩ = some (.string (S d)) := by rw [← hW]; simp
  clear hW
  have hs1 : w.heap.size + 1 ≤ W.heap.size := by rw [HS.out]; exact Nat.le_refl _
  go_region_held3 (fun w' => Below (w.heap.size + 1) W w' ∧ w'.cell? ⟨w.heap.size, 0, none⟩ = some (.int .i64 boot) ∧ w'.cell? ⟨w.heap.size, 1, none⟩ = some (.int .i64 lsn) ∧ w'.cell? ⟨w.heap.size, 2, none⟩ = some (.int .i64 part) ∧ w'.cell? ⟨w.heap.size, 3, none⟩ = some (.int .i64 parts) ∧ w'.cell? ⟨w.heap.size, 4, none⟩ = some (.int .u8 kind) ∧ w'.cell? ⟨w.heap.size, 5, none⟩ = some (.string (S d))) (first | exact boxed6 (below_step (by assumption) (held6 (by assumption)) hs1) c0 c1 c2 c3 c4 c5 | exact boxed6 (below_start _) c0 c1 c2 c3 c4 c5)
    (first | (go_at_call 86; (with_reducible refine (ffixed4 _ _ (by omega) (by omega)).mono ?_); rintro e w' ⟨rfl, hb⟩) | (go_at_call 86; (with_reducible refine (ffixed6 _ _ (by omega) (by omega)).mono ?_); rintro e w' ⟨rfl, hb⟩) | (go_at_call 86; (with_reducible refine (ffixed1 _ _ (by omega) (by omega)).mono ?_); rintro e w' ⟨rfl, hb⟩))
  rename_i hheld
  clear hb
  obtain ⟨hB, k0, k1, k2, k3, k4, k5⟩ := hheld
  have HLEN := Lib.hid (Frm.head_length ⟨boot, lsn, part, parts, kind, d⟩)
  unfold Frm.head at HLEN
  dsimp only at HLEN
  generalize hH : be 4 boot ++ (be 6 lsn ++ (be 1 part ++ (be 1 parts ++ (be 1 kind ++ be 1 d.length)))) = H at HLEN
  have HH := Lib.hid hH
  clear hH hkw
  have hs2 : w.heap.size + 1 ≤ w'.heap.size := Nat.le_trans hs1 hB.size
  have hc : crcSum (H ++ d) < 4294967296 := crcMore_lt 0 (H ++ d)
  have hcw : IntKind.i64.wrap ((crcSum (H ++ d) : Nat) : Int) = ((crcSum (H ++ d) : Nat) : Int) := by rw [IntKind.wrap_i64]; omega
  have hbig1 : ¬ 9223372036854775807 < 14 + d.length := by omega
  have hbig2 : ¬ 9223372036854775807 < 18 + d.length := by omega
  have hlen1 : (H ++ d).length ≤ 140737488351232 := by rw [List.length_append, HLEN.out]; omega
  have HL1 := Lib.hid hlen1
  clear hlen1
  have hlen : H.length = 14 := HLEN.out
  generalize w' = W1 at *
  go_wp2_with fail
  go_region_held3 (fun w' => Below (w.heap.size + 1) W w' ∧ w'.cell? ⟨w.heap.size, 0, none⟩ = some (.int .i64 boot) ∧ w'.cell? ⟨w.heap.size, 1, none⟩ = some (.int .i64 lsn) ∧ w'.cell? ⟨w.heap.size, 2, none⟩ = some (.int .i64 part) ∧ w'.cell? ⟨w.heap.size, 3, none⟩ = some (.int .i64 parts) ∧ w'.cell? ⟨w.heap.size, 4, none⟩ = some (.int .u8 kind) ∧ w'.cell? ⟨w.heap.size, 5, none⟩ = some (.string (S d))) (first | exact boxed6 (below_step (by assumption) (held6 (by assumption)) hs1) c0 c1 c2 c3 c4 c5 | exact boxed6 hB.drew c0 c1 c2 c3 c4 c5)
    (first | (go_at_call 87; (with_reducible refine (crcSum_any _ _ HL1.out).mono ?_); rintro e w' ⟨rfl, hb⟩) | (go_at_call 86; (with_reducible refine (ffixed4 _ _ (by omega) (by omega)).mono ?_); rintro e w' ⟨rfl, hb⟩))
  rename_i hheld2
  have hB2 := hheld2.1
  clear hheld2 hb
  have hs3 : w.heap.size + 1 ≤ w'.heap.size := Nat.le_trans hs1 hB2.size
  clear hB k0 k1 k2 k3 k4 k5 hs2 c0 c1 c2 c3 c4 c5
  generalize w' = W2 at *
  have hw1 : IntKind.i64.wrap (69 - (14 + (4 + (d.length : Int)))) = ((51 - d.length : Nat) : Int) := by rw [IntKind.wrap_i64]; omega
  have hbig3 : ¬ 9223372036854775807 < 14 + (4 + (d.length + (51 - d.length))) + 11 := by omega
  have hbig5 : ¬ 9223372036854775807 < 14 + (4 + d.length) + (51 - d.length) := by omega
  have hbig4 : ¬ 9223372036854775807 < 14 + (4 + (d.length + (51 - d.length))) := by omega
  go_wp2_with fail
  go_region_held3 (fun w' => Below (w.heap.size + 1) W w' ∧ True) (first | exact ⟨below_step (by assumption) (held0 (by assumption)) hs1, trivial⟩ | exact ⟨hB2.drew, trivial⟩)
    (first | (go_at_call 88; (with_reducible refine (repeat_zero _ _ (by omega) (by omega)).mono ?_); rintro e w' ⟨rfl, hb⟩))
  rename_i hheld3
  have hB3 := hheld3.1
  have hfin : Below w.heap.size w w' := HBW.trans (hB3.mono (by omega))
  have hval : S (H ++ (be 4 (crcSum (H ++ d)) ++ (d ++ List.replicate (51 - d.length) 0))) ++ (S H).extract 0 11 = S (Frm.sec ⟨boot, lsn, part, parts, kind, d⟩) := by
    rw [S_extract, S_append, List.drop_zero]
    unfold Frm.sec Frm.head
    dsimp only
    rw [HH.out]
    simp only [List.append_assoc]
  clear hheld3 hb hbig5 hbig4 hbig3 hw1 hbig1 hbig2 hcw hlen
  have HVAL := Lib.hid hval
  clear hval
  go_wp2
  go_ret2
  exact ⟨ret_str2 HVAL.out, hfin⟩
end Go.Proofs.Ytjpelmjocdodcaa
