/- sacristanref05.Encode: what each call returns. -/
import Derived.Test.YtjpelmjocdodcaaRef05
import Derived.Test.YtjpelmjocdodcaaCells
import Derived.Deep.RegionHeld3
import Derived.Deep.DeepCutAuto
namespace Go.Proofs.Ytjpelmjocdodcaa
open Go.RowKit

theorem Frm.fok {b : Frm} (ok : b.Ok) : FOk b.boot b.lsn b.part b.parts := by
  obtain ⟨h1, h2, h3, h4, h5, h6, h7, h8⟩ := ok
  unfold FOk
  omega
theorem fbox1 {g : Nat} {W w' : World} {v5 : Value} (hb : Below (g + 1) W w') (c5 : W.cell? ⟨g, 5, none⟩ = some v5) : Below (g + 1) W w' ∧ w'.cell? ⟨g, 5, none⟩ = some v5 := ⟨hb, (hb.cell (p := ⟨g, 5, none⟩) (Nat.lt_succ_self g)).trans c5⟩
set_option maxRecDepth 100000 in
set_option maxHeartbeats 2000000 in
theorem frEncode_bad (boot lsn part parts kind : Int) (d : List UInt8) (w : World) (bad : 44 < d.length ∨ ¬ FOk boot lsn part parts) :
    Calls Try.prog 69 #[fval boot lsn part parts kind d] w fun e w' => e = .returned (.tuple #[.string ⟨#[]⟩, .int .i64 (if 44 < d.length then 5 else 2)]) ∧ Below w.heap.size w w' := by
  by_cases h : 44 < d.length
  · rw [if_pos h]
    have HH := Lib.hid h
    clear h bad
    unfold fval
    go_enter Try.func69, Try.ntmps69
    go_wp2_with (go_at_call 89; refine (fCheck_long boot lsn part parts kind d _ HH.out).mono ?_; rintro e w' ⟨rfl, hb⟩)
    go_ret2
    exact ⟨rfl, below_step hb (alloc_below _ _) (Nat.le_refl _)⟩
  · rw [if_neg h]
    have HB := Lib.hid (bad.resolve_left h)
    have HH := Lib.hid (show d.length ≤ 44 by omega)
    clear h bad
    unfold fval
    go_enter Try.func69, Try.ntmps69
    go_wp2_with (go_at_call 89; refine (fCheck_arg boot lsn part parts kind d _ HH.out HB.out).mono ?_; rintro e w' ⟨rfl, hb⟩)
    go_ret2
    exact ⟨rfl, below_step hb (alloc_below _ _) (Nat.le_refl _)⟩
set_option maxRecDepth 100000 in
set_option maxHeartbeats 4000000 in
theorem frEncode_ok (b : Frm) (w : World) (ok : b.Ok) :
    Calls Try.prog 69 #[b.val] w fun e w' => e = .returned (.tuple #[.string (S b.sec), .int .i64 0]) ∧ Below w.heap.size w w' := by
  have BOKK := Lib.hid (Frm.fok ok)
  obtain ⟨boot, lsn, part, parts, kind, d⟩ := b
  obtain ⟨h1, h2, h3, h4, h5, h6, h7, h8⟩ := ok
  dsimp only [Frm.val] at *
  have HD := Lib.hid h8
  go_enter Try.func69, Try.ntmps69
  go_wp2_with (go_at_call 89; refine (fCheck_ok boot lsn part parts kind d _ HD.out BOKK.out).mono ?_; rintro e w' ⟨rfl, hb⟩)
  generalize hW : w.alloc (Obj.cells #[Value.int IntKind.i64 ↑boot, Value.int IntKind.i64 ↑lsn, Value.int IntKind.i64 ↑part, Value.int IntKind.i64 ↑parts, Value.int IntKind.u8 ↑kind, Value.string (S d)] 77) = W0 at hb
  have HS0 : W0.heap.size = w.heap.size + 1 := by rw [← hW]; simp
  have HBW0 : Below w.heap.size w W0 := by rw [← hW]; exact (Below.refl _ _).alloc (Nat.le_refl _) _
  have k0 : W0.cell? ⟨w.heap.size, 0, none⟩ = some (.int .i64 boot) := by rw [← hW]; simp
  have k1 : W0.cell? ⟨w.heap.size, 1, none⟩ = some (.int .i64 lsn) := by rw [← hW]; simp
  have k2 : W0.cell? ⟨w.heap.size, 2, none⟩ = some (.int .i64 part) := by rw [← hW]; simp
  have k3 : W0.cell? ⟨w.heap.size, 3, none⟩ = some (.int .i64 parts) := by rw [← hW]; simp
  have k4 : W0.cell? ⟨w.heap.size, 4, none⟩ = some (.int .u8 kind) := by rw [← hW]; simp
  have k5 : W0.cell? ⟨w.heap.size, 5, none⟩ = some (.string (S d)) := by rw [← hW]; simp
  have c0 := below_cell hb k0
  have c1 := below_cell hb k1
  have c2 := below_cell hb k2
  have c3 := below_cell hb k3
  have c4 := below_cell hb k4
  have c5 := below_cell hb k5
  have hkw : IntKind.i64.wrap (kind : Int) = (kind : Int) := by rw [IntKind.wrap_i64]; omega
  have HBW : Below w.heap.size w w' := below_step hb HBW0 (by omega)
  have hs1 : w.heap.size + 1 ≤ w'.heap.size := by have := hb.size; omega
  clear hW k0 k1 k2 k3 k4 k5 hb HBW0 HS0
  obtain ⟨W, rfl⟩ : ∃ W : World, W = w' := ⟨_, rfl⟩
  go_region_held3 (fun w' => Below (w.heap.size + 1) W w' ∧ w'.cell? ⟨w.heap.size, 0, none⟩ = some (.int .i64 boot) ∧ w'.cell? ⟨w.heap.size, 1, none⟩ = some (.int .i64 lsn) ∧ w'.cell? ⟨w.heap.size, 2, none⟩ = some (.int .i64 part) ∧ w'.cell? ⟨w.heap.size, 3, none⟩ = some (.int .i64 parts) ∧ w'.cell? ⟨w.heap.size, 4, none⟩ = some (.int .u8 kind) ∧ w'.cell? ⟨w.heap.size, 5, none⟩ = some (.string (S d))) (first | exact boxed6 (below_step (by assumption) (held6 (by assumption)) hs1) c0 c1 c2 c3 c4 c5 | exact boxed6 (below_start _) c0 c1 c2 c3 c4 c5)
    (first | (go_at_call 90; (with_reducible refine (rfixed4 _ _ (by omega) (by omega)).mono ?_); rintro e w' ⟨rfl, hb⟩) | (go_at_call 90; (with_reducible refine (rfixed6 _ _ (by omega) (by omega)).mono ?_); rintro e w' ⟨rfl, hb⟩) | (go_at_call 90; (with_reducible refine (rfixed1 _ _ (by omega) (by omega)).mono ?_); rintro e w' ⟨rfl, hb⟩))
  rename_i hheld
  clear hb
  obtain ⟨hB, k0, k1, k2, k3, k4, k5⟩ := hheld
  have hs2 : w.heap.size + 1 ≤ w'.heap.size := Nat.le_trans hs1 hB.size
  generalize w' = W1 at *
  go_wp2_with fail
  go_region_held3 (fun w' => Below (w.heap.size + 1) W w' ∧ w'.cell? ⟨w.heap.size, 0, none⟩ = some (.int .i64 boot) ∧ w'.cell? ⟨w.heap.size, 1, none⟩ = some (.int .i64 lsn) ∧ w'.cell? ⟨w.heap.size, 2, none⟩ = some (.int .i64 part) ∧ w'.cell? ⟨w.heap.size, 3, none⟩ = some (.int .i64 parts) ∧ w'.cell? ⟨w.heap.size, 4, none⟩ = some (.int .u8 kind) ∧ w'.cell? ⟨w.heap.size, 5, none⟩ = some (.string (S d))) (first | exact boxed6 (below_step (by assumption) (held6 (by assumption)) hs1) c0 c1 c2 c3 c4 c5 | exact boxed6 hB.drew c0 c1 c2 c3 c4 c5)
    (first | (go_at_call 90; (with_reducible refine (rfixed1 _ _ (by omega) (by omega)).mono ?_); rintro e w' ⟨rfl, hb⟩))
  rename_i hheld
  clear hb
  obtain ⟨hB2, k0', k1', k2', k3', k4', k5'⟩ := hheld
  clear hB k0 k1 k2 k3 k4 k5 hs2 hkw
  have hs2 : w.heap.size + 1 ≤ w'.heap.size := Nat.le_trans hs1 hB2.size
  generalize w' = W2 at *
  have HLEN := Lib.hid (Frm.head_length ⟨boot, lsn, part, parts, kind, d⟩)
  unfold Frm.head at HLEN
  dsimp only at HLEN
  generalize hH : be 4 boot ++ (be 6 lsn ++ (be 1 part ++ (be 1 parts ++ (be 1 kind ++ be 1 d.length)))) = H at HLEN
  have HH := Lib.hid hH
  clear hH
  have hlen : H.length = 14 := HLEN.out
  go_wp2_with fail
  have hlen1 : (H ++ d).length ≤ 140737488351232 := by rw [List.length_append, HLEN.out]; omega
  have hc : crcSum (H ++ d) < 4294967296 := crcMore_lt 0 _
  refine (refSum_any (H ++ d) _ hlen1).mono ?_
  rintro e w' ⟨rfl, rfl⟩
  obtain ⟨cs, hcs⟩ : ∃ x, crcSum (H ++ d) = x := ⟨_, rfl⟩
  rw [hcs] at hc ⊢
  have HCS := Lib.hid hcs
  clear hcs hlen1
  have hcw : IntKind.i64.wrap ((cs : Nat) : Int) = ((cs : Nat) : Int) := by rw [IntKind.wrap_i64]; omega
  have hs3 : w.heap.size + 1 ≤ w'.heap.size := hs2
  clear k0' k1' k2' k3' k4' k5' hs2 c0 c1 c2 c3 c4
  obtain ⟨W3, rfl⟩ : ∃ W : World, W = w' := ⟨_, rfl⟩
  have e1 : IntKind.i64.wrap (44 - (d.length : Int)) = ((44 - d.length : Nat) : Int) := by rw [IntKind.wrap_i64]; omega
  have e2 : IntKind.i64.wrap (((44 - d.length : Nat) : Int) + 7) = ((51 - d.length : Nat) : Int) := by rw [IntKind.wrap_i64]; omega
  have hbig2 : ¬ 9223372036854775807 < 18 + d.length := by omega
  have hbig3 : ¬ 9223372036854775807 < 14 + (4 + (d.length + (51 - d.length))) + 11 := by omega
  have hbig5 : ¬ 9223372036854775807 < 14 + (4 + d.length) + (51 - d.length) := by omega
  have hbig4 : ¬ 9223372036854775807 < 14 + (4 + (d.length + (51 - d.length))) := by omega
  go_wp2_with fail
  go_region_held3 (fun w' => Below (w.heap.size + 1) W w' ∧ w'.cell? ⟨w.heap.size, 5, none⟩ = some (.string (S d))) (first | exact fbox1 (below_step (by assumption) (held0 (by assumption)) hs1) c5 | exact fbox1 hB2.drew c5)
    (first | (go_at_call 90; (with_reducible refine (rfixed4 _ _ (by omega) (by omega)).mono ?_); rintro e w' ⟨rfl, hb⟩) | (go_at_call 92; (with_reducible refine (rzeros_any (51 - d.length) _ (by omega)).mono ?_); rintro e w' ⟨rfl, hb⟩))
  rename_i hheld3
  have hfin : Below w.heap.size w w' := HBW.trans (hheld3.1.mono (by omega))
  have hval : S (H ++ (be 4 cs ++ (d ++ (List.replicate (51 - d.length) 0 ++ (be 4 boot ++ (be 6 lsn ++ be 1 part)))))) = S (Frm.sec ⟨boot, lsn, part, parts, kind, d⟩) := by
    have h11 : H.take 11 = be 4 boot ++ (be 6 lsn ++ be 1 part) := by
      rw [← HH.out, show be 4 boot ++ (be 6 lsn ++ (be 1 part ++ (be 1 parts ++ (be 1 kind ++ be 1 d.length)))) = (be 4 boot ++ (be 6 lsn ++ be 1 part)) ++ (be 1 parts ++ (be 1 kind ++ be 1 d.length)) by simp]
      rw [List.take_append, show (be 4 boot ++ (be 6 lsn ++ be 1 part)).length = 11 by simp, Nat.sub_self, List.take_zero, List.append_nil, List.take_of_length_le (by simp)]
    unfold Frm.sec Frm.head
    dsimp only
    rw [HH.out, h11, HCS.out]
  have HVAL := Lib.hid hval
  clear hval hheld3 hb hbig2 hbig3 hbig4 hbig5 e1 e2 hlen c5 hcw
  go_wp2
  go_ret2
  exact ⟨ret_str2 HVAL.out, hfin⟩
end Go.Proofs.Ytjpelmjocdodcaa
