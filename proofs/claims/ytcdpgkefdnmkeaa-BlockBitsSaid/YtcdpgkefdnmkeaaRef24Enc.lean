/- sacristanref24.Encode: what each call returns. -/
import Derived.Test.YtcdpgkefdnmkeaaRef24
import Derived.Test.YtcdpgkefdnmkeaaCells
import Derived.Deep.RegionHeld3
import Derived.Deep.DeepCutAuto
namespace Go.Proofs.Ytcdpgkefdnmkeaa
open Go.RowKit

theorem Blk.bok {b : Blk} (ok : b.Ok) : BOk b.life b.boot b.n b.off b.data := by
  obtain ⟨h1, h2, h3, h4, h5, h6, h7⟩ := ok
  unfold BOk
  omega
theorem sbeq_yes {a b : List UInt8} (h : a = b) : (a == b) = true ∧ (a != b) = false := by
  subst h
  exact ⟨beq_self_eq_true a, bne_self_eq_false a⟩
theorem sbeq_no {a b : List UInt8} (h : ¬ a = b) : (a == b) = false ∧ (a != b) = true := ⟨beq_eq_false_iff_ne.2 h, bne_iff_ne.2 h⟩
theorem box1 {g : Nat} {W w' : World} {v4 : Value} (hb : Below (g + 1) W w') (c4 : W.cell? ⟨g, 4, none⟩ = some v4) : Below (g + 1) W w' ∧ w'.cell? ⟨g, 4, none⟩ = some v4 := ⟨hb, (hb.cell (p := ⟨g, 4, none⟩) (Nat.lt_succ_self g)).trans c4⟩
theorem ref_sec (b : Blk) : S (be 4 b.life ++ (be 4 b.boot ++ (be 4 b.n ++ (be 6 b.off ++ be 1 b.data.length)))) = S b.head := rfl
set_option maxRecDepth 100000 in
set_option maxHeartbeats 2000000 in
theorem rEncode_bad (life boot n off : Int) (d : List UInt8) (w : World) (bad : 36 < d.length ∨ ¬ BOk life boot n off d) :
    Calls Try.prog 24 #[bval life boot n off d] w fun e w' => e = .returned (.tuple #[.string ⟨#[]⟩, .int .i64 (if 36 < d.length then 5 else 2)]) ∧ Below w.heap.size w w' := by
  by_cases h : 36 < d.length
  · rw [if_pos h]
    have HH := Lib.hid h
    clear h bad
    unfold bval
    go_enter Try.func24, Try.ntmps24
    go_wp2_with (go_at_call 66; refine (rCheck_long life boot n off d _ HH.out).mono ?_; rintro e w' ⟨rfl, hb⟩)
    go_ret2
    exact ⟨rfl, below_step hb (alloc_below _ _) (Nat.le_refl _)⟩
  · rw [if_neg h]
    have HB := Lib.hid (bad.resolve_left h)
    have HH := Lib.hid (show d.length ≤ 36 by omega)
    clear h bad
    unfold bval
    go_enter Try.func24, Try.ntmps24
    go_wp2_with (go_at_call 66; refine (rCheck_arg life boot n off d _ HH.out HB.out).mono ?_; rintro e w' ⟨rfl, hb⟩)
    go_ret2
    exact ⟨rfl, below_step hb (alloc_below _ _) (Nat.le_refl _)⟩
set_option maxRecDepth 100000 in
set_option maxHeartbeats 4000000 in
theorem rEncode_ok (b : Blk) (w : World) (ok : b.Ok) :
    Calls Try.prog 24 #[b.val] w fun e w' => e = .returned (.tuple #[.string (S b.sec), .int .i64 0]) ∧ Below w.heap.size w w' := by
  have BOKK := Lib.hid (Blk.bok ok)
  obtain ⟨life, boot, n, off, d⟩ := b
  obtain ⟨h1, h2, h3, h4, h5, h6, h7⟩ := ok
  dsimp only [Blk.val] at *
  have HD := Lib.hid h7
  go_enter Try.func24, Try.ntmps24
  go_wp2_with (go_at_call 66; refine (rCheck_ok life boot n off d _ HD.out BOKK.out).mono ?_; rintro e w' ⟨rfl, hb⟩)
  generalize hW : w.alloc (Obj.cells #[Value.int IntKind.i64 ↑life, Value.int IntKind.i64 ↑boot, Value.int IntKind.i64 ↑n, Value.int IntKind.i64 ↑off, Value.string (S d)] 23) = W0 at hb
  have HS0 : W0.heap.size = w.heap.size + 1 := by rw [← hW]; simp
  have HBW0 : Below w.heap.size w W0 := by rw [← hW]; exact (Below.refl _ _).alloc (Nat.le_refl _) _
  have k0 : W0.cell? ⟨w.heap.size, 0, none⟩ = some (.int .i64 life) := by rw [← hW]; simp
  have k1 : W0.cell? ⟨w.heap.size, 1, none⟩ = some (.int .i64 boot) := by rw [← hW]; simp
  have k2 : W0.cell? ⟨w.heap.size, 2, none⟩ = some (.int .i64 n) := by rw [← hW]; simp
  have k3 : W0.cell? ⟨w.heap.size, 3, none⟩ = some (.int .i64 off) := by rw [← hW]; simp
  have k4 : W0.cell? ⟨w.heap.size, 4, none⟩ = some (.string (S d)) := by rw [← hW]; simp
  have c0 := below_cell hb k0
  have c1 := below_cell hb k1
  have c2 := below_cell hb k2
  have c3 := below_cell hb k3
  have c4 := below_cell hb k4
  have HBW : Below w.heap.size w w' := below_step hb HBW0 (by omega)
  have hs1 : w.heap.size + 1 ≤ w'.heap.size := by have := hb.size; omega
  clear hW k0 k1 k2 k3 k4 hb HBW0 HS0
  obtain ⟨W, rfl⟩ : ∃ W : World, W = w' := ⟨_, rfl⟩
  go_region_held3 (fun w' => Below (w.heap.size + 1) W w' ∧ w'.cell? ⟨w.heap.size, 0, none⟩ = some (.int .i64 life) ∧ w'.cell? ⟨w.heap.size, 1, none⟩ = some (.int .i64 boot) ∧ w'.cell? ⟨w.heap.size, 2, none⟩ = some (.int .i64 n) ∧ w'.cell? ⟨w.heap.size, 3, none⟩ = some (.int .i64 off) ∧ w'.cell? ⟨w.heap.size, 4, none⟩ = some (.string (S d))) (first | exact boxed5 (below_step (by assumption) (held5 (by assumption)) hs1) c0 c1 c2 c3 c4 | exact boxed5 (below_start _) c0 c1 c2 c3 c4)
    (first | (go_at_call 67; (with_reducible refine (rfixed4 _ _ (by omega) (by omega)).mono ?_); rintro e w' ⟨rfl, hb⟩))
  rename_i hheld
  clear hb
  obtain ⟨hB, k0, k1, k2, k3, k4⟩ := hheld
  have hs2 : w.heap.size + 1 ≤ w'.heap.size := Nat.le_trans hs1 hB.size
  generalize w' = W1 at *
  go_wp2_with fail
  go_region_held3 (fun w' => Below (w.heap.size + 1) W w' ∧ w'.cell? ⟨w.heap.size, 0, none⟩ = some (.int .i64 life) ∧ w'.cell? ⟨w.heap.size, 1, none⟩ = some (.int .i64 boot) ∧ w'.cell? ⟨w.heap.size, 2, none⟩ = some (.int .i64 n) ∧ w'.cell? ⟨w.heap.size, 3, none⟩ = some (.int .i64 off) ∧ w'.cell? ⟨w.heap.size, 4, none⟩ = some (.string (S d))) (first | exact boxed5 (below_step (by assumption) (held5 (by assumption)) hs1) c0 c1 c2 c3 c4 | exact boxed5 hB.drew c0 c1 c2 c3 c4)
    (first | (go_at_call 67; (with_reducible refine (rfixed6 _ _ (by omega) (by omega)).mono ?_); rintro e w' ⟨rfl, hb⟩) | (go_at_call 67; (with_reducible refine (rfixed1 _ _ (by omega) (by omega)).mono ?_); rintro e w' ⟨rfl, hb⟩))
  rename_i hheld
  clear hb
  obtain ⟨hB2, k0', k1', k2', k3', k4'⟩ := hheld
  clear hB k0 k1 k2 k3 k4 hs2
  have hs2 : w.heap.size + 1 ≤ w'.heap.size := Nat.le_trans hs1 hB2.size
  generalize w' = W2 at *
  have HLEN := Lib.hid (Blk.head_length ⟨life, boot, n, off, d⟩)
  unfold Blk.head at HLEN
  dsimp only at HLEN
  generalize hH : be 4 life ++ (be 4 boot ++ (be 4 n ++ (be 6 off ++ be 1 d.length))) = H at HLEN
  have HH := Lib.hid hH
  clear hH
  have hlen : H.length = 19 := HLEN.out
  go_wp2_with fail
  have hlen1 : (H ++ d).length ≤ 140737488351232 := by rw [List.length_append, HLEN.out]; omega
  have hc : crcSum (H ++ d) < 4294967296 := crcMore_lt 0 _
  refine (refSum_any (H ++ d) _ hlen1).mono ?_
  rintro e w' ⟨rfl, rfl⟩
  obtain ⟨cs, hcs⟩ : ∃ x, crcSum (H ++ d) = x := ⟨_, rfl⟩
  rw [hcs] at hc ⊢
  have HCS := Lib.hid hcs
  clear hcs hlen1
  have hcw : IntKind.i64.wrap ((cs : Nat) : Int) = ((cs : Nat) : Int) := by rw [IntKind.wrap_i64]; omega
  go_wp2_with (first | (go_at_call 67; (with_reducible refine (rfixed4 _ _ (by omega) (by omega)).mono ?_); rintro e w' ⟨rfl, hb3⟩))
  have hB3 : Below (w.heap.size + 1) W w' := below_step hb3 hB2 (by omega)
  have hs3 : w.heap.size + 1 ≤ w'.heap.size := Nat.le_trans hs1 hB3.size
  have d4 := below_cell hb3 k4'
  clear hb3 hB2 k0' k1' k2' k3' k4' hs2 c0 c1 c2 c3 hcw
  obtain ⟨W3, rfl⟩ : ∃ W : World, W = w' := ⟨_, rfl⟩
  have e1 : IntKind.i64.wrap (36 - (d.length : Int)) = ((36 - d.length : Nat) : Int) := by rw [IntKind.wrap_i64]; omega
  have e2 : IntKind.i64.wrap (((36 - d.length : Nat) : Int) + 9) = ((45 - d.length : Nat) : Int) := by rw [IntKind.wrap_i64]; omega
  have hbig2 : ¬ 9223372036854775807 < 23 + d.length := by omega
  have hbig3 : ¬ 9223372036854775807 < 19 + (4 + (d.length + (45 - d.length))) + 12 := by omega
  have hbig5 : ¬ 9223372036854775807 < 19 + (4 + d.length) + (45 - d.length) := by omega
  have hbig4 : ¬ 9223372036854775807 < 19 + (4 + (d.length + (45 - d.length))) := by omega
  go_region_held3 (fun w' => Below (w.heap.size + 1) W w' ∧ w'.cell? ⟨w.heap.size, 4, none⟩ = some (.string (S d))) (first | exact box1 (below_step (by assumption) (held0 (by assumption)) hs1) c4 | exact box1 hB3.drew c4)
    (first | (go_at_call 69; (with_reducible refine (zeros_any (45 - d.length) _ (by omega)).mono ?_); rintro e w' ⟨rfl, hb⟩))
  rename_i hheld3
  have hfin : Below w.heap.size w w' := HBW.trans (hheld3.1.mono (by omega))
  have hval : S (H ++ (be 4 cs ++ (d ++ (List.replicate (45 - d.length) 0 ++ (be 4 life ++ (be 4 boot ++ be 4 n)))))) = S (Blk.sec ⟨life, boot, n, off, d⟩) := by
    have h12 : H.take 12 = be 4 life ++ (be 4 boot ++ be 4 n) := by
      rw [← HH.out, show be 4 life ++ (be 4 boot ++ (be 4 n ++ (be 6 off ++ be 1 d.length))) = (be 4 life ++ (be 4 boot ++ be 4 n)) ++ (be 6 off ++ be 1 d.length) by simp]
      rw [List.take_append, show (be 4 life ++ (be 4 boot ++ be 4 n)).length = 12 by simp, Nat.sub_self, List.take_zero, List.append_nil, List.take_of_length_le (by simp)]
    unfold Blk.sec Blk.head
    dsimp only
    rw [HH.out, h12, HCS.out]
  have HVAL := Lib.hid hval
  clear hval hheld3 hb hbig2 hbig3 hbig4 hbig5 e1 e2 hlen d4 c4
  go_wp2
  go_ret2
  exact ⟨ret_str2 HVAL.out, hfin⟩
end Go.Proofs.Ytcdpgkefdnmkeaa
