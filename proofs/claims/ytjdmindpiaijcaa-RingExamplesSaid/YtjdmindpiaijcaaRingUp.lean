/- The two tests that ring.Recover hands to its walk. -/
import Derived.Test.YtjdmindpiaijcaaProg
import Derived.Test.YtjdmindpiaijcaaFrame
import Derived.Test.YtjdmindpiaijcaaRingPure
import Derived.BigQuiet
namespace Go.Proofs.Ytjdmindpiaijcaa
open Go.RowKit

def gvals (m : List (Int × GB)) : List (Int × Value) := m.map fun p => (p.1, p.2.val)
theorem gget (m : List (Int × GB)) (k : Int) : (mget (gvals m) k).getD GB.zero.val = (at? m k).val := by
  rw [gvals, mget_map, at?]; cases mget m k <;> rfl
theorem gis (m : List (Int × GB)) (k : Int) : (mget (gvals m) k).isSome = (mget m k).isSome := by
  rw [gvals, mget_map]; cases mget m k <;> rfl
theorem bfield1 (a b c d e : Value) (w : World) : (Instr.field 35 (.agg #[a, b, c, d, e]) 1).run Try.prog w = .ok b w := by kernel_rfl
theorem bfield3 (a b c d e : Value) (w : World) : (Instr.field 35 (.agg #[a, b, c, d, e]) 3).run Try.prog w = .ok d w := by kernel_rfl
theorem bfield4 (a b c d e : Value) (w : World) : (Instr.field 35 (.agg #[a, b, c, d, e]) 4).run Try.prog w = .ok e w := by kernel_rfl
theorem zero_block (w : World) : (zeroValue 35).run Try.prog w = .ok GB.zero.val w := by kernel_rfl
theorem look_ok {w : World} {b : Nat} {m : List (Int × GB)} (h : IsMap w b (gvals m)) (k : Int) :
    (Instr.lookup 43 (.map (some b)) (.int .i64 k) true).run Try.prog w = .ok (.tuple #[(at? m k).val, .bool (mget m k).isSome]) w := by
  rw [h.look Try.underlying43 Try.underlying3 (zero_block w) k true, gget, gis]; rfl
theorem look_no {w : World} {b : Nat} {m : List (Int × GB)} (h : IsMap w b (gvals m)) (k : Int) :
    (Instr.lookup 43 (.map (some b)) (.int .i64 k) false).run Try.prog w = .ok (at? m k).val w := by
  rw [h.look Try.underlying43 Try.underlying3 (zero_block w) k false, gget]; rfl
theorem IsMap.below {w w' : World} {b : Nat} {m : List (Int × Value)} (h : IsMap w b m) (hb : Below w.heap.size w w') : IsMap w' b m := by
  obtain ⟨L, c, h1, h2⟩ := h
  exact ⟨L, c, (hb.block b (Array.getElem?_eq_some_iff.1 h1).1).trans h1, h2⟩
theorem IsMap.keeps {S : Nat → Prop} {w w' : World} {b : Nat} {m : List (Int × Value)} (h : IsMap w b m) (hk : Keeps S w w') (hn : ¬ S b) : IsMap w' b m := by
  obtain ⟨L, c, h1, h2⟩ := h
  exact ⟨L, c, (hk.block b (Array.getElem?_eq_some_iff.1 h1).1 hn).trans h1, h2⟩
theorem IsMap.lt {w : World} {b : Nat} {m : List (Int × Value)} (h : IsMap w b m) : b < w.heap.size := by
  obtain ⟨L, c, h1, h2⟩ := h
  exact (Array.getElem?_eq_some_iff.1 h1).1

set_option maxRecDepth 100000 in
set_option maxHeartbeats 400000 in
theorem mayDown_any (m : List (Int × GB)) (least n : Int) (M : Nat) (F A : Addr) (w : World) (hm : IsMap w M (gvals m)) (hF : w.cell? F = some (.map (some M))) (hA : w.cell? A = some (.int .i64 least))
    (hn : -9223372036854775807 ≤ n) (hn2 : n ≤ 9223372036854775807) :
    Calls Try.prog 14 #[.int .i64 n, .pointer (some F), .pointer (some A)] w fun e w' => e = .returned (.bool (mayDown m least n)) ∧ Below w.heap.size w w' := by
  have hl := look_ok hm (n - 1)
  have hv : (at? m (n - 1)).val = .agg #[.int .i64 (at? m (n - 1)).life, .int .i64 (at? m (n - 1)).boot, .int .i64 (at? m (n - 1)).n, .int .i64 (at? m (n - 1)).off, .string (S (at? m (n - 1)).data)] := rfl
  rw [hv] at hl
  clear hv
  unfold mayDown
  cases hs : (mget m (n - 1)).isSome with
  | false =>
    rw [hs] at hl
    have HS := Lib.hid hs
    clear hs
    go_enter Try.func14, Try.ntmps14
    go_wp2
    go_ret
    exact ⟨rfl, (Below.refl _ _).alloc (Nat.le_refl _) _⟩
  | true =>
    rw [hs] at hl
    have HS := Lib.hid hs
    clear hs
    have hA' : ∀ o, (w.alloc o).cell? A = some (.int .i64 least) := fun o => below_cell ((Below.refl _ _).alloc (Nat.le_refl _) o) hA
    by_cases hlt : least < n
    · go_enter Try.func14, Try.ntmps14
      go_wp2
      go_ret
      exact ⟨ret_bool (by simp [hlt]), (Below.refl _ _).alloc (Nat.le_refl _) _⟩
    · go_enter Try.func14, Try.ntmps14
      go_wp2
      go_ret
      exact ⟨ret_bool (by simp [hlt]), (Below.refl _ _).alloc (Nat.le_refl _) _⟩

set_option maxRecDepth 100000 in
set_option maxHeartbeats 1000000 in
theorem mayUp_any (m : List (Int × GB)) (begin blocks n : Int) (M : Nat) (F A B : Addr) (w : World) (hm : IsMap w M (gvals m)) (hF : w.cell? F = some (.map (some M))) (hA : w.cell? A = some (.int .i64 begin)) (hB : w.cell? B = some (.int .i64 blocks))
    (hn : -9223372036854775807 ≤ n) (hn2 : n ≤ 9223372036854775807) (hb0 : 0 ≤ begin) (hb1 : begin ≤ 4294967295) (hk0 : 1 ≤ blocks) (hk1 : blocks ≤ 64) :
    Calls Try.prog 13 #[.int .i64 n, .pointer (some F), .pointer (some A), .pointer (some B)] w fun e w' => e = .returned (.bool (mayUp m begin blocks n)) ∧ Below w.heap.size w w' := by
  have hl := look_ok hm n
  have hv : (at? m n).val = .agg #[.int .i64 (at? m n).life, .int .i64 (at? m n).boot, .int .i64 (at? m n).n, .int .i64 (at? m n).off, .string (S (at? m n).data)] := rfl
  rw [hv] at hl
  clear hv
  have hbel : Below w.heap.size w (w.alloc (.cells (at? m n).cells.toArray 35)) := (Below.refl _ _).alloc (Nat.le_refl _) _
  have hl2 := look_no (hm.below hbel) (n - 1)
  have hv : (at? m (n - 1)).val = .agg #[.int .i64 (at? m (n - 1)).life, .int .i64 (at? m (n - 1)).boot, .int .i64 (at? m (n - 1)).n, .int .i64 (at? m (n - 1)).off, .string (S (at? m (n - 1)).data)] := rfl
  rw [hv] at hl2
  clear hv
  unfold GB.cells at hl2
  clear hbel
  have hA' : ∀ o, (w.alloc o).cell? A = some (.int .i64 begin) := fun o => below_cell ((Below.refl _ _).alloc (Nat.le_refl _) o) hA
  have hB' : ∀ o, (w.alloc o).cell? B = some (.int .i64 blocks) := fun o => below_cell ((Below.refl _ _).alloc (Nat.le_refl _) o) hB
  have hF' : ∀ o, (w.alloc o).cell? F = some (.map (some M)) := fun o => below_cell ((Below.refl _ _).alloc (Nat.le_refl _) o) hF
  unfold mayUp
  cases hs : (mget m n).isSome with
  | false =>
    rw [hs] at hl
    have HS := Lib.hid hs
    clear hs
    go_enter Try.func13, Try.ntmps13
    go_wp2
    go_ret
    exact ⟨rfl, (Below.refl _ _).alloc (Nat.le_refl _) _⟩
  | true =>
    rw [hs] at hl
    have HS := Lib.hid hs
    clear hs
    by_cases hlt : n < begin + blocks
    · by_cases heq : n = begin
      · have heq' : (n == begin) = true := by simpa using heq
        have HE := Lib.hid heq
        clear heq
        go_enter Try.func13, Try.ntmps13
        go_wp2
        go_ret
        exact ⟨ret_bool (by rw [decide_eq_true hlt, heq']; rfl), (Below.refl _ _).alloc (Nat.le_refl _) _⟩
      · have heq' : (n == begin) = false := by simpa using heq
        clear heq
        have hfl := fun a b c d e => bfield1 a b c d e
        go_enter Try.func13, Try.ntmps13
        go_wp2
        go_ret
        exact ⟨ret_bool (by rw [decide_eq_true hlt, heq']; rfl), (Below.refl _ _).alloc (Nat.le_refl _) _⟩
    · go_enter Try.func13, Try.ntmps13
      go_wp2
      go_ret
      exact ⟨ret_bool (by rw [decide_eq_false (by omega)]; rfl), (Below.refl _ _).alloc (Nat.le_refl _) _⟩
end Go.Proofs.Ytjdmindpiaijcaa
