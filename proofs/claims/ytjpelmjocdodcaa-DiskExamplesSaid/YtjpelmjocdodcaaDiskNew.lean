/- Package disk: New, Pending, Crash. -/
import Derived.Test.YtjpelmjocdodcaaDiskDo
namespace Go.Proofs.Ytjpelmjocdodcaa
open Go.RowKit Go.ChangeMaps

def newE (n : Int) : Int := if 1 ≤ n ∧ n ≤ 65536 then 0 else 3
theorem Dk.new_ok {n : Nat} (h1 : 1 ≤ n) (h2 : n ≤ 65536) : (Dk.new n).Ok := by
  refine ⟨by simp [Dk.new]; exact h1, by simp [Dk.new]; exact h2, fun s hs => ?_, fun p hp => by simp [Dk.new] at hp⟩
  rw [(List.mem_replicate.1 hs).2]
  simp [Z80]
theorem dur_new (n : Nat) : Dur [] (List.replicate n Z80) := by
  refine ⟨by simp [keysOf], fun i hi => ?_⟩
  rw [List.length_replicate] at hi
  unfold secAt
  simp [mget, hi]
set_option maxHeartbeats 800000 in
theorem dnew_ok (n f : Nat) (w : World) (h1 : 1 ≤ n) (h2 : n ≤ 65536) (hf : f < w.heap.size) :
    Calls Try.prog 24 #[.int .i64 n, .pointer (some ⟨f, 0, none⟩)] w fun e w' => e = .returned (.tuple #[.pointer (some ⟨w.heap.size + 1, 0, none⟩), .int .i64 0]) ∧ DiskAt w' (w.heap.size + 1) f w.heap.size (.slice none 0 0) (Dk.new n) ∧ Below w.heap.size w w' := by
  have hmm := @run_makeMap Try.prog
  have h1' : ¬ (n : Int) < 1 := by omega
  have h2' : ¬ (65536 : Int) < n := by omega
  obtain ⟨n1, n2, n3, n4⟩ := two_new w (.map #[] 0) (.cells #[.pointer (some ⟨f, 0, none⟩), .int .i64 n, .bool false, .map (some w.heap.size), .slice none 0 0] 103)
  have N1 := Lib.hid n1
  have N2 := Lib.hid n2
  have N4 := Lib.hid n4
  have H1 := Lib.hid h1
  have H2 := Lib.hid h2
  have HF := Lib.hid hf
  clear n1 n2 n3 n4 h1 h2 hf
  go_enter Try.func24, Try.ntmps24
  go_wp2
  go_ret2
  refine ⟨rfl, ⟨?_, ⟨[], ⟨[], 0, N1.out, rfl⟩, dur_new n⟩, World.ownsRow_nil _ _ _ _, Dk.new_ok H1.out H2.out, by omega, by have := HF.out; omega, by have := HF.out; omega, fun k hk => by simp [Value.ownBlock] at hk⟩, N4.out⟩
  rw [N2.out]
  simp [dcells, Dk.new]
set_option maxHeartbeats 800000 in
theorem dnew_range (n : Int) (f : Nat) (w : World) (h : ¬ (1 ≤ n ∧ n ≤ 65536)) :
    Calls Try.prog 24 #[.int .i64 n, .pointer (some ⟨f, 0, none⟩)] w fun e w' => e = .returned (.tuple #[.pointer none, .int .i64 3]) ∧ w' = w := by
  by_cases h1 : n < 1
  · go_enter Try.func24, Try.ntmps24
    go_wp2
    go_ret2
    exact ⟨rfl, rfl⟩
  · have h2 : 65536 < n := by omega
    clear h
    go_enter Try.func24, Try.ntmps24
    go_wp2
    go_ret2
    exact ⟨rfl, rfl⟩
def intsOf (l : List Int) : List Value := l.map fun n => .int .i64 n
def pendNs (l : List (Nat × List UInt8)) : List Int := l.map fun p => (p.1 : Int)
/-- A new slice of ints. -/
def SomeInts (w : World) (l : List Int) (e : Ending) (w' : World) : Prop :=
  ∃ u, e = .returned u ∧ w'.ownsRow 0 3 1 u l.length (intsOf l) ∧ (∀ k, u.ownBlock = some k → w.heap.size ≤ k) ∧ Below w.heap.size w w'
theorem grown_below {w0 w w' : World} {B : Nat} {r : Option Nat} (h0 : Below B w0 w) (h : w.grownBy w' r) (hB : B ≤ w.heap.size) (hr : ∀ k, r = some k → B ≤ k) : Below B w0 w' :=
  (grown_keeps h).belowOf h0 hB (fun k hk e => by have := hr k e; omega)
set_option maxRecDepth 100000 in
set_option maxHeartbeats 1600000 in
theorem dpending_any (d f m : Nat) (v : Value) (D : Dk) (w : World) (h : DiskAt w d f m v D) (hP : D.P.length ≤ 1000000) :
    Calls Try.prog 18 #[.pointer (some ⟨d, 0, none⟩)] w (SomeInts w (pendNs D.P)) := by
  obtain ⟨A, cap, rfl⟩ := ownsRow_is h.row
  have hpl := row_len h.row
  unfold maxLen at hpl
  have c4 : w.cell? ⟨d, 4, none⟩ = some (.slice A D.P.length cap) := (cell_of h.blk 4).trans rfl
  have HH := Lib.hid h
  clear h
  go_enter Try.func18, Try.ntmps18
  go_wp2_with (fail)
  go_loopw [3, 14] (fun v3 v14 wr => ∃ i : Nat, i ≤ D.P.length ∧ v14 = .int .i64 i ∧ Hid (wr.ownsRow 0 3 1 v3 i (intsOf (pendNs (D.P.take i)))) ∧ Hid (∀ k, v3.ownBlock = some k → w.heap.size ≤ k) ∧ Hid (Below w.heap.size w wr)) (fun _ v14 _ => D.P.length - (intOf v14).toNat)
  case atStart => exact ⟨0, Nat.zero_le _, rfl, World.ownsRow_nil _ _ _ _, fun k hk => by simp [Value.ownBlock] at hk, .refl _ _⟩
  case round =>
    obtain ⟨i, hi, rfl, ho, hf, hb⟩ := hrel
    by_cases hlt : i < D.P.length
    · obtain ⟨g, rfl, e0, e1⟩ := wcell_at (HH.out.below hb.out).row rfl hlt
      have HT : Hid (intsOf (pendNs (D.P.take (i + 1))) = intsOf (pendNs (D.P.take i)) ++ [.int .i64 (D.P[i].1 : Int)]) := by
        unfold Hid intsOf pendNs
        rw [List.take_succ_eq_append_getElem hlt, List.map_append, List.map_append]
        rfl
      obtain ⟨⟨a, s⟩, hp⟩ : ∃ p, D.P[i] = p := ⟨_, rfl⟩
      rw [hp] at e0 e1 HT
      dsimp only at e0 e1 HT
      clear hp
      have e0' : wr.cell? (Addr.add ⟨g, 0, none⟩ (i * 2)) = some (.int .i64 (a : Int)) := by rw [add_eq, Nat.zero_add]; exact e0
      have n2 := alloc_new wr (.cells #[.int .i64 a, .string (S s)] 105)
      have b2 := alloc_below wr (.cells #[.int .i64 a, .string (S s)] 105)
      obtain ⟨w2, hw2⟩ : ∃ w2, wr.alloc (.cells #[.int .i64 a, .string (S s)] 105) = w2 := ⟨_, rfl⟩
      rw [hw2] at n2 b2
      have n3 := alloc_new w2 (.cells #[.int .i64 a] 3)
      have b3 := alloc_below w2 (.cells #[.int .i64 a] 3)
      obtain ⟨w3, hw3⟩ : ∃ w3, w2.alloc (.cells #[.int .i64 a] 3) = w3 := ⟨_, rfl⟩
      rw [hw3] at n3 b3
      have b23 : Below wr.heap.size wr w3 := below_step b3 b2 (Nat.le_refl _)
      have ho3 := row_keeps (S := fun _ => False) ho.out (.of_below b23) (fun _ _ => id)
      obtain ⟨v', w4, hrun, hown, hgr, hat⟩ := append_run (P := Try.prog) w3 28 28 3 (.int .i64 0) 1 8 Try.underlying28 (by kernel_rfl) rfl (by decide) u3 i _ ho3
        ⟨w2.heap.size, 0, none⟩ 1 1 [.int .i64 a] rfl (fun j u hu => by rw [cell_at n3, Nat.zero_add]; simpa using hu) (fun u hu => by simp at hu; subst hu; rfl) (by unfold maxLen; omega) (by omega)
      obtain ⟨A', cap', rfl⟩ := ownsRow_is hown
      have x0 : w2.cell? ⟨wr.heap.size, 0, none⟩ = some (.int .i64 a) := (cell_of n2 0).trans rfl
      have hrun2 := Lib.hid hrun
      have HB4 := Lib.hid (grown_below (below_step b23 hb.out (Nat.le_refl _)) hgr (Nat.le_trans hb.out.size b23.size) hf.out)
      have HF4 : Hid (∀ k, (Value.slice A' (i + 1) cap').ownBlock = some k → w.heap.size ≤ k) := fun k hk => by
        rcases hat with hat | hat
        · exact hf.out k (hat.symm.trans hk)
        · rw [hat] at hk
          injection hk with hk
          have h1 := hb.out.size
          have h2 := b23.size
          omega
      have HO4 := Lib.hid hown
      clear hrun n2 b2 n3 b3 hgr hat hown
      go_wp2_with (at_builtin; refine wpList_append_eq rfl (.tmp 18) (.tmp 21) 28 rfl _ _ rfl rfl _ _ hrun2.out ?_)
      go_roundw
      case rel => exact ⟨i + 1, by omega, by go_num, by rw [HT.out]; exact HO4, HF4, HB4⟩
      case measure => simp [intOf]; omega
    · obtain rfl : i = D.P.length := by omega
      rw [List.take_length] at ho
      go_wp2
      go_ret
      refine ⟨_, rfl, ?_, hf.out, hb.out⟩
      rw [show (pendNs D.P).length = D.P.length by simp [pendNs]]
      exact ho.out
end Go.Proofs.Ytjpelmjocdodcaa
