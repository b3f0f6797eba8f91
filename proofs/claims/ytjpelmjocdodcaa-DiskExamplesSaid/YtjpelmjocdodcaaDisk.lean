/- Package disk: a disk in memory; its small calls. -/
import Derived.Test.YtjpelmjocdodcaaFuse
import Derived.Test.YtjpelmjocdodcaaMapDel
import Derived.Test.YtjpelmjocdodcaaFixed
import Derived.Deep.RegionHeld3
import Derived.Laws.AppendOwn
import Derived.BigRegion
namespace Go.Proofs.Ytjpelmjocdodcaa
open Go.RowKit Go.ChangeMaps

def wcells (l : List (Nat × List UInt8)) : List Value := l.flatMap fun p => [.int .i64 (p.1 : Int), .string (S p.2)]
def strMap (M : List (Int × List UInt8)) : List (Int × Value) := M.map fun p => (p.1, .string (S p.2))
theorem get_strMap (M : List (Int × List UInt8)) (k : Int) : mget (strMap M) k = (mget M k).map fun s => .string (S s) := mget_map (fun s => Value.string (S s)) M k
theorem put_strMap (M : List (Int × List UInt8)) (k : Int) (s : List UInt8) : mput (strMap M) k (.string (S s)) = strMap (mput M k s) := mput_map (fun s => Value.string (S s)) M k s
theorem del_strMap (M : List (Int × List UInt8)) (k : Int) : mdel (strMap M) k = strMap (mdel M k) := mdel_map (fun s => Value.string (S s)) M k
def Dur (M : List (Int × List UInt8)) (L : List (List UInt8)) : Prop := (keysOf M).Nodup ∧ ∀ i : Nat, i < L.length → (mget M i).getD Z80 = secAt L i
def dcells (f m : Nat) (v : Value) (D : Dk) : Array Value := #[.pointer (some ⟨f, 0, none⟩), .int .i64 D.S.length, .bool D.full, .map (some m), v]
/-- Block d is the disk D, with the fuse f, the map m, and the pending writes v. -/
structure DiskAt (w : World) (d f m : Nat) (v : Value) (D : Dk) : Prop where
  blk : w.heap[d]? = some (.cells (dcells f m v D) 103 (0, 0))
  map : ∃ M, IsMap w m (strMap M) ∧ Dur M D.S
  row : w.ownsRow 0 105 2 v D.P.length (wcells D.P)
  ok : D.Ok
  dm : d ≠ m
  df : d ≠ f
  mf : m ≠ f
  vn : ∀ k, v.ownBlock = some k → k ≠ d ∧ k ≠ m ∧ k ≠ f
theorem row_keeps {w w' : World} {e : TypeId} {n sz : Nat} {v : Value} {xs : List Value} {S : Nat → Prop} (h : w.ownsRow 0 e sz v n xs) (k : Keeps S w w') (hv : ∀ k, v.ownBlock = some k → ¬ S k) : w'.ownsRow 0 e sz v n xs := by
  refine ⟨h.1, ?_⟩
  rcases h.2 with h2 | ⟨g, cap, cur, rfl, hb, hg, r⟩
  · exact .inl h2
  · exact .inr ⟨g, cap, cur, rfl, hb, (k.block g (Array.getElem?_eq_some_iff.1 hg).1 (hv g rfl)).trans hg, r⟩
theorem DiskAt.keeps {w w' : World} {d f m : Nat} {v : Value} {D : Dk} {S : Nat → Prop} (h : DiskAt w d f m v D) (k : Keeps S w w') (hd : ¬ S d) (hm : ¬ S m) (hv : ∀ k, v.ownBlock = some k → ¬ S k) : DiskAt w' d f m v D := by
  obtain ⟨M, h1, h2⟩ := h.map
  exact ⟨(k.block d (Array.getElem?_eq_some_iff.1 h.blk).1 hd).trans h.blk, ⟨M, h1.keeps k hm, h2⟩, row_keeps h.row k hv, h.ok, h.dm, h.df, h.mf, h.vn⟩
theorem DiskAt.below {w w' : World} {d f m : Nat} {v : Value} {D : Dk} (h : DiskAt w d f m v D) (k : Below w.heap.size w w') : DiskAt w' d f m v D :=
  h.keeps (S := fun _ => False) (.of_below k) id id (fun _ _ => id)
theorem FzAt.below {w w' : World} {f : Nat} {z : Fz} (h : FzAt w f z) (k : Below w.heap.size w w') : FzAt w' f z := h.keeps (S := fun _ => False) (.of_below k) id
theorem dur_put {M : List (Int × List UInt8)} {L : List (List UInt8)} (h : Dur M L) {i : Nat} (_hi : i < L.length) (s : List UInt8) : Dur (mput M i s) (L.set i s) := by
  refine ⟨nodup_mput h.1 _ _, fun j hj => ?_⟩
  rw [List.length_set] at hj
  unfold secAt
  rw [mget_mput, List.getD_eq_getElem?_getD, List.getElem?_set]
  by_cases e : j = i
  · subst e
    simp [hj]
  · rw [if_neg (by omega), if_neg (by omega), h.2 j hj]; unfold secAt; rw [List.getD_eq_getElem?_getD]
theorem dur_del {M : List (Int × List UInt8)} {L : List (List UInt8)} (h : Dur M L) {i : Nat} (_hi : i < L.length) : Dur (mdel M i) (L.set i Z80) := by
  refine ⟨nodup_mdel h.1 _, fun j hj => ?_⟩
  rw [List.length_set] at hj
  unfold secAt
  rw [mget_mdel h.1, List.getD_eq_getElem?_getD, List.getElem?_set]
  by_cases e : j = i
  · subst e
    simp [hj]
  · rw [if_neg (by omega), if_neg (by omega), h.2 j hj]; unfold secAt; rw [List.getD_eq_getElem?_getD]

set_option maxHeartbeats 400000 in
theorem dhas_any (d f m : Nat) (v : Value) (D : Dk) (i : Int) (w : World) (h : DiskAt w d f m v D) :
    Calls Try.prog 50 #[.pointer (some ⟨d, 0, none⟩), .int .i64 i] w fun e w' => e = .returned (.int .i64 (hasE D i)) ∧ w' = w := by
  have c1 : w.cell? ⟨d, 1, none⟩ = some (.int .i64 D.S.length) := (cell_of h.blk 1).trans rfl
  clear h
  unfold hasE
  by_cases h0 : i < 0
  · rw [if_neg (by omega)]
    go_enter Try.func50, Try.ntmps50
    go_wp2
    go_ret
    exact ⟨rfl, rfl⟩
  · by_cases h1 : i < D.S.length
    · rw [if_pos ⟨by omega, h1⟩]
      have h2 : ¬ (D.S.length : Int) ≤ i := by omega
      go_enter Try.func50, Try.ntmps50
      go_wp2
      go_ret
      exact ⟨rfl, rfl⟩
    · rw [if_neg (by omega)]
      have h2 : (D.S.length : Int) ≤ i := by omega
      go_enter Try.func50, Try.ntmps50
      go_wp2
      go_ret
      exact ⟨rfl, rfl⟩
set_option maxHeartbeats 400000 in
theorem dhas_nil (i : Int) (w : World) : Calls Try.prog 50 #[.pointer none, .int .i64 i] w fun e w' => e = .returned (.int .i64 1) ∧ w' = w := by
  go_enter Try.func50, Try.ntmps50
  go_wp2
  go_ret
  exact ⟨rfl, rfl⟩
set_option maxHeartbeats 400000 in
theorem dzeros_any (w : World) : Calls Try.prog 73 #[] w fun e w' => e = .returned (.string (S Z80)) ∧ Below w.heap.size w w' := by
  go_enter Try.func73, Try.ntmps73
  go_wp2_with (fail)
  refine (repeat_zero 80 _ (by omega) (by omega)).mono ?_
  rintro e w' ⟨rfl, hb⟩
  go_wp2
  go_ret
  exact ⟨rfl, hb⟩
set_option maxHeartbeats 400000 in
theorem dkept_any (d f m : Nat) (v : Value) (D : Dk) (i : Nat) (w : World) (h : DiskAt w d f m v D) (hi : i < D.S.length) :
    Calls Try.prog 51 #[.pointer (some ⟨d, 0, none⟩), .int .i64 i] w fun e w' => e = .returned (.string (S (secAt D.S i))) ∧ Below w.heap.size w w' := by
  have c3 : w.cell? ⟨d, 3, none⟩ = some (.map (some m)) := (cell_of h.blk 3).trans rfl
  obtain ⟨M, hm, hn, hM⟩ := h.map
  have hl := hm.look (P := Try.prog) (t := 98) Try.underlying98 Try.underlying3 (z := .string ⟨#[]⟩) (by kernel_rfl) i true
  have hv := hM i hi
  rw [get_strMap] at hl
  clear h hm hM hn
  cases hg : mget M i with
  | none =>
    rw [hg] at hl hv
    have HV : Hid (Z80 = secAt D.S i) := hv
    replace hl : (Instr.lookup 98 (.map (some m)) (.int .i64 i) true).run Try.prog w = .ok (.tuple #[.string ⟨#[]⟩, .bool false]) w := hl
    clear hg hv
    go_enter Try.func51, Try.ntmps51
    go_wp2_with (fail)
    refine (dzeros_any _).mono ?_
    rw [HV.out]
    rintro e w' ⟨rfl, hb⟩
    go_wp2
    go_ret
    exact ⟨rfl, hb⟩
  | some s =>
    rw [hg] at hl hv
    have HV : Hid (s = secAt D.S i) := hv
    replace hl : (Instr.lookup 98 (.map (some m)) (.int .i64 i) true).run Try.prog w = .ok (.tuple #[.string (S s), .bool true]) w := hl
    clear hg hv
    go_enter Try.func51, Try.ntmps51
    go_wp2
    go_ret
    rw [HV.out]
    exact ⟨rfl, .refl _ _⟩
theorem boxed1 {g o : Nat} {W w' : World} {v0 : Value} (hb : Below (g + 1) W w') (c0 : W.cell? ⟨g, o, none⟩ = some v0) : Below (g + 1) W w' ∧ w'.cell? ⟨g, o, none⟩ = some v0 :=
  ⟨hb, (hb.cell (p := ⟨g, o, none⟩) (Nat.lt_succ_self g)).trans c0⟩
theorem held1 {g : Nat} {W w' : World} {p : Prop} (h : Below (g + 1) W w' ∧ p) : Below (g + 1) W w' := h.1
theorem Dk.ok_set {D : Dk} (h : D.Ok) {i : Nat} {s : List UInt8} (_hi : i < D.S.length) (hs : s.length = 80) : (⟨D.S.set i s, D.P, D.full⟩ : Dk).Ok := by
  obtain ⟨h1, h2, h3, h4⟩ := h
  refine ⟨by rw [List.length_set]; exact h1, by rw [List.length_set]; exact h2, fun t ht => ?_, fun p hp => by rw [List.length_set]; exact h4 p hp⟩
  rcases List.mem_or_eq_of_mem_set ht with h | h
  · exact h3 t h
  · rw [h]; exact hs
theorem DiskAt.put {w w' : World} {d f m : Nat} {v : Value} {D : Dk} (h : DiskAt w d f m v D) {i : Nat} {s : List UInt8} (hi : i < D.S.length) (hs : s.length = 80) (k : Keeps (· = m) w w')
    (hm : ∃ M, IsMap w' m (strMap M) ∧ Dur M (D.S.set i s)) : DiskAt w' d f m v ⟨D.S.set i s, D.P, D.full⟩ := by
  have h1 := (k.block d (Array.getElem?_eq_some_iff.1 h.blk).1 h.dm).trans h.blk
  refine ⟨?_, hm, row_keeps h.row k (fun x hx e => (h.vn x hx).2.1 e), D.ok_set h.ok hi hs, h.dm, h.df, h.mf, h.vn⟩
  rw [h1]
  unfold dcells
  dsimp only
  rw [List.length_set]
set_option maxRecDepth 100000 in
set_option maxHeartbeats 1600000 in
theorem dkeep_any (d f m : Nat) (v : Value) (D : Dk) (i : Nat) (s : List UInt8) (w : World) (h : DiskAt w d f m v D) (hi : i < D.S.length) (hs : s.length = 80) :
    Calls Try.prog 54 #[.pointer (some ⟨d, 0, none⟩), .agg #[.int .i64 i, .string (S s)]] w fun e w' => e = .returned (.tuple #[]) ∧ Keeps (· = m) w w' ∧ DiskAt w' d f m v ⟨D.S.set i s, D.P, D.full⟩ := by
  have q0 := alloc_new w (.cells #[.int .i64 i, .string (S s)] 105)
  have b0 := alloc_below w (.cells #[.int .i64 i, .string (S s)] 105)
  have z0 := alloc_size w (.cells #[.int .i64 i, .string (S s)] 105)
  go_enter Try.func54, Try.ntmps54
  go_wp2_with (fail)
  revert q0 b0 z0
  generalize w.alloc (.cells #[.int .i64 i, .string (S s)] 105) = W
  intro q0 b0 z0
  have c1 : W.cell? ⟨w.heap.size, 1, none⟩ = some (.string (S s)) := (cell_of q0 1).trans rfl
  have HQ := Lib.hid q0
  have HB := Lib.hid b0
  have HZ := Lib.hid z0
  have hs1 : w.heap.size + 1 ≤ W.heap.size := by omega
  clear q0 b0 z0
  have hz : (s = Z80) ∨ ((s == Z80) = false ∧ ¬ s = Z80) := by
    by_cases e : s = Z80
    · exact .inl e
    · exact .inr ⟨beq_eq_false_iff_ne.2 e, e⟩
  go_region_held3 (fun w' => Below (w.heap.size + 1) W w' ∧ w'.cell? ⟨w.heap.size, 1, none⟩ = some (.string (S s))) (first | exact boxed1 (below_step (by assumption) (held1 (by assumption)) hs1) c1 | exact boxed1 (below_start _) c1)
    (first | (go_at_call 73; refine (dzeros_any _).mono ?_; rintro e w' ⟨rfl, hb⟩))
  rename_i hheld
  obtain ⟨hB, c1'⟩ := hheld
  have c0' : w'.cell? ⟨w.heap.size, 0, none⟩ = some (.int .i64 i) := (hB.cell (p := ⟨w.heap.size, 0, none⟩) (Nat.lt_succ_self _)).trans ((cell_of HQ.out 0).trans rfl)
  have hBw : Below w.heap.size w w' := HB.out.trans (hB.mono (Nat.le_succ _))
  have hd' := h.below hBw
  have c3' : w'.cell? ⟨d, 3, none⟩ = some (.map (some m)) := (cell_of hd'.blk 3).trans rfl
  obtain ⟨M, hm, hM⟩ := hd'.map
  have HD := Lib.hid hd'
  have HBW := Lib.hid hBw
  have HH := Lib.hid h
  have hlt := h.map
  clear hb hB c1 hs1 HQ HB HZ hBw hd' h hlt
  generalize w' = W1 at *
  have hm' : IsMap W1.drew m (strMap M) := hm
  clear hm
  rcases hz with rfl | ⟨hz, hne⟩
  · obtain ⟨o, hdel, hmo⟩ := hm'.del (P := Try.prog) (t := 98) Try.underlying98 Try.underlying3 (i : Int) 0 3
    rw [del_strMap] at hmo
    have HM := Lib.hid hmo
    clear hm' hmo
    go_wp2_with (fail)
    go_region
    go_wp2
    refine bodyPost_ret (results_none rfl _ _ _) rfl ?_
    have hk : Keeps (· = m) W1 (setBlock W1.drew m o) := Keeps.setBlock (S := (· = m)) (Keeps.refl _ W1).drew (fun _ => rfl) o
    exact ⟨rfl, (Keeps.of_below HBW.out).trans hk, HD.out.put hi hs hk ⟨_, HM.out, dur_del hM hi⟩⟩
  · obtain ⟨o, hput, hmo⟩ := hm'.put (P := Try.prog) (t := 98) Try.underlying98 Try.underlying3 (i : Int) (.string (S s))
    rw [put_strMap] at hmo
    have HM := Lib.hid hmo
    clear hm' hmo
    rw [hz]
    go_wp2_with (fail)
    go_region
    go_wp2
    go_end0
    have hk : Keeps (· = m) W1 (setBlock W1.drew m o) := Keeps.setBlock (S := (· = m)) (Keeps.refl _ W1).drew (fun _ => rfl) o
    exact ⟨rfl, (Keeps.of_below HBW.out).trans hk, HD.out.put hi hs hk ⟨_, HM.out, dur_put hM hi s⟩⟩
end Go.Proofs.Ytjpelmjocdodcaa
