/- Package disk: Read. -/
import Derived.RangeFuncNested
import Derived.RangeFuncBound
import Derived.RangeFuncCalls
import Derived.Test.YtjpelmjocdodcaaBackward
namespace Go.Proofs.Ytjpelmjocdodcaa
open Go.RowKit Go.Shelf

attribute [local go_sem] Oper.semAt_some

theorem wcells_of {w : World} {A : Option Addr} {cap n₀ : Nat} {L : List (Nat × List UInt8)} {t : TypeId} (h : w.ownsRow 0 t 2 (.slice A L.length cap) L.length (wcells L)) (hn : ∀ k, (Value.slice A L.length cap).ownBlock = some k → k < n₀) : WCells n₀ w A L := by
  intro i hi
  obtain ⟨g, rfl, h1, h2⟩ := wcell_at h rfl hi
  have e : L.getD i (0, []) = L[i] := by rw [List.getD_eq_getElem?_getD, List.getElem?_eq_getElem hi]; rfl
  rw [e]
  exact ⟨g, rfl, hn g rfl, h1, h2⟩
theorem lastOf_append (i : Nat) (a b : List (Nat × List UInt8)) : ∀ (o : List UInt8), lastOf i (a ++ b) o = lastOf i b (lastOf i a o) := by
  induction a with
  | nil => intro _; rfl
  | cons p a ih => intro o; exact ih _
/-- Nothing for i stands in the last k. -/
theorem lastOf_none (i : Nat) (L : List (Nat × List UInt8)) (o : List UInt8) (h : ∀ p ∈ L, ¬ p.1 = i) : lastOf i L o = o := by
  induction L with
  | nil => rfl
  | cons p L ih =>
    unfold lastOf
    rw [if_neg (h p (List.mem_cons_self ..))]
    exact ih (fun q hq => h q (List.mem_cons_of_mem _ hq))
theorem lastOf_at {i : Nat} {L : List (Nat × List UInt8)} {o : List UInt8} {k : Nat} (hk : k < L.length) (h1 : L[k].1 = i) (h2 : ∀ j (h : j < L.length), k < j → ¬ L[j].1 = i) : lastOf i L o = L[k].2 := by
  have e : lastOf i L o = lastOf i (L.take k ++ (L[k] :: L.drop (k + 1))) o := by
    rw [List.getElem_cons_drop, List.take_append_drop]
  rw [e, lastOf_append]
  show lastOf i (L.drop (k + 1)) (if L[k].1 = i then L[k].2 else _) = _
  rw [if_pos h1, lastOf_none]
  intro p hp
  obtain ⟨j, hj, rfl⟩ := List.mem_iff_getElem.1 hp
  rw [List.getElem_drop]
  rw [List.length_drop] at hj
  exact h2 _ (by omega) (by omega)
theorem results_cells2 {P : Program} {fn : Func} {t u : Tmp} {T U : TypeId} (h : fn.results = #[.cell t T, .cell u U]) (tmps : Array Value) (w : World) (b c : Nat) (x y : Value) (hx : tmps.getD t undef = .pointer (some ⟨b, 0, none⟩)) (hy : tmps.getD u undef = .pointer (some ⟨c, 0, none⟩))
    (h1 : (loadVar T ⟨b, 0, none⟩).run P w = .ok x w) (h2 : (loadVar U ⟨c, 0, none⟩).run P w = .ok y w) :
    (results fn tmps).run P w = .ok (.tuple #[x, y]) w := by
  have hx' : tmps[t]?.getD undef = .pointer (some ⟨b, 0, none⟩) := by rw [← hx]; simp
  have hy' : tmps[u]?.getD undef = .pointer (some ⟨c, 0, none⟩) := by rw [← hy]; simp
  simp [results, h, hx', hy', asAddr, h1, h2]
theorem three_new (w : World) (o0 o1 o2 : Obj) :
    (((w.alloc o0).alloc o1).alloc o2).heap[w.heap.size]? = some o0 ∧ (((w.alloc o0).alloc o1).alloc o2).heap[w.heap.size + 1]? = some o1 ∧ (((w.alloc o0).alloc o1).alloc o2).heap[w.heap.size + 1 + 1]? = some o2 ∧
    (((w.alloc o0).alloc o1).alloc o2).heap.size = w.heap.size + 3 ∧ Below w.heap.size w (((w.alloc o0).alloc o1).alloc o2) := by
  obtain ⟨h0, h1, h2, h3⟩ := two_new w o0 o1
  have hb := alloc_below ((w.alloc o0).alloc o1) o2
  have hn := alloc_new ((w.alloc o0).alloc o1) o2
  rw [h2] at hn
  exact ⟨(hb.block _ (by omega)).trans h0, (hb.block _ (by omega)).trans h1, hn, by rw [alloc_size, h2], below_step hb h3 (Nat.le_refl _)⟩
set_option maxRecDepth 100000 in
set_option maxHeartbeats 2000000 in
theorem dread_bad (d f m : Nat) (v : Value) (D : Dk) (z : Fz) (i : Int) (w : World) (h : DiskAt w d f m v D) (he : hasE D i = 3) :
    Calls Try.prog 22 #[.pointer (some ⟨d, 0, none⟩), .int .i64 i] w fun e w' => e = .returned (.tuple #[.string (S (doRead D z i).1), .int .i64 (doRead D z i).2]) ∧ Below w.heap.size w w' := by
  have HE : Hid (doRead D z i = ([], 3)) := by unfold Hid doRead; rw [if_neg (by rw [he]; decide), he]
  have HEE := Lib.hid he
  obtain ⟨n0, n1, n2, n3, n4⟩ := three_new w (.cells #[.int .i64 i] 3) (.cells #[.string ⟨#[]⟩] 9) (.cells #[.int .i64 0] 30)
  clear he
  go_enter Try.func22, Try.ntmps22
  go_wp2_with (fail)
  generalize ((w.alloc (.cells #[.int .i64 i] 3)).alloc (.cells #[.string ⟨#[]⟩] 9)).alloc (.cells #[.int .i64 0] 30) = W at n0 n1 n2 n3 n4 ⊢
  have HH := Lib.hid (h.below n4)
  have c1 : W.cell? ⟨w.heap.size + 1, 0, none⟩ = some (.string ⟨#[]⟩) := (cell_of n1 0).trans rfl
  have c2 : W.cell? ⟨w.heap.size + 1 + 1, 0, none⟩ = some (.int .i64 0) := (cell_of n2 0).trans rfl
  have f1 := free_of n1 0
  have f2 := free_of n2 0
  have N1 := Lib.hid n1
  have N2 := Lib.hid n2
  have N4 := Lib.hid n4
  clear n0 n1 n2 n3 n4 h
  refine (dhas_any d f m v D i W HH.out).mono ?_
  rw [HEE.out]
  rintro e w' ⟨rfl, rfl⟩
  go_wp2
  have x1 : ((w'.setCell ⟨w.heap.size + 1, 0, none⟩ (.string ⟨#[]⟩)).setCell ⟨w.heap.size + 1 + 1, 0, none⟩ (.int .i64 3)).cell? ⟨w.heap.size + 1, 0, none⟩ = some (.string ⟨#[]⟩) := by go_simp
  have x2 : ((w'.setCell ⟨w.heap.size + 1, 0, none⟩ (.string ⟨#[]⟩)).setCell ⟨w.heap.size + 1 + 1, 0, none⟩ (.int .i64 3)).cell? ⟨w.heap.size + 1 + 1, 0, none⟩ = some (.int .i64 3) := by go_simp
  refine bodyPost_ret (results_cells2 rfl _ _ _ _ (.string ⟨#[]⟩) (.int .i64 3) rfl rfl (by simp [loadVar, go_sem, x1]) (by simp [loadVar, go_sem, x2])) rfl ?_
  rw [HE.out]
  exact ⟨rfl, (N4.out.setCell (by simp) _).setCell (by simp; omega) _⟩
set_option maxRecDepth 100000 in
set_option maxHeartbeats 2000000 in
theorem dread_dead (d f m : Nat) (v : Value) (D : Dk) (z : Fz) (i : Int) (w : World) (h : DiskAt w d f m v D) (hz : FzAt w f z) (he : hasE D i = 0) (hd : z.dead = true) :
    Calls Try.prog 22 #[.pointer (some ⟨d, 0, none⟩), .int .i64 i] w fun e w' => e = .returned (.tuple #[.string (S (doRead D z i).1), .int .i64 (doRead D z i).2]) ∧ Below w.heap.size w w' := by
  have HE : Hid (doRead D z i = ([], 10)) := by unfold Hid doRead; rw [if_pos he, hd]; rfl
  have HEE := Lib.hid he
  have HD := Lib.hid hd
  obtain ⟨n0, n1, n2, n3, n4⟩ := three_new w (.cells #[.int .i64 i] 3) (.cells #[.string ⟨#[]⟩] 9) (.cells #[.int .i64 0] 30)
  clear he hd
  go_enter Try.func22, Try.ntmps22
  go_wp2_with (fail)
  generalize ((w.alloc (.cells #[.int .i64 i] 3)).alloc (.cells #[.string ⟨#[]⟩] 9)).alloc (.cells #[.int .i64 0] 30) = W at n0 n1 n2 n3 n4 ⊢
  have HH := Lib.hid (h.below n4)
  have HF := Lib.hid (hz.below n4)
  have c0 : W.cell? ⟨d, 0, none⟩ = some (.pointer (some ⟨f, 0, none⟩)) := (cell_of HH.out.blk 0).trans rfl
  have c1 : W.cell? ⟨w.heap.size + 1, 0, none⟩ = some (.string ⟨#[]⟩) := (cell_of n1 0).trans rfl
  have c2 : W.cell? ⟨w.heap.size + 1 + 1, 0, none⟩ = some (.int .i64 0) := (cell_of n2 0).trans rfl
  have f1 := free_of n1 0
  have f2 := free_of n2 0
  have N4 := Lib.hid n4
  clear n0 n1 n2 n3 n4 h hz
  refine (dhas_any d f m v D i W HH.out).mono ?_
  rw [HEE.out]
  rintro e w' ⟨rfl, rfl⟩
  go_wp2_with (fail)
  refine (fblown_any f z w' HF.out).mono ?_
  rw [HD.out]
  rintro e w' ⟨rfl, rfl⟩
  go_wp2
  have x1 : ((w'.setCell ⟨w.heap.size + 1, 0, none⟩ (.string ⟨#[]⟩)).setCell ⟨w.heap.size + 1 + 1, 0, none⟩ (.int .i64 10)).cell? ⟨w.heap.size + 1, 0, none⟩ = some (.string ⟨#[]⟩) := by go_simp
  have x2 : ((w'.setCell ⟨w.heap.size + 1, 0, none⟩ (.string ⟨#[]⟩)).setCell ⟨w.heap.size + 1 + 1, 0, none⟩ (.int .i64 10)).cell? ⟨w.heap.size + 1 + 1, 0, none⟩ = some (.int .i64 10) := by go_simp
  refine bodyPost_ret (results_cells2 rfl _ _ _ _ (.string ⟨#[]⟩) (.int .i64 10) rfl rfl (by simp [loadVar, go_sem, x1]) (by simp [loadVar, go_sem, x2])) rfl ?_
  rw [HE.out]
  exact ⟨rfl, (N4.out.setCell (by simp) _).setCell (by simp; omega) _⟩
set_option maxRecDepth 100000 in
set_option maxHeartbeats 2000000 in
theorem dread_ok (d f m : Nat) (v : Value) (D : Dk) (z : Fz) (i : Nat) (w : World) (h : DiskAt w d f m v D) (hz : FzAt w f z) (he : hasE D i = 0) (hi : i < D.S.length) (hd : z.dead = false) :
    Calls Try.prog 22 #[.pointer (some ⟨d, 0, none⟩), .int .i64 i] w fun e w' => e = .returned (.tuple #[.string (S (D.read i)), .int .i64 0]) ∧ Below w.heap.size w w' := by
  have HEE := Lib.hid he
  have HD := Lib.hid hd
  have hpl := row_len h.row
  unfold maxLen at hpl
  obtain ⟨A, cap, rfl⟩ := ownsRow_is h.row
  obtain ⟨n0, n1, n2, n3, n4⟩ := three_new w (.cells #[.int .i64 i] 3) (.cells #[.string ⟨#[]⟩] 9) (.cells #[.int .i64 0] 30)
  clear he hd
  refine (callsIn_wide (n := 3)).1 ?_
  refine callsIn_of_wp_marks Try.func22 rfl trivial ?_ rfl
  simp only [Try.ntmps22, List.size_toArray, List.length_cons, List.length_nil, Nat.reduceAdd, Nat.reduceSub, Array.replicate_succ, Array.replicate_zero, List.push_toArray, List.append_toArray, List.nil_append, List.cons_append]
  refine wpIn_wide.2 ?_
  go_wp2_with (fail)
  generalize ((w.alloc (.cells #[.int .i64 i] 3)).alloc (.cells #[.string ⟨#[]⟩] 9)).alloc (.cells #[.int .i64 0] 30) = W at n0 n1 n2 n3 n4 ⊢
  have HH := Lib.hid (h.below n4)
  have HF := Lib.hid (hz.below n4)
  have c0 : W.cell? ⟨d, 0, none⟩ = some (.pointer (some ⟨f, 0, none⟩)) := (cell_of HH.out.blk 0).trans rfl
  have c4 : W.cell? ⟨d, 4, none⟩ = some (.slice A D.P.length cap) := (cell_of HH.out.blk 4).trans rfl
  have ci : W.cell? ⟨w.heap.size, 0, none⟩ = some (.int .i64 i) := (cell_of n0 0).trans rfl
  have N0 := Lib.hid n0
  have N1 := Lib.hid n1
  have N2 := Lib.hid n2
  have N3 := Lib.hid n3
  have N4 := Lib.hid n4
  clear n0 n1 n2 n3 n4 h hz
  refine (dhas_any d f m _ D i W HH.out).mono ?_
  rw [HEE.out]
  rintro e w' ⟨rfl, rfl⟩
  go_wp2_with (fail)
  refine (fblown_any f z w' HF.out).mono ?_
  rw [HD.out]
  rintro e w' ⟨rfl, rfl⟩
  go_wp2_with (fail)
  refine (backward_in A D.P.length cap w').mono ?_
  rintro e w4 ⟨rfl, h4⟩
  have n5 := alloc_new w' (.cells #[.slice A D.P.length cap] 99)
  have b5 := alloc_below w' (.cells #[.slice A D.P.length cap] 99)
  have s5 := alloc_size w' (.cells #[.slice A D.P.length cap] 99)
  rw [← h4] at n5 b5 s5
  clear h4
  go_wp2_with (fail)
  clear c0 c4
  have hw4 : w'.heap.size < w4.heap.size := by omega
  have c5 : w4.cell? ⟨w'.heap.size, 0, none⟩ = some (.slice A D.P.length cap) := (cell_of n5 0).trans rfl
  have hwc : WCells w4.heap.size w4 A D.P := wcells_of (HH.out.below b5).row (fun k hk => by
    rcases (HH.out.below b5).row.2 with ⟨h, _⟩ | ⟨g, _, _, h, _, hg, _⟩
    · simp only [Value.slice.injEq] at h
      obtain ⟨rfl, _, _⟩ := h
      simp [Value.ownBlock] at hk
    · simp only [Value.slice.injEq] at h
      obtain ⟨rfl, _, _⟩ := h
      simp [Value.ownBlock] at hk
      subst hk
      exact (Array.getElem?_eq_some_iff.1 hg).1)
  have ci4 := below_cell b5 ci
  have c14 : w4.cell? ⟨w.heap.size + 1, 0, none⟩ = some (.string ⟨#[]⟩) := below_cell b5 ((cell_of N1.out 0).trans rfl)
  have c24 : w4.cell? ⟨w.heap.size + 1 + 1, 0, none⟩ = some (.int .i64 0) := below_cell b5 ((cell_of N2.out 0).trans rfl)
  have f14 : w4.frozen? ⟨w.heap.size + 1, 0, none⟩ = false := (b5.frozen (p := ⟨w.heap.size + 1, 0, none⟩) (by have := N3.out; show w.heap.size + 1 < w'.heap.size; omega)).trans (free_of N1.out 0)
  have f24 : w4.frozen? ⟨w.heap.size + 1 + 1, 0, none⟩ = false := (b5.frozen (p := ⟨w.heap.size + 1 + 1, 0, none⟩) (by have := N3.out; show w.heap.size + 1 + 1 < w'.heap.size; omega)).trans (free_of N2.out 0)
  have hlt1 : w.heap.size + 1 + 1 < w4.heap.size := by have := N3.out; omega
  have HB4 := Lib.hid (below_step b5 N4.out (Nat.le_refl _))
  have HH4 := Lib.hid (HH.out.below b5)
  clear n5 b5 s5 ci N0 N1 N2 N4 HH HF
  refine (wpIn_wide (n := 3)).1 ?_
  refine wpIn_rangeFunc_ownH (α := Wr) (encs := wrEnc) rfl (by omega) (gf := 74) (lb := #[.pointer (some ⟨w'.heap.size, 0, none⟩)]) rfl trivial (enters_of Try.func74 (by kernel_rfl) rfl)
    (Kp := Below w4.heap.size) (S := fun ys => ys = upto (bwd D.P) D.P.length) (Sp := fun pre => ∃ k, k ≤ D.P.length ∧ pre = upto (bwd D.P) k) (N := D.P.length) (w0 := w4)
    (fun l J Jx W hW _ _ hY h0 => backward1_in Fence.wide (3 - 1) trivial rfl (by omega) l w'.heap.size w4.heap.size cap A D.P (by omega) J Jx hY W hw4 ((hW.cell (p := ⟨w'.heap.size, 0, none⟩) hw4).trans c5) (hwc.below hW) h0)
    belowK_t (belowK_b (Nat.le_refl _)) (Below.refl _ _) (fun _ => rfl)
    (fun pre W => (∀ p ∈ pre, ¬ p.2.1 = i) ∧ Below w4.heap.size w4 W)
    (fun c pre W => (c = .ret ∧ ∃ ini last, pre = ini ++ [last] ∧ (∀ p ∈ ini, ¬ p.2.1 = i) ∧ last.2.1 = i ∧ W.cell? ⟨w.heap.size + 1, 0, none⟩ = some (.string (S last.2.2)) ∧ W.cell? ⟨w.heap.size + 1 + 1, 0, none⟩ = some (.int .i64 0)) ∧ Below w.heap.size w W)
    (OwnFrom.and (Own.from (fun s A B row hs hg hr => hs) _) (ownFrom_below (Nat.le_refl _) (Nat.le_refl _)))
    (fun c => OwnFrom.and (Own.from (fun s A B row hs hg hr => by obtain ⟨hc, ini, last, e1, e2, e3, e4, e5⟩ := hs; exact ⟨hc, ini, last, e1, e2, e3, cell_kept e4 hg hr, cell_kept e5 hg hr⟩) _) (ownFrom_below (Nat.le_refl _) (by omega)))
    ⟨by simp, Below.refl _ _⟩
    (fun x a' W => ∃ Bx, w4.heap.size ≤ Bx ∧ W.cell? ⟨Bx, 0, none⟩ = some (.int .i64 (x.2.1 : Int)) ∧ W.cell? ⟨Bx, 1, none⟩ = some (.string (S x.2.2)) ∧ a' = { tmps := #[.pointer (some ⟨d, 0, none⟩), .int .i64 i, undef, .pointer (some ⟨w.heap.size, 0, none⟩), .pointer (some ⟨w.heap.size + 1, 0, none⟩), .pointer (some ⟨w.heap.size + 1 + 1, 0, none⟩), .int .i64 0, undef, .pointer (some ⟨Bx, 0, none⟩), .pointer (some ⟨d, 0, none⟩), .int .i64 i, .int .i64 0, .int .i64 0, .bool false, undef, .pointer (some ⟨d, 0, none⟩), .pointer (some ⟨d, 0, none⟩), .pointer (some ⟨d, 0, none⟩), .pointer (some ⟨d, 0, none⟩), .pointer (some ⟨f, 0, none⟩), .bool false, .pointer (some ⟨d, 0, none⟩), .pointer (some ⟨d, 0, none⟩), .pointer (some ⟨d, 0, none⟩), .pointer (some ⟨d, 4, none⟩), .slice A D.P.length cap, .func (.func 74) #[] #[.pointer (some ⟨w'.heap.size, 0, none⟩)], .int .i64 (x.1 : Int), .agg #[.int .i64 (x.2.1 : Int), .string (S x.2.2)], undef, undef, undef, undef, undef, undef, undef, undef, undef, undef, undef], defers := [] })
    (fun x a' => Own.from (fun s A B row hs hg hr => by obtain ⟨Bx, h1, h2, h3, h4⟩ := hs; exact ⟨Bx, h1, cell_kept h2 hg hr, cell_kept h3 hg hr, h4⟩) _) ?assign ?body ?done ?stop
  case assign =>
    rintro l pre ⟨j, a, s⟩ W K ⟨hi1, hi2⟩ hK
    simp only [wrEnc]
    have hn := alloc_new W (.cells #[.int .i64 (a : Int), .string (S s)] 105)
    gi_wp2
    exact hK _ _ ((KeepsOthers.alloc _ _).from _) ((Below.refl _ W).alloc hi2.size _) ⟨hi1, hi2.alloc hi2.size _⟩ ⟨W.heap.size, hi2.size, (cell_of hn 0).trans rfl, (cell_of hn 1).trans rfl, rfl⟩
  case body =>
    rintro l pre ⟨j, a, s⟩ a' W hl ⟨r, hr⟩ ⟨hp, hB⟩ ⟨Bx, hBx, x0, x1, rfl⟩ hlen
    dsimp only at x0 x1
    have y0 := (hB.cell (p := ⟨w.heap.size, 0, none⟩) (by show w.heap.size < w4.heap.size; omega)).trans ci4
    have y1 := (hB.cell (p := ⟨w.heap.size + 1, 0, none⟩) (by show w.heap.size + 1 < w4.heap.size; omega)).trans c14
    have y2 := (hB.cell (p := ⟨w.heap.size + 1 + 1, 0, none⟩) hlt1).trans c24
    have g1 := (hB.frozen (p := ⟨w.heap.size + 1, 0, none⟩) (by show w.heap.size + 1 < w4.heap.size; omega)).trans f14
    have g2 := (hB.frozen (p := ⟨w.heap.size + 1 + 1, 0, none⟩) hlt1).trans f24
    by_cases ha : a = i
    · subst ha
      gi_wp2
      have x5 : ((W.setCell ⟨w.heap.size + 1, 0, none⟩ (.string (S s))).setCell ⟨w.heap.size + 1 + 1, 0, none⟩ (.int .i64 0)).cell? ⟨w.heap.size + 1, 0, none⟩ = some (.string (S s)) := by go_simp
      have x6 : ((W.setCell ⟨w.heap.size + 1, 0, none⟩ (.string (S s))).setCell ⟨w.heap.size + 1 + 1, 0, none⟩ (.int .i64 0)).cell? ⟨w.heap.size + 1 + 1, 0, none⟩ = some (.int .i64 0) := by go_simp
      exact ⟨((KeepsOthers.setCell _ _ _).trans (KeepsOthers.setCell _ _ _)).from _, ⟨rfl, pre, (j, a, s), rfl, hp, rfl, x5, x6⟩, ((HB4.out.trans (hB.mono (by omega))).setCell (by simp) _).setCell (by simp; omega) _⟩
    · have ha' : ((a : Int) == (i : Int)) = false := by rw [beq_eq_false_iff_ne]; omega
      gi_wp2
      exact ⟨KeepsFrom.refl _ _, Below.refl _ _, ⟨fun p hp' => (List.mem_append.1 hp').elim (hp p) (fun e => by simp at e; subst e; exact ha), hB⟩⟩
  case done =>
    rintro D' ys W hD rfl ⟨hne, hB⟩ hK
    gi_wp2
    have hr : D.read i = secAt D.S i := by
      unfold Dk.read
      refine lastOf_none i D.P _ (fun p hp e => ?_)
      obtain ⟨t, ht, rfl⟩ := List.mem_iff_getElem.1 hp
      refine hne (bwd D.P (D.P.length - 1 - t)) (List.mem_map.2 ⟨_, List.mem_range.2 (by omega), rfl⟩) ?_
      unfold bwd
      dsimp only
      rw [show D.P.length - 1 - (D.P.length - 1 - t) = t by omega, List.getD_eq_getElem?_getD, List.getElem?_eq_getElem ht]
      exact e
    have y0 := (hB.cell (p := ⟨w.heap.size, 0, none⟩) (by show w.heap.size < w4.heap.size; omega)).trans ci4
    have y1 := (hB.cell (p := ⟨w.heap.size + 1, 0, none⟩) (by show w.heap.size + 1 < w4.heap.size; omega)).trans c14
    have y2 := (hB.cell (p := ⟨w.heap.size + 1 + 1, 0, none⟩) hlt1).trans c24
    have g1 := (hB.frozen (p := ⟨w.heap.size + 1, 0, none⟩) (by show w.heap.size + 1 < w4.heap.size; omega)).trans f14
    have g2 := (hB.frozen (p := ⟨w.heap.size + 1 + 1, 0, none⟩) hlt1).trans f24
    have HW := Lib.hid ((HH4.out.keeps (S := fun k => w4.heap.size ≤ k) ⟨hB.os, hB.tape, hB.output, hB.size, fun k hk _ => hB.block k hk⟩ (by have := (Array.getElem?_eq_some_iff.1 HH4.out.blk).1; omega) (by obtain ⟨_, hm, _⟩ := HH4.out.map; have := hm.lt; omega) (fun k hk => by
      rcases HH4.out.row.2 with ⟨h, _⟩ | ⟨g, _, _, h, _, hg, _⟩
      · simp only [Value.slice.injEq] at h
        obtain ⟨rfl, _, _⟩ := h
        simp [Value.ownBlock] at hk
      · simp only [Value.slice.injEq] at h
        obtain ⟨rfl, _, _⟩ := h
        simp [Value.ownBlock] at hk
        subst hk
        have := (Array.getElem?_eq_some_iff.1 hg).1
        omega)).below (Below.refl _ W).drew)
    have HR := Lib.hid hr
    have HK := Lib.hid hK
    have hlt2 : D' < W.heap.size := (Array.getElem?_eq_some_iff.1 hK).1
    clear hne hr hK
    go_wp2_with (fail)
    refine wp_region_noPanic ?_
    go_region_with (go_at_call 51; refine (dkept_any d f m _ D i _ HW.out hi).mono ?_; rintro e w6 ⟨rfl, b6⟩; have u1 := below_cell (a := ⟨w.heap.size + 1, 0, none⟩) b6 y1; have u2 := below_cell (a := ⟨w.heap.size + 1 + 1, 0, none⟩) b6 y2; have u3 := (b6.frozen (p := ⟨w.heap.size + 1, 0, none⟩) (by show w.heap.size + 1 < W.heap.size; have := hB.size; omega)).trans g1; have u4 := (b6.frozen (p := ⟨w.heap.size + 1 + 1, 0, none⟩) (by show w.heap.size + 1 + 1 < W.heap.size; have := hB.size; omega)).trans g2)
    refine NoPanic.normal ?_
    have x5 : ((w6.setCell ⟨w.heap.size + 1, 0, none⟩ (.string (S (secAt D.S i)))).setCell ⟨w.heap.size + 1 + 1, 0, none⟩ (.int .i64 0)).cell? ⟨w.heap.size + 1, 0, none⟩ = some (.string (S (secAt D.S i))) := by go_simp
    have x6 : ((w6.setCell ⟨w.heap.size + 1, 0, none⟩ (.string (S (secAt D.S i)))).setCell ⟨w.heap.size + 1 + 1, 0, none⟩ (.int .i64 0)).cell? ⟨w.heap.size + 1 + 1, 0, none⟩ = some (.int .i64 0) := by go_simp
    have hK6 : w6.heap[D']? = some (.deferred (some [])) := (b6.block D' hlt2).trans HK.out
    have hK' := ((KeepsOthers.setCell w6 ⟨w.heap.size + 1, 0, none⟩ (.string (S (secAt D.S i)))).trans (KeepsOthers.setCell _ ⟨w.heap.size + 1 + 1, 0, none⟩ (.int .i64 0))).same D' _ hK6 rfl
    have hB7 : Below w.heap.size w ((w6.setCell ⟨w.heap.size + 1, 0, none⟩ (.string (S (secAt D.S i)))).setCell ⟨w.heap.size + 1 + 1, 0, none⟩ (.int .i64 0)) :=
      ((((HB4.out.trans (hB.mono (by omega))).drew).trans (b6.mono (by have := hB.size; show w.heap.size ≤ W.heap.size; omega))).setCell (by simp) _).setCell (by simp; omega) _
    go_wp2
    rw [HR.out]
    refine ⟨by simp, .inl ⟨_, _, rfl, run_takeDeferred hK', ?_⟩⟩
    have z1 := cell_kept x5 (grownBy_putObj' _ D' (.deferred none)) (fun r e => by cases e; exact ⟨_, hK', rfl⟩)
    have z2 := cell_kept x6 (grownBy_putObj' _ D' (.deferred none)) (fun r e => by cases e; exact ⟨_, hK', rfl⟩)
    exact ⟨_, results_cells2 rfl _ _ _ _ (.string (S (secAt D.S i))) (.int .i64 0) rfl rfl (by simp [loadVar, go_sem, z1]) (by simp [loadVar, go_sem, z2]), rfl, hB7.trans (belowK_b (w := w) (Nat.le_refl _) _ D' _ _ (by omega) hK' rfl rfl)⟩
  case stop =>
    rintro D' c pre W hD ⟨k, hk, rfl⟩ ⟨⟨rfl, ini, last, e1, e2, e3, e4, e5⟩, hB⟩ hK
    gi_wp2
    refine ⟨by simp, .inl ⟨_, _, rfl, run_takeDeferred hK, ?_⟩⟩
    have z1 := cell_kept e4 (grownBy_putObj' _ D' (.deferred none)) (fun r e => by cases e; exact ⟨_, hK, rfl⟩)
    have z2 := cell_kept e5 (grownBy_putObj' _ D' (.deferred none)) (fun r e => by cases e; exact ⟨_, hK, rfl⟩)
    obtain ⟨k', rfl⟩ : ∃ k', k = k' + 1 := by
      cases k with
      | zero => simp [upto] at e1
      | succ k' => exact ⟨k', rfl⟩
    rw [upto_succ] at e1
    obtain ⟨rfl, e6⟩ := List.append_inj' e1 rfl
    obtain rfl : bwd D.P k' = last := by simpa using e6
    have hr : D.read i = (bwd D.P k').2.2 := by
      have hb : ∀ t (h : t < D.P.length), bwd D.P (D.P.length - 1 - t) = (t, D.P[t]) := fun t h => by
        unfold bwd
        rw [show D.P.length - 1 - (D.P.length - 1 - t) = t by omega, List.getD_eq_getElem?_getD, List.getElem?_eq_getElem h]
        rfl
      have hk2 : bwd D.P k' = (D.P.length - 1 - k', D.P[D.P.length - 1 - k']) := by
        have := hb (D.P.length - 1 - k') (by omega)
        rwa [show D.P.length - 1 - (D.P.length - 1 - k') = k' by omega] at this
      rw [hk2] at e3 ⊢
      unfold Dk.read
      refine lastOf_at (by omega) e3 (fun j hj hlt e => ?_)
      refine e2 (bwd D.P (D.P.length - 1 - j)) (List.mem_map.2 ⟨_, List.mem_range.2 (by omega), rfl⟩) ?_
      rw [hb j hj]
      exact e
    rw [hr]
    exact ⟨_, results_cells2 rfl _ _ _ _ (.string (S (bwd D.P k').2.2)) (.int .i64 0) rfl rfl (by simp [loadVar, go_sem, z1]) (by simp [loadVar, go_sem, z2]), rfl, hB.trans (belowK_b (w := w) (Nat.le_refl _) _ D' _ _ (by omega) hK rfl rfl)⟩
theorem dread_any (d f m : Nat) (v : Value) (D : Dk) (z : Fz) (i : Int) (w : World) (h : DiskAt w d f m v D) (hz : FzAt w f z) :
    Calls Try.prog 22 #[.pointer (some ⟨d, 0, none⟩), .int .i64 i] w fun e w' => e = .returned (.tuple #[.string (S (doRead D z i).1), .int .i64 (doRead D z i).2]) ∧ Below w.heap.size w w' := by
  rcases hasE_cases D i with ⟨he, h0, hi, hc⟩ | ⟨he, hn⟩
  · cases hd : z.dead
    · have HE : doRead D z i = (D.read i.toNat, 0) := by unfold doRead; rw [if_pos he, hd]; rfl
      rw [HE]
      obtain ⟨n, rfl⟩ : ∃ n : Nat, i = n := ⟨i.toNat, by omega⟩
      rw [Int.toNat_natCast] at hi ⊢
      exact dread_ok d f m v D z n w h hz he hi hd
    · exact dread_dead d f m v D z i w h hz he hd
  · exact dread_bad d f m v D z i w h he
end Go.Proofs.Ytjpelmjocdodcaa
