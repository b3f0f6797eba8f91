/- Copies: fuse.Copy, maps.Clone, slices.Clone, disk.Copy; ref04.Durable. -/
import Derived.Test.YtjpelmjocdodcaaBothSame
import Derived.Shelf.SlMaps.Clone
import Derived.Lib.SliceRun
namespace Go.Proofs.Ytjpelmjocdodcaa
open Go.RowKit Go.ChangeMaps

set_option maxRecDepth 100000 in
set_option maxHeartbeats 4000000 in
theorem rdurable_any (r g sb : Nat) (pv : Value) (D : Dk) (i : Int) (w : World) (h : RefAt w r g sb pv D) :
    Calls Try.prog 60 #[.pointer (some ⟨r, 0, none⟩), .int .i64 i] w fun e w' => e = .returned (.string (S (doDurable D i))) ∧ w' = w := by
  have c0 := h.c0
  rcases hasE_cases D i with ⟨he, hi0, hil, hii⟩ | ⟨he, hbad⟩
  · obtain ⟨n, rfl⟩ : ∃ n : Nat, i = n := ⟨i.toNat, by omega⟩
    rw [Int.toNat_natCast] at hil
    have hni : ¬ (D.S.length : Int) ≤ (n : Int) := by omega
    have hn0 : ¬ (n : Int) < 0 := by omega
    have HE : Hid (doDurable D n = secAt D.S n) := by unfold Hid doDurable; rw [if_pos he, Int.toNat_natCast]
    have s0 : w.cell? (Addr.add ⟨sb, 0, none⟩ n) = some (.string (S (secAt D.S n))) := by rw [add_eq, Nat.zero_add]; exact h.sec_at hil
    have s0' := h.sec_at hil
    clear h he hii
    go_enter Try.func60, Try.ntmps60
    go_wp2
    go_ret
    rw [HE.out]
    exact ⟨rfl, rfl⟩
  · have HE : Hid (doDurable D i = []) := by unfold Hid doDurable; rw [if_neg (by rw [he]; decide)]
    clear h he
    by_cases h0 : i < 0
    · go_enter Try.func60, Try.ntmps60
      go_wp2
      go_ret
      rw [HE.out]
      exact ⟨rfl, rfl⟩
    · have h1 : (D.S.length : Int) ≤ i := by omega
      go_enter Try.func60, Try.ntmps60
      go_wp2
      go_ret
      rw [HE.out]
      exact ⟨rfl, rfl⟩
set_option maxRecDepth 100000 in
set_option maxHeartbeats 4000000 in
theorem fcopy_any (f : Nat) (z : Fz) (w : World) (h : FzAt w f z) :
    Calls Try.prog 65 #[.pointer (some ⟨f, 0, none⟩)] w fun e w' => ∃ g, e = .returned (.pointer (some ⟨g, 0, none⟩)) ∧ FzAt w' g z ∧ Below w.heap.size w w' ∧ w.heap.size ≤ g := by
  have q := alloc_new w (.cells #[.int .i64 0, .int .i64 0, .nilFunc] 112)
  have bq := alloc_below w (.cells #[.int .i64 0, .int .i64 0, .nilFunc] 112)
  have hq := h.below bq
  have HL := Lib.hid h.2
  have HS : Hid (∀ W, Below w.heap.size w W → W.cell? ⟨f, 0, none⟩ = some (.int .i64 z.st) ∧ W.cell? ⟨f, 1, none⟩ = some (.int .i64 z.left)) := fun W hW => ⟨(cell_of (h.below hW).1 0).trans rfl, (cell_of (h.below hW).1 1).trans rfl⟩
  have HQ : Hid ((w.alloc (.cells #[.int .i64 0, .int .i64 0, .nilFunc] 112)).drew.heap[w.heap.size]? = some (.cells #[.int .i64 0, .int .i64 0, .nilFunc] 112 (0, 0))) := q
  have HB : Hid (Below w.heap.size w (w.alloc (.cells #[.int .i64 0, .int .i64 0, .nilFunc] 112)).drew) := bq.drew
  have HB2 : Hid (Below w.heap.size w (setBlock (w.alloc (.cells #[.int .i64 0, .int .i64 0, .nilFunc] 112)).drew w.heap.size z.obj)) := (Keeps.setBlock (S := fun x => x = w.heap.size) (.refl _ _) (fun _ => rfl) _).belowOf HB.out HB.out.size (fun x hx e => by omega)
  clear q bq hq h
  go_enter Try.func65, Try.ntmps65
  go_upto_region 4 with (fail)
  refine wp_region_noPanic ?_
  go_region_held3 (fun W => W.cell? ⟨f, 0, none⟩ = some (.int .i64 z.st) ∧ W.cell? ⟨f, 1, none⟩ = some (.int .i64 z.left))
    (first | exact HS.out _ HB.out | exact HS.out _ HB2.out)
    (first | (go_at_call 55; refine (fset_any z w.heap.size _ HQ.out).mono ?_; rintro e w' ⟨rfl, rfl⟩))
  refine NoPanic.normal ?_
  go_wp2
  go_ret
  exact ⟨w.heap.size, rfl, ⟨setBlock_same (Array.getElem?_eq_some_iff.1 HQ.out).1 _, HL.out⟩, HB2.out, Nat.le_refl _⟩
set_option maxRecDepth 100000 in
set_option maxHeartbeats 4000000 in
theorem mclone_any (b : Nat) (M : List (Int × Value)) (w : World) (h : IsMap w b M) :
    Calls Try.prog 57 #[.map (some b)] w fun e w' => ∃ g, e = .returned (.map (some g)) ∧ IsMap w' g M ∧ Below w.heap.size w w' ∧ w.heap.size ≤ g := by
  obtain ⟨L, clock, hb, hL⟩ := h
  have hq := fun w => run_eql_map_nil_sl (P := Try.prog) w 98 _ _ (some b) Try.underlying98
  go_enter Try.func57, Try.ntmps57
  go_wp2
  rw [run_callFunc_extern Try.func78 (by kernel_rfl) (by kernel_rfl) (by kernel_rfl) (e := Extern.MapsClone.clone) (by kernel_rfl), run_maps_clone_sl w 98 hb]
  simp only [Result.andThen]
  rw [Oper.upon_value]
  go_wp2
  rw [run_typeAssert_map_sl _ 98 _ _ _ _ Try.underlying98]
  simp only [Result.andThen]
  rw [Oper.upon_value]
  go_wp2
  go_ret
  exact ⟨w.heap.size, rfl, ⟨L, clock, alloc_new w _, hL⟩, alloc_below w _, Nat.le_refl _⟩
set_option maxRecDepth 100000 in
set_option maxHeartbeats 4000000 in
theorem sclone_any (v : Value) (Ps : List (Nat × List UInt8)) (hP : Ps.length ≤ 1000000) (w : World) (h : w.ownsRow 0 105 2 v Ps.length (wcells Ps)) :
    Calls Try.prog 58 #[v] w fun e w' => ∃ v', e = .returned v' ∧ w'.ownsRow 0 105 2 v' Ps.length (wcells Ps) ∧ Below w.heap.size w w' ∧ ∀ k, v'.ownBlock = some k → w.heap.size ≤ k := by
  have q99 : ∀ (w : World) (a : Option Addr) (n c n' c' : Nat), (binOp .eql 99 (.slice a n c) (.slice none n' c')).run Try.prog w = .ok (.bool a.isNone) w := fun w a n c n' c' => Lib.run_eql_slice_nil w _ _ a n c n' c' Try.underlying99
  have h0 := h
  rcases h.2 with ⟨rfl, hn⟩ | ⟨g, cap, cur, rfl, hb, hg, r⟩
  · have H := Lib.hid h0
    clear h0 h hn
    go_enter Try.func58, Try.ntmps58
    go_wp2
    go_ret
    exact ⟨_, rfl, H.out, .refl _ _, fun k hk => by simp [Value.ownBlock] at hk⟩
  · have hm := World.ownsRow_made (base := 0) (size := 2) (e := 105) w #[] 0 (Nat.zero_le _) (Nat.zero_le _) rfl
    have b1 := alloc_below w (.cells #[] 105)
    obtain ⟨v', w2, hrun, hown, hgr, hat⟩ := append_run (P := Try.prog) (w.alloc (.cells #[] 105)) 99 99 105 (.agg #[.int .i64 0, .string ⟨#[]⟩]) 2 24 Try.underlying99 (by kernel_rfl) rfl (by decide) _ 0 [] hm
      ⟨g, 0, none⟩ Ps.length cap (wcells Ps) (wcells_length Ps) (fun j u hu => below_cell b1 (h0.cells (g := g) rfl j u hu)) (fun u hu => by
        unfold wcells at hu
        obtain ⟨p, _, hu⟩ := List.mem_flatMap.1 hu
        simp at hu
        rcases hu with rfl | rfl <;> rfl) (by unfold maxLen; omega) (by omega)
    rw [Nat.zero_add, List.nil_append] at hown
    have HR := Lib.hid hrun
    have HB : Hid (Below w.heap.size w w2) := grown_below b1 hgr (Nat.le_of_lt (by rw [alloc_size]; omega)) (fun k hk => by simp [Value.ownBlock] at hk; omega)
    have HO := Lib.hid hown
    have HF : Hid (∀ k, v'.ownBlock = some k → w.heap.size ≤ k) := fun k hk => by
      rcases hat with hat | hat
      · rw [hat] at hk
        simp [Value.ownBlock] at hk
        omega
      · rw [hat, alloc_size] at hk
        injection hk with hk
        omega
    clear h h0 hg r hb hm b1 hrun hown hgr hat
    go_enter Try.func58, Try.ntmps58
    go_wp2_with (at_builtin; refine wpList_append_eq rfl (.tmp 5) (.tmp 6) 99 rfl _ _ rfl rfl _ _ HR.out ?_)
    go_ret
    exact ⟨v', rfl, HO.out, HB.out, HF.out⟩
set_option maxRecDepth 100000 in
set_option maxHeartbeats 4000000 in
theorem dcopy_any (d f m : Nat) (v : Value) (D : Dk) (f2 : Nat) (w : World) (h : DiskAt w d f m v D) (hP : D.P.length ≤ 1000000) (hf2 : f2 < w.heap.size) :
    Calls Try.prog 31 #[.pointer (some ⟨d, 0, none⟩), .pointer (some ⟨f2, 0, none⟩)] w fun e w' => ∃ d' m' v', e = .returned (.pointer (some ⟨d', 0, none⟩)) ∧ DiskAt w' d' f2 m' v' D ∧ Below w.heap.size w w' ∧ (∀ k, (k = d' ∨ k = m' ∨ v'.ownBlock = some k) → w.heap.size ≤ k) := by
  have HS : Hid (∀ W, Below w.heap.size w W → W.cell? ⟨d, 1, none⟩ = some (.int .i64 D.S.length) ∧ W.cell? ⟨d, 2, none⟩ = some (.bool D.full) ∧ W.cell? ⟨d, 3, none⟩ = some (.map (some m)) ∧ W.cell? ⟨d, 4, none⟩ = some v) := fun W hW => by
    have hb := (h.below hW).blk
    exact ⟨(cell_of hb 1).trans rfl, (cell_of hb 2).trans rfl, (cell_of hb 3).trans rfl, (cell_of hb 4).trans rfl⟩
  obtain ⟨M, hM, hdur⟩ := h.map
  have HM : Hid (Calls Try.prog 57 #[.map (some m)] w.drew fun e w' => ∃ g, e = .returned (.map (some g)) ∧ IsMap w' g (strMap M) ∧ Below w.drew.heap.size w.drew w' ∧ w.drew.heap.size ≤ g) := mclone_any m _ w.drew (hM.keeps (S := fun _ => False) (.of_below (Below.refl _ w).drew) id)
  have HC : Hid (∀ W, Below w.heap.size w W → Calls Try.prog 58 #[v] W fun e w' => ∃ A cap, e = .returned (.slice A D.P.length cap) ∧ w'.ownsRow 0 105 2 (.slice A D.P.length cap) D.P.length (wcells D.P) ∧ Below W.heap.size W w' ∧ ∀ k, (Value.slice A D.P.length cap).ownBlock = some k → W.heap.size ≤ k) := fun W hW => (sclone_any v D.P hP W (h.below hW).row).mono fun e w' ⟨v', he, ho, hb, hk⟩ => by
    obtain ⟨A, cap, rfl⟩ := ownsRow_is ho
    exact ⟨A, cap, he, ho, hb, hk⟩
  have HD := Lib.hid hdur
  have HK := Lib.hid h.ok
  clear h hM hdur
  go_enter Try.func31, Try.ntmps31
  go_upto_region 3 with (fail)
  refine wp_region_noPanic ?_
  go_region_held3 (fun W => W.cell? ⟨d, 1, none⟩ = some (.int .i64 D.S.length) ∧ W.cell? ⟨d, 2, none⟩ = some (.bool D.full) ∧ W.cell? ⟨d, 3, none⟩ = some (.map (some m)) ∧ W.cell? ⟨d, 4, none⟩ = some v)
    (first | exact HS.out _ (Below.refl _ w).drew | exact HS.out _ B1.out | exact HS.out _ B2.out | exact HS.out _ (below_step (alloc_below _ _) B2.out (Nat.le_refl _)))
    (first | (go_at_call 57; refine HM.out.mono ?_; rintro e w1 ⟨m1, rfl, im1, b1, l1⟩; have B1 := Lib.hid (below_step b1 (Below.refl _ w).drew (Nat.le_refl _))) | (go_at_call 58; refine (HC.out _ B1.out).mono ?_; rintro e w2 ⟨A2, cap2, rfl, o2, b2, l2⟩; have B2 := Lib.hid (below_step b2 B1.out (Nat.le_refl _))))
  refine NoPanic.normal ?_
  have s1 : w.heap.size ≤ w1.heap.size := b1.size
  have s2 : w1.heap.size ≤ w2.heap.size := b2.size
  have l1' : w.heap.size ≤ m1 := l1
  have m1lt := im1.lt
  have b3 := alloc_below w2 (.cells #[.pointer (some ⟨f2, 0, none⟩), .int .i64 D.S.length, .bool D.full, .map (some m1), .slice A2 D.P.length cap2] 103)
  have hk2 : ∀ k, (Value.slice A2 D.P.length cap2).ownBlock = some k → w1.heap.size ≤ k ∧ k < w2.heap.size := fun k hk => ⟨l2 k hk, (o2.lt k hk).2⟩
  have HE : Hid (DiskAt (w2.alloc (.cells #[.pointer (some ⟨f2, 0, none⟩), .int .i64 D.S.length, .bool D.full, .map (some m1), .slice A2 D.P.length cap2] 103)) w2.heap.size f2 m1 (.slice A2 D.P.length cap2) D) :=
    ⟨alloc_new w2 _, ⟨M, (im1.keeps (S := fun _ => False) (.of_below b2) id).keeps (S := fun _ => False) (.of_below b3) id, HD.out⟩, row_keeps (S := fun _ => False) o2 (.of_below b3) (fun _ _ => id), HK.out, by omega, by omega, by omega, fun k hk => by
      have := hk2 k hk
      exact ⟨by omega, by omega, by omega⟩⟩
  have HB := Lib.hid (below_step b3 B2.out (Nat.le_refl _))
  have HF : Hid (∀ k, (k = w2.heap.size ∨ k = m1 ∨ (Value.slice A2 D.P.length cap2).ownBlock = some k) → w.heap.size ≤ k) := fun k hk => by
    rcases hk with rfl | rfl | hk
    · omega
    · omega
    · have := hk2 k hk; omega
  clear b1 b2 b3 l1 l1' l2 o2 im1 hk2 m1lt HS HM HC HD HK B1 B2
  go_wp2
  go_ret
  exact ⟨w2.heap.size, m1, _, rfl, HE.out, HB.out, HF.out⟩
end Go.Proofs.Ytjpelmjocdodcaa
