/- record.Read. record.Read: the loop. -/
import Derived.Test.YtjpelmjocdodcaaRecLaw
import Derived.Test.YtjpelmjocdodcaaSlEqual
import Derived.Test.YtjpelmjocdodcaaDiskRead
import Derived.Test.YtjpelmjocdodcaaLab
import Derived.Test.YtjpelmjocdodcaaAppend
import Derived.Test.YtjpelmjocdodcaaDiskNew
namespace Go.Proofs.Ytjpelmjocdodcaa
open Go.RowKit Go.ChangeMaps

def recVal : Option Frm → Value
  | some f => .tuple #[f.val, .int .i64 0]
  | none => .tuple #[zfrm, .int .i64 12]
/-- What Read returns. -/
def readVal (D : Dk) (z : Fz) (a n lsn boot : Int) : Value :=
  if readE D z a n = 0 then recVal (recRead D.read a.toNat n.toNat lsn boot) else .tuple #[zfrm, .int .i64 (readE D z a n)]
abbrev zcells : Array Value := #[.int .i64 0, .int .i64 0, .int .i64 0, .int .i64 0, .int .u8 0, .string ⟨#[]⟩]
set_option maxRecDepth 100000 in
set_option maxHeartbeats 4000000 in
theorem read_nil (a n lsn boot : Int) (w : World) :
    Calls Try.prog 46 #[.pointer none, .int .i64 a, .int .i64 n, .int .i64 lsn, .int .i64 boot] w fun e w' => e = .returned (.tuple #[zfrm, .int .i64 1]) ∧ Below w.heap.size w w' := by
  have n0 := alloc_new w (.cells zcells 77)
  have b0 := alloc_below w (.cells zcells 77)
  have B0 := Lib.hid b0
  have N0 := Lib.hid n0
  clear n0 b0
  go_enter Try.func46, Try.ntmps46
  go_wp2_with (refine wpList_store_block rfl 77 _ _ rfl w.heap.size zcells rfl rfl 77 zcells N0.out (by kernel_rfl) rfl (by simp [Value.oneCell']) ?_)
  exact bodyPost_ret (results_cell2 rfl _ _ w.heap.size _ 77 (0, 0) rfl (setBlock_same (Array.getElem?_eq_some_iff.1 N0.out).1 _) _ Try.underlying77 rfl (by kernel_rfl)) rfl ⟨rfl, (Keeps.setBlock (S := fun x => x = w.heap.size) (.refl _ _) (fun _ => rfl) _).belowOf B0.out B0.out.size (fun x hx e => by omega)⟩
set_option maxRecDepth 100000 in
set_option maxHeartbeats 4000000 in
theorem read_range (d f m : Nat) (v : Value) (D : Dk) (z : Fz) (a n lsn boot : Int) (w : World) (h : Lab w d f m v D z) (hr : a < 0 ∨ n < a ∨ (D.S.length : Int) < n) :
    Calls Try.prog 46 #[.pointer (some ⟨d, 0, none⟩), .int .i64 a, .int .i64 n, .int .i64 lsn, .int .i64 boot] w fun e w' => e = .returned (.tuple #[zfrm, .int .i64 3]) ∧ Below w.heap.size w w' := by
  have n0 := alloc_new w (.cells zcells 77)
  have b0 := alloc_below w (.cells zcells 77)
  have HD := Lib.hid (h.disk.below b0)
  have B0 := Lib.hid b0
  have N0 := Lib.hid n0
  clear n0 b0 h
  by_cases h1 : a < 0
  · clear hr
    go_enter Try.func46, Try.ntmps46
    go_wp2_with (refine wpList_store_block rfl 77 _ _ rfl w.heap.size zcells rfl rfl 77 zcells N0.out (by kernel_rfl) rfl (by simp [Value.oneCell']) ?_)
    exact bodyPost_ret (results_cell2 rfl _ _ w.heap.size _ 77 (0, 0) rfl (setBlock_same (Array.getElem?_eq_some_iff.1 N0.out).1 _) _ Try.underlying77 rfl (by kernel_rfl)) rfl ⟨rfl, (Keeps.setBlock (S := fun x => x = w.heap.size) (.refl _ _) (fun _ => rfl) _).belowOf B0.out B0.out.size (fun x hx e => by omega)⟩
  · by_cases h2 : n < a
    · clear hr
      go_enter Try.func46, Try.ntmps46
      go_wp2_with (refine wpList_store_block rfl 77 _ _ rfl w.heap.size zcells rfl rfl 77 zcells N0.out (by kernel_rfl) rfl (by simp [Value.oneCell']) ?_)
      exact bodyPost_ret (results_cell2 rfl _ _ w.heap.size _ 77 (0, 0) rfl (setBlock_same (Array.getElem?_eq_some_iff.1 N0.out).1 _) _ Try.underlying77 rfl (by kernel_rfl)) rfl ⟨rfl, (Keeps.setBlock (S := fun x => x = w.heap.size) (.refl _ _) (fun _ => rfl) _).belowOf B0.out B0.out.size (fun x hx e => by omega)⟩
    · have h3 : (D.S.length : Int) < n := by omega
      clear hr
      go_enter Try.func46, Try.ntmps46
      go_wp2_with (first | (go_at_call 35; refine (dsectors_any d f m v D _ HD.out).mono ?_; rintro e w' ⟨rfl, rfl⟩) | refine wpList_store_block rfl 77 _ _ rfl w.heap.size zcells rfl rfl 77 zcells N0.out (by kernel_rfl) rfl (by simp [Value.oneCell']) ?_)
      exact bodyPost_ret (results_cell2 rfl _ _ w.heap.size _ 77 (0, 0) rfl (setBlock_same (Array.getElem?_eq_some_iff.1 N0.out).1 _) _ Try.underlying77 rfl (by kernel_rfl)) rfl ⟨rfl, (Keeps.setBlock (S := fun x => x = w.heap.size) (.refl _ _) (fun _ => rfl) _).belowOf B0.out B0.out.size (fun x hx e => by omega)⟩
set_option maxRecDepth 100000 in
set_option maxHeartbeats 4000000 in
theorem read_dead (d f m : Nat) (v : Value) (D : Dk) (z : Fz) (a n lsn boot : Int) (w : World) (h : Lab w d f m v D z) (h1 : ¬ a < 0) (h2 : ¬ n < a) (h3 : ¬ (D.S.length : Int) < n) (hz : z.dead = true) :
    Calls Try.prog 46 #[.pointer (some ⟨d, 0, none⟩), .int .i64 a, .int .i64 n, .int .i64 lsn, .int .i64 boot] w fun e w' => e = .returned (.tuple #[zfrm, .int .i64 10]) ∧ Below w.heap.size w w' := by
  have n0 := alloc_new w (.cells zcells 77)
  have b0 := alloc_below w (.cells zcells 77)
  have h' := h.below b0
  have hrd := dread_any d f m v D z 0 (w.alloc (.cells zcells 77)) h'.disk h'.fuse
  have h0 : doRead D z 0 = ([], 10) := by
    have := h.disk.ok
    unfold Dk.Ok at this
    unfold doRead
    rw [if_pos (by unfold hasE; rw [if_pos (by omega)]), if_pos hz]
  rw [h0] at hrd
  dsimp only at hrd
  have HD := Lib.hid h'.disk
  have B0 := Lib.hid b0
  have N0 := Lib.hid n0
  clear n0 b0 h h' h0 hz
  go_enter Try.func46, Try.ntmps46
  go_wp2_with (first | (go_at_call 35; refine (dsectors_any d f m v D _ HD.out).mono ?_; rintro e w' ⟨rfl, rfl⟩) | fail)
  refine hrd.mono ?_
  rintro e w2 ⟨rfl, b2⟩
  have N2 := Lib.hid ((b2.block _ (Array.getElem?_eq_some_iff.1 N0.out).1).trans N0.out)
  have B2 := Lib.hid (below_step b2 B0.out (Nat.le_refl _))
  clear b2 hrd
  go_wp2_with (refine wpList_store_block rfl 77 _ _ rfl w.heap.size zcells rfl rfl 77 zcells N2.out (by kernel_rfl) rfl (by simp [Value.oneCell']) ?_)
  exact bodyPost_ret (results_cell2 rfl _ _ w.heap.size _ 77 (0, 0) rfl (setBlock_same (Array.getElem?_eq_some_iff.1 N2.out).1 _) _ Try.underlying77 rfl (by kernel_rfl)) rfl ⟨rfl, (Keeps.setBlock (S := fun x => x = w.heap.size) (.refl _ _) (fun _ => rfl) _).belowOf B2.out B2.out.size (fun x hx e => by omega)⟩
end Go.Proofs.Ytjpelmjocdodcaa
namespace Go.Proofs.Ytjpelmjocdodcaa
open Go.RowKit Go.ChangeMaps

def Frm.cells (f : Frm) : Array Value := #[.int .i64 f.boot, .int .i64 f.lsn, .int .i64 f.part, .int .i64 f.parts, .int .u8 f.kind, .string (S f.data)]
/-- What the variable f holds when i sectors have been read. -/
def RSt (rd : Nat → List UInt8) (A N i parts : Nat) (C : Array Value) : Prop :=
  (i = 0 ∧ parts = 1 ∧ C = zcells) ∨ (∃ f, rdec rd A 0 = some f ∧ parts = f.parts ∧ 1 ≤ i ∧ C = Frm.cells ⟨f.boot, f.lsn, f.part, f.parts, f.kind, rdata rd A i⟩ ∧ rwhole rd A N i)
theorem RSt.stop {rd : Nat → List UInt8} {A N i parts : Nat} {C : Array Value} (h : RSt rd A N i parts C) (hi : i < parts) {lsn boot : Int} (hb : ¬ (A + i < N ∧ (rdec rd A i).isSome = true)) : recRead rd A N lsn boot = none := by
  rcases h with ⟨rfl, _, _⟩ | ⟨f, h1, rfl, _, _, _⟩
  · exact recRead_first hb
  · exact recRead_stop h1 hi hb
theorem RSt.size {rd : Nat → List UInt8} {A N i parts : Nat} {C : Array Value} (h : RSt rd A N i parts C) : C.size = 6 := by
  rcases h with ⟨_, _, rfl⟩ | ⟨f, _, _, _, rfl, _⟩ <;> rfl
theorem rwhole_succ {rd : Nat → List UInt8} {A N i : Nat} (h : rwhole rd A N i) (h1 : A + i < N) (h2 : (rdec rd A i).isSome = true) : rwhole rd A N (i + 1) := fun j hj => by
  by_cases e : j = i
  · subst e; exact ⟨h1, h2⟩
  · exact h j (by omega)
theorem set1 {w : World} {b : Nat} {C : Array Value} {t : TypeId} {fr : Nat × Nat} (h : w.heap[b]? = some (Obj.cells C t fr)) (o : Nat) (v : Value) : (w.setCell ⟨b, o, none⟩ v).heap[b]? = some (Obj.cells (C.setIfInBounds o v) t fr) := by
  rw [setCell_block h]
  exact setBlock_same (Array.getElem?_eq_some_iff.1 h).1 _
theorem set6 {w : World} {b : Nat} {t : TypeId} {o0 o1 o2 o3 o4 o5 : Value} (h : w.heap[b]? = some (Obj.cells #[o0, o1, o2, o3, o4, o5] t (0, 0))) (v0 v1 v2 v3 v4 v5 : Value) :
    ((((((w.setCell ⟨b, 0, none⟩ v0).setCell ⟨b, 1, none⟩ v1).setCell ⟨b, 2, none⟩ v2).setCell ⟨b, 3, none⟩ v3).setCell ⟨b, 4, none⟩ v4).setCell ⟨b, 5, none⟩ v5).heap[b]? = some (Obj.cells #[v0, v1, v2, v3, v4, v5] t (0, 0)) ∧
    Keeps (fun k => k = b) w ((((((w.setCell ⟨b, 0, none⟩ v0).setCell ⟨b, 1, none⟩ v1).setCell ⟨b, 2, none⟩ v2).setCell ⟨b, 3, none⟩ v3).setCell ⟨b, 4, none⟩ v4).setCell ⟨b, 5, none⟩ v5) := by
  refine ⟨?_, ((((((Keeps.refl (fun k => k = b) w).setCell (p := ⟨b, 0, none⟩) (fun _ => rfl) v0).setCell (p := ⟨b, 1, none⟩) (fun _ => rfl) v1).setCell (p := ⟨b, 2, none⟩) (fun _ => rfl) v2).setCell (p := ⟨b, 3, none⟩) (fun _ => rfl) v3).setCell (p := ⟨b, 4, none⟩) (fun _ => rfl) v4).setCell (p := ⟨b, 5, none⟩) (fun _ => rfl) v5⟩
  have h1 := set1 h 0 v0
  have h2 := set1 h1 1 v1
  have h3 := set1 h2 2 v2
  have h4 := set1 h3 3 v3
  have h5 := set1 h4 4 v4
  have h6 := set1 h5 5 v5
  simp only [List.setIfInBounds_toArray, List.set_cons_zero, List.set_cons_succ] at h6
  exact h6
set_option maxRecDepth 100000 in
set_option maxHeartbeats 8000000 in
theorem read_go (d f m : Nat) (v : Value) (D : Dk) (z : Fz) (A N : Nat) (lsn boot : Int) (w : World) (h : Lab w d f m v D z) (h1 : A ≤ N) (h2 : N ≤ D.S.length) (hz : z.dead = false) :
    Calls Try.prog 46 #[.pointer (some ⟨d, 0, none⟩), .int .i64 A, .int .i64 N, .int .i64 lsn, .int .i64 boot] w fun e w' => e = .returned (recVal (recRead D.read A N lsn boot)) ∧ Below w.heap.size w w' := by
  have n0 := alloc_new w (.cells zcells 77)
  have b0 := alloc_below w (.cells zcells 77)
  have h' := h.below b0
  have hrd := dread_any d f m v D z 0 (w.alloc (.cells zcells 77)) h'.disk h'.fuse
  have hok := h.disk.ok
  unfold Dk.Ok at hok
  obtain ⟨hl1, hl2, -, -⟩ := hok
  have hread : ∀ i, i < D.S.length → doRead D z i = (D.read i, 0) := fun i hi => by
    unfold doRead
    rw [if_pos (by unfold hasE; rw [if_pos (by omega)]), if_neg (by rw [hz]; decide), Int.toNat_natCast]
  have h0 := hread 0 (by omega)
  rw [show ((0:Nat):Int) = 0 from rfl] at h0
  rw [h0] at hrd
  dsimp only at hrd
  have HD := Lib.hid h'.disk
  have HL := Lib.hid h
  have HREAD := Lib.hid hread
  have B0 := Lib.hid b0
  have N0 := Lib.hid n0
  have hAi : (A:Int) ≤ 65536 := by omega
  have hNi : (N:Int) ≤ 65536 := by omega
  have g1 : ¬ (A:Int) < 0 := by omega
  have g2 : ¬ (N:Int) < (A:Int) := by omega
  have g3 : ¬ (D.S.length:Int) < (N:Int) := by omega
  clear n0 b0 h h' h0 hz hread hl1 hl2
  go_enter Try.func46, Try.ntmps46
  go_wp2_with (first | (go_at_call 35; refine (dsectors_any d f m v D _ HD.out).mono ?_; rintro e w' ⟨rfl, rfl⟩) | fail)
  refine hrd.mono ?_
  rintro e w2 ⟨rfl, b2⟩
  have N2 := Lib.hid ((b2.block _ (Array.getElem?_eq_some_iff.1 N0.out).1).trans N0.out)
  have B2 := Lib.hid (below_step b2 B0.out (Nat.le_refl _))
  have S2 : Hid (w.heap.size < w2.heap.size) := by have := b2.size; rw [alloc_size] at this; exact this
  clear b2 hrd HD N0 B0 g3
  go_wp2_with (fail)
  go_loopw [14, 15, 16] (fun v14 v15 v16 wr => ∃ (i parts : Nat) (C : Array Value), i ≤ parts ∧ parts ≤ 255 ∧ v15 = .int .i64 parts ∧ v16 = .int .i64 i ∧ Hid (RSt D.read A N i parts C) ∧ Hid (wr.heap[w.heap.size]? = some (Obj.cells C 77 (0, 0))) ∧
    Hid (wr.ownsRow 0 9 1 v14 i (rstrs (rsecs D.read A i))) ∧ Hid (Below w.heap.size w wr) ∧ Hid (∀ j, v14.ownBlock = some j → w.heap.size < j)) (fun _ v15 v16 _ => 256 * (if intOf v16 = 0 then 1 else 0) + ((intOf v15).toNat - (intOf v16).toNat))
  case atStart => exact ⟨0, 1, zcells, by omega, by omega, rfl, rfl, .inl ⟨rfl, rfl, rfl⟩, N2.out, World.ownsRow_nil _ _ _ _, B2.out, fun j hj => by simp [Value.ownBlock] at hj⟩
  case round =>
    obtain ⟨i, parts, C, hip, hp255, rfl, rfl, hST, hC, hR, hB, hF⟩ := hrel
    by_cases hlt : i < parts
    · have hii : (i:Int) < 255 := by omega
      have hlti : (i:Int) < (parts:Int) := by omega
      by_cases hN : A + i < N
      · have hNl : (A:Int) + (i:Int) < (N:Int) := by omega
        have hrd2 := dread_any d f m v D z (A + i : Nat) wr (HL.out.disk.below hB.out) (HL.out.fuse.below hB.out)
        rw [HREAD.out (A + i) (by omega)] at hrd2
        dsimp only at hrd2
        rw [Int.natCast_add] at hrd2
        go_wp2_with (fail)
        refine hrd2.mono ?_
        rintro e3 w3 ⟨rfl, b3⟩
        have hltb := (Array.getElem?_eq_some_iff.1 hC.out).1
        have C3 := Lib.hid ((b3.block _ hltb).trans hC.out)
        have R3 := Lib.hid (row_keeps (S := fun _ => False) hR.out (.of_below b3) (fun _ _ => id))
        have B3 := Lib.hid (below_step b3 hB.out (Nat.le_refl _))
        clear hltb b3 hC hR hB hrd2
        go_wp2_with (fail)
        have hdc := fDecode_any (D.read (A + i)) w3
        cases hdec : fdecodeOf (D.read (A + i)) with
        | none =>
          have hbad := Lib.hid (hST.out.stop hlt (lsn := lsn) (boot := boot) (fun h => by have := h.2; unfold rdec at this; rw [hdec] at this; simp at this))
          rw [fdecVal_none hdec] at hdc
          clear hdec
          refine hdc.mono ?_
          unfold zfrm
          rintro e4 w4 ⟨rfl, b4⟩
          have hltb := (Array.getElem?_eq_some_iff.1 C3.out).1
          have b5 := below_step (alloc_below w4 (.cells zcells 77)) b4 (Nat.le_refl _)
          have C5 := Lib.hid ((b5.block _ hltb).trans C3.out)
          have B5 := Lib.hid (below_step b5 B3.out (Nat.le_refl _))
          clear b4 b5 hltb hdc C3 R3 B3
          go_wp2_with (refine wpList_store_block rfl 77 _ _ rfl w.heap.size zcells rfl rfl 77 _ C5.out (by kernel_rfl) hST.out.size (by simp [Value.oneCell']) ?_)
          exact bodyPost_ret (results_cell2 rfl _ _ w.heap.size _ 77 (0, 0) rfl (setBlock_same (Array.getElem?_eq_some_iff.1 C5.out).1 _) _ Try.underlying77 rfl (by kernel_rfl)) rfl ⟨by rw [hbad.out]; rfl, (Keeps.setBlock (S := fun x => x = w.heap.size) (.refl _ _) (fun _ => rfl) _).belowOf B5.out B5.out.size (fun x hx e => by omega)⟩
        | some g =>
          rw [fdecVal_some hdec] at hdc
          have hrd : rdec D.read A i = some g := hdec
          have hgo := (fdecodeOf_some hdec).1
          unfold Frm.Ok at hgo
          have hgp : g.parts ≤ 255 := by omega
          have hgd : g.data.length ≤ 44 := by omega
          clear hgo
          have HRD := Lib.hid hrd
          clear hdec hrd
          refine hdc.mono ?_
          unfold Frm.val
          rintro e4 w4 ⟨rfl, b4⟩
          have hltb := (Array.getElem?_eq_some_iff.1 C3.out).1
          have n5 := alloc_new w4 (.cells g.cells 77)
          have b5 := below_step (alloc_below w4 (.cells g.cells 77)) b4 (Nat.le_refl _)
          have C5 := Lib.hid ((b5.block _ hltb).trans C3.out)
          have R5 := Lib.hid (row_keeps (S := fun _ => False) R3.out (.of_below b5) (fun _ _ => id))
          have B5 := Lib.hid (below_step b5 B3.out (Nat.le_refl _))
          have hne : w.heap.size < w4.heap.size := by have := b4.size; omega
          unfold Frm.cells at n5
          by_cases hi0 : i = 0
          · subst hi0
            obtain ⟨rfl, rfl⟩ : parts = 1 ∧ C = zcells := by
              rcases hST.out with ⟨_, e1, e2⟩ | ⟨f, _, _, e1, _, _⟩
              · exact ⟨e1, e2⟩
              · omega
            have N5 := Lib.hid n5
            clear hdc C3 R3 B3 b4 b5 n5 hltb
            go_upto_region 22 with (fail)
            obtain ⟨w5, hw5⟩ : ∃ w5, w4.alloc (.cells #[.int .i64 g.boot, .int .i64 g.lsn, .int .i64 g.part, .int .i64 g.parts, .int .u8 g.kind, .string (S g.data)] 77) = w5 := ⟨_, rfl⟩
            have hCw : Hid (w5.heap[w.heap.size]? = some (Obj.cells zcells 77 (0, 0))) := by rw [← hw5]; exact C5.out
            have hNw : Hid (w5.heap[w4.heap.size]? = some (Obj.cells #[.int .i64 g.boot, .int .i64 g.lsn, .int .i64 g.part, .int .i64 g.parts, .int .u8 g.kind, .string (S g.data)] 77 (0, 0))) := by rw [← hw5]; exact N5.out
            have hRw : Hid (w5.ownsRow 0 9 1 u14 0 (rstrs (rsecs D.read A 0))) := by rw [← hw5]; exact R5.out
            have hBw : Hid (Below w.heap.size w w5) := by rw [← hw5]; exact B5.out
            rw [hw5]
            clear hw5 C5 N5 R5 B5
            have y0 := (cell_of hCw.out 0).trans rfl
            have y1 := (cell_of hCw.out 1).trans rfl
            have y2 := (cell_of hCw.out 2).trans rfl
            have y3 := (cell_of hCw.out 3).trans rfl
            have y4 := (cell_of hCw.out 4).trans rfl
            have y5 := (cell_of hCw.out 5).trans rfl
            have f0 := free_of hCw.out 0
            have f1 := free_of hCw.out 1
            have f2 := free_of hCw.out 2
            have f3 := free_of hCw.out 3
            have f4 := free_of hCw.out 4
            have f5 := free_of hCw.out 5
            have x0 := (cell_of hNw.out 0).trans rfl
            have x1 := (cell_of hNw.out 1).trans rfl
            have x2 := (cell_of hNw.out 2).trans rfl
            have x3 := (cell_of hNw.out 3).trans rfl
            have x4 := (cell_of hNw.out 4).trans rfl
            have x5 := (cell_of hNw.out 5).trans rfl
            go_region
            obtain ⟨c7, k7⟩ := set6 hCw.out (.int .i64 g.boot) (.int .i64 g.lsn) (.int .i64 g.part) (.int .i64 g.parts) (.int .u8 g.kind) (.string (S g.data))
            obtain ⟨w6, hw6⟩ : ∃ w6, (((((w5.setCell ⟨w.heap.size, 0, none⟩ (.int .i64 g.boot)).setCell ⟨w.heap.size, 1, none⟩ (.int .i64 g.lsn)).setCell ⟨w.heap.size, 2, none⟩ (.int .i64 g.part)).setCell ⟨w.heap.size, 3, none⟩ (.int .i64 g.parts)).setCell ⟨w.heap.size, 4, none⟩ (.int .u8 g.kind)).setCell ⟨w.heap.size, 5, none⟩ (.string (S g.data)) = w6 := ⟨_, rfl⟩
            rw [hw6] at c7 k7 ⊢
            clear hw6 y0 y1 y2 y3 y4 y5 f0 f1 f2 f3 f4 f5 x0 x1 x2 x3 x4 x5
            have C7 : Hid (w6.drew.heap[w.heap.size]? = some (Obj.cells (Frm.cells ⟨g.boot, g.lsn, g.part, g.parts, g.kind, rdata D.read A (0 + 1)⟩) 77 (0, 0))) := by
              unfold Hid
              rw [rdata_succ HRD.out]
              exact c7
            have R7 : Hid (w6.drew.ownsRow 0 9 1 u14 0 (rstrs (rsecs D.read A 0))) := row_keeps hRw.out k7.drew (fun k hk e => by have := hF.out k hk; omega)
            have B7 : Hid (Below w.heap.size w w6.drew) := (k7.belowOf hBw.out hBw.out.size (fun k hk e => by omega)).drew
            have ST7 := Lib.hid (show RSt D.read A N (0 + 1) g.parts (Frm.cells ⟨g.boot, g.lsn, g.part, g.parts, g.kind, rdata D.read A (0 + 1)⟩) from .inr ⟨g, HRD.out, rfl, by omega, rfl, rwhole_succ (fun _ h => absurd h (by omega)) (by omega) (by rw [HRD.out]; rfl)⟩)
            have hgp1 : 1 ≤ g.parts := by have := (rdec_ok HRD.out).1; unfold Frm.Ok at this; omega
            generalize w6.drew = w7 at C7 R7 B7 ⊢
            clear c7 k7 hCw hNw hRw hBw
            have n8 := alloc_new w7 (.cells #[.string (S (D.read A))] 9)
            have b8 := alloc_below w7 (.cells #[.string (S (D.read A))] 9)
            have ho8 := row_keeps (S := fun _ => False) R7.out (.of_below b8) (fun _ _ => id)
            obtain ⟨v', w9, hrun, hown, hgr, hat⟩ := append_run (P := Try.prog) _ 25 25 9 (.string ⟨#[]⟩) 1 16 Try.underlying25 (by kernel_rfl) rfl (by decide) u14 0 _ ho8
              ⟨w7.heap.size, 0, none⟩ 1 1 [.string (S (D.read A))] rfl (fun j u hu => by rw [cell_at n8, Nat.zero_add]; simpa using hu) (fun u hu => by simp at hu; rcases hu with rfl; rfl) (by unfold maxLen; omega) (by omega)
            obtain ⟨A', cap', rfl⟩ := ownsRow_is hown
            have hltb := (Array.getElem?_eq_some_iff.1 C7.out).1
            have hB8 := below_step b8 B7.out (Nat.le_refl _)
            have HB9 := Lib.hid (grown_below hB8 hgr (hB8.size) (fun k hk => Nat.le_of_lt (hF.out k hk)))
            have HC9 : Hid (w9.heap[w.heap.size]? = some (Obj.cells (Frm.cells ⟨g.boot, g.lsn, g.part, g.parts, g.kind, rdata D.read A (0 + 1)⟩) 77 (0, 0))) := (hgr.block _ (by rw [alloc_size]; omega) (fun e => by have := hF.out _ e.symm; omega)).trans ((b8.block _ hltb).trans C7.out)
            have HF9 : Hid (∀ j, (Value.slice A' (0 + 1) cap').ownBlock = some j → w.heap.size < j) := fun j hj => by
              rcases hat with hat | hat
              · exact hF.out j (hat.symm.trans hj)
              · rw [hat] at hj
                injection hj with hj
                rw [alloc_size] at hj
                omega
            have HR9 : Hid (w9.ownsRow 0 9 1 (.slice A' (0 + 1) cap') (0 + 1) (rstrs (rsecs D.read A (0 + 1)))) := by
              unfold Hid
              rw [rsecs_succ]
              unfold rstrs at hown ⊢
              rw [List.map_append]
              exact hown
            have HRUN := Lib.hid hrun
            clear hrun n8 b8 hgr hat hown ho8 hltb hB8 C7 R7 B7
            go_wp2_with (at_builtin; refine wpList_append_eq rfl (.tmp 89) (.tmp 91) 25 rfl _ _ rfl rfl _ _ HRUN.out ?_)
            go_roundw
            case rel => exact ⟨0 + 1, g.parts, _, hgp1, hgp, rfl, by go_num, ST7.out, HC9.out, HR9.out, HB9.out, HF9.out⟩
            case measure => simp [intOf]; omega
          · obtain ⟨f, hf0, hpf, hi1, rfl, hwh⟩ : ∃ f, rdec D.read A 0 = some f ∧ parts = f.parts ∧ 1 ≤ i ∧ C = Frm.cells ⟨f.boot, f.lsn, f.part, f.parts, f.kind, rdata D.read A i⟩ ∧ rwhole D.read A N i := by
              rcases hST.out with ⟨e, _, _⟩ | h
              · exact absurd e hi0
              · exact h
            have ST7 := Lib.hid (show RSt D.read A N (i + 1) parts (Frm.cells ⟨f.boot, f.lsn, f.part, f.parts, f.kind, rdata D.read A (i + 1)⟩) from .inr ⟨f, hf0, hpf, by omega, rfl, rwhole_succ hwh hN (by rw [HRD.out]; rfl)⟩)
            have hiz : ¬ (i:Int) = 0 := by omega
            obtain ⟨w5, hw5⟩ : ∃ w5, w4.alloc (.cells #[.int .i64 g.boot, .int .i64 g.lsn, .int .i64 g.part, .int .i64 g.parts, .int .u8 g.kind, .string (S g.data)] 77) = w5 := ⟨_, rfl⟩
            have hlen := rdata_len D.read A i
            obtain ⟨R, hRR⟩ : ∃ R, rdata D.read A i = R := ⟨_, rfl⟩
            rw [hRR] at hlen
            have HRR := Lib.hid hRR
            have hCw : Hid (w5.heap[w.heap.size]? = some (Obj.cells (Frm.cells ⟨f.boot, f.lsn, f.part, f.parts, f.kind, R⟩) 77 (0, 0))) := by rw [← hw5, ← hRR]; exact C5.out
            have x5 : w5.cell? ⟨w4.heap.size, 5, none⟩ = some (.string (S g.data)) := by rw [← hw5]; exact (cell_of n5 5).trans rfl
            have hRw : Hid (w5.ownsRow 0 9 1 u14 i (rstrs (rsecs D.read A i))) := by rw [← hw5]; exact R5.out
            have hBw : Hid (Below w.heap.size w w5) := by rw [← hw5]; exact B5.out
            have y5 : w5.cell? ⟨w.heap.size, 5, none⟩ = some (.string (S R)) := (cell_of hCw.out 5).trans rfl
            have f5 := free_of hCw.out 5
            have hbig : ¬ 9223372036854775807 < R.length + g.data.length := by omega
            have HW5 := Lib.hid hw5
            clear hdc C3 R3 B3 b4 b5 n5 hltb C5 R5 B5 hST hw5 hRR hwh hf0 hlen hpf
            go_upto_region 23 with (fail)
            rw [HW5.out]
            go_upto_region 24 with (fail)
            have c7 := set1 hCw.out 5 (.string (S (R ++ g.data)))
            have k7 : Keeps (fun k => k = w.heap.size) w5 (w5.setCell ⟨w.heap.size, 5, none⟩ (.string (S (R ++ g.data)))) := (Keeps.refl (fun k => k = w.heap.size) w5).setCell (p := ⟨w.heap.size, 5, none⟩) (fun _ => rfl) _
            obtain ⟨w7, hw7⟩ : ∃ w7, w5.setCell ⟨w.heap.size, 5, none⟩ (.string (S (R ++ g.data))) = w7 := ⟨_, rfl⟩
            rw [hw7] at c7 k7 ⊢
            have C7 : Hid (w7.heap[w.heap.size]? = some (Obj.cells (Frm.cells ⟨f.boot, f.lsn, f.part, f.parts, f.kind, rdata D.read A (i + 1)⟩) 77 (0, 0))) := by
              unfold Hid
              rw [rdata_succ HRD.out, HRR.out]
              exact c7
            have R7 : Hid (w7.ownsRow 0 9 1 u14 i (rstrs (rsecs D.read A i))) := row_keeps hRw.out k7 (fun k hk e => by have := hF.out k hk; omega)
            have B7 : Hid (Below w.heap.size w w7) := k7.belowOf hBw.out hBw.out.size (fun k hk e => by omega)
            clear c7 k7 hCw hRw hBw hw7 x5 y5 f5
            have n8 := alloc_new w7 (.cells #[.string (S (D.read (A + i)))] 9)
            have b8 := alloc_below w7 (.cells #[.string (S (D.read (A + i)))] 9)
            have ho8 := row_keeps (S := fun _ => False) R7.out (.of_below b8) (fun _ _ => id)
            obtain ⟨v', w9, hrun, hown, hgr, hat⟩ := append_run (P := Try.prog) _ 25 25 9 (.string ⟨#[]⟩) 1 16 Try.underlying25 (by kernel_rfl) rfl (by decide) u14 i _ ho8
              ⟨w7.heap.size, 0, none⟩ 1 1 [.string (S (D.read (A + i)))] rfl (fun j u hu => by rw [cell_at n8, Nat.zero_add]; simpa using hu) (fun u hu => by simp at hu; rcases hu with rfl; rfl) (by unfold maxLen; omega) (by omega)
            obtain ⟨A', cap', rfl⟩ := ownsRow_is hown
            have hltb := (Array.getElem?_eq_some_iff.1 C7.out).1
            have hB8 := below_step b8 B7.out (Nat.le_refl _)
            have HB9 := Lib.hid (grown_below hB8 hgr (hB8.size) (fun k hk => Nat.le_of_lt (hF.out k hk)))
            have HC9 : Hid (w9.heap[w.heap.size]? = some (Obj.cells (Frm.cells ⟨f.boot, f.lsn, f.part, f.parts, f.kind, rdata D.read A (i + 1)⟩) 77 (0, 0))) := (hgr.block _ (by rw [alloc_size]; omega) (fun e => by have := hF.out _ e.symm; omega)).trans ((b8.block _ hltb).trans C7.out)
            have HF9 : Hid (∀ j, (Value.slice A' (i + 1) cap').ownBlock = some j → w.heap.size < j) := fun j hj => by
              rcases hat with hat | hat
              · exact hF.out j (hat.symm.trans hj)
              · rw [hat] at hj
                injection hj with hj
                rw [alloc_size] at hj
                omega
            have HR9 : Hid (w9.ownsRow 0 9 1 (.slice A' (i + 1) cap') (i + 1) (rstrs (rsecs D.read A (i + 1)))) := by
              unfold Hid
              rw [rsecs_succ]
              unfold rstrs at hown ⊢
              rw [List.map_append]
              exact hown
            have HRUN := Lib.hid hrun
            clear hrun n8 b8 hgr hat hown ho8 hltb hB8 C7 R7 B7
            go_wp2_with (at_builtin; refine wpList_append_eq rfl (.tmp 89) (.tmp 91) 25 rfl _ _ rfl rfl _ _ HRUN.out ?_)
            go_roundw
            case rel => exact ⟨i + 1, parts, _, hlt, hp255, rfl, by go_num, ST7.out, HC9.out, HR9.out, HB9.out, HF9.out⟩
            case measure =>
              have e1 : ¬ ((i:Int) + 1 = 0) := by omega
              simp [intOf, e1, hi0]
              omega
      · have hbad := Lib.hid (hST.out.stop hlt (lsn := lsn) (boot := boot) (fun h => hN h.1))
        have hNl : (N:Int) ≤ (A:Int) + (i:Int) := by omega
        go_wp2_with (refine wpList_store_block rfl 77 _ _ rfl w.heap.size zcells rfl rfl 77 _ hC.out (by kernel_rfl) hST.out.size (by simp [Value.oneCell']) ?_)
        exact bodyPost_ret (results_cell2 rfl _ _ w.heap.size _ 77 (0, 0) rfl (setBlock_same (Array.getElem?_eq_some_iff.1 hC.out).1 _) _ Try.underlying77 rfl (by kernel_rfl)) rfl ⟨by rw [hbad.out]; rfl, (Keeps.setBlock (S := fun x => x = w.heap.size) (.refl _ _) (fun _ => rfl) _).belowOf hB.out hB.out.size (fun x hx e => by omega)⟩
    · obtain rfl : i = parts := by omega
      obtain ⟨f, hf0, hpf, hi1, rfl, hwh⟩ : ∃ f, rdec D.read A 0 = some f ∧ i = f.parts ∧ 1 ≤ i ∧ C = Frm.cells ⟨f.boot, f.lsn, f.part, f.parts, f.kind, rdata D.read A i⟩ ∧ rwhole D.read A N i := by
        rcases hST.out with ⟨e, e2, _⟩ | h
        · omega
        · exact h
      have hlen := rdata_len D.read A i
      have hok := (rdec_ok hf0).1
      unfold Frm.Ok at hok
      have hkd : 0 ≤ (f.kind:Int) ∧ (f.kind:Int) < 256 := by omega
      obtain ⟨R, hRR⟩ : ∃ R, rdata D.read A i = R := ⟨_, rfl⟩
      rw [hRR] at hlen hC
      have hRR' : rdata D.read A f.parts = R := by rw [← hpf]; exact hRR
      have y0 : wr.cell? ⟨w.heap.size, 0, none⟩ = some (.int .i64 f.boot) := (cell_of hC.out 0).trans rfl
      have y1 : wr.cell? ⟨w.heap.size, 1, none⟩ = some (.int .i64 f.lsn) := (cell_of hC.out 1).trans rfl
      have y4 : wr.cell? ⟨w.heap.size, 4, none⟩ = some (.int .u8 f.kind) := (cell_of hC.out 4).trans rfl
      have y5 : wr.cell? ⟨w.heap.size, 5, none⟩ = some (.string (S R)) := (cell_of hC.out 5).trans rfl
      have hsec := sectors_any f.boot f.lsn f.kind hkd R (by omega) wr
      have hbadI : ¬ rgood D.read A N lsn boot f → recRead D.read A N lsn boot = none := recRead_bad hf0
      have hgoodI : rgood D.read A N lsn boot f → recRead D.read A N lsn boot = some ⟨f.boot, f.lsn, f.part, f.parts, f.kind, R⟩ := fun h => by rw [recRead_good hf0 h, hRR']
      obtain ⟨⟨L, er⟩, hLe⟩ : ∃ p, recSecs f.boot f.lsn f.kind R = p := ⟨_, rfl⟩
      have hgd : rgood D.read A N lsn boot f ↔ (er = 0 ∧ (f.lsn : Int) = lsn ∧ boot ≤ f.boot ∧ rsecs D.read A i = L) := by
        unfold rgood
        rw [hRR', hLe, ← hpf]
        exact ⟨fun h => h.2, fun h => ⟨hwh, h⟩⟩
      have hLlen : L.length ≤ 94 := by
        have : (recSecs f.boot f.lsn f.kind R).1.length ≤ 94 := by
          unfold recSecs
          by_cases q1 : 4096 < R.length
          · rw [if_pos q1]; exact Nat.zero_le _
          · rw [if_neg q1]
            by_cases q2 : ROk f.boot f.lsn
            · rw [if_pos q2, List.length_map, List.length_range]; exact npart_le (by omega)
            · rw [if_neg q2]; exact Nat.zero_le _
        rw [hLe] at this
        exact this
      rw [hLe] at hsec
      dsimp only at hsec
      have GD := Lib.hid hgd
      have BADI := Lib.hid hbadI
      have GOODI := Lib.hid hgoodI
      clear hok hRR hRR' hLe hbadI hgoodI hgd hST hf0 hpf hwh hlen
      go_wp2_with (fail)
      refine hsec.mono ?_
      rintro e3 w3 ⟨A2, cap2, rfl, hr2, b3, hf2⟩
      have hltb := (Array.getElem?_eq_some_iff.1 hC.out).1
      have C3 := Lib.hid ((b3.block _ hltb).trans hC.out)
      have R3 := Lib.hid (row_keeps (S := fun _ => False) hR.out (.of_below b3) (fun _ _ => id))
      have B3 := Lib.hid (below_step b3 hB.out (Nat.le_refl _))
      have H2 := Lib.hid hr2
      have y0' := below_cell b3 y0
      have y1' := below_cell b3 y1
      clear hltb b3 hC hR hB hsec y0 y1 y4 y5 hf2 hr2
      by_cases q1 : er = 0
      · subst q1
        by_cases q2 : (f.lsn : Int) = lsn
        · subst q2
          by_cases q3 : boot ≤ (f.boot : Int)
          · have heq := slEqual_any u14 (.slice A2 L.length cap2) (rsecs D.read A i) L (by rw [rsecs_len]; omega) (by omega) w3 (by rw [rsecs_len]; exact R3.out) H2.out
            by_cases q4 : rsecs D.read A i = L
            · have hgood := Lib.hid (GOODI.out (GD.out.2 ⟨rfl, rfl, q3, q4⟩))
              have h4 : decide (rsecs D.read A i = L) = true := decide_eq_true q4
              rw [h4] at heq
              clear q4 h4 GOODI BADI GD
              go_wp2_with (fail)
              refine heq.mono ?_
              rintro e4 w4 ⟨rfl, b4⟩
              have hltb := (Array.getElem?_eq_some_iff.1 C3.out).1
              have C4 := Lib.hid ((b4.block _ hltb).trans C3.out)
              have B4 := Lib.hid (below_step b4 B3.out (Nat.le_refl _))
              have y0 : w4.cell? ⟨w.heap.size, 0, none⟩ = some (.int .i64 f.boot) := (cell_of C4.out 0).trans rfl
              have y1 : w4.cell? ⟨w.heap.size, 1, none⟩ = some (.int .i64 f.lsn) := (cell_of C4.out 1).trans rfl
              have y2 : w4.cell? ⟨w.heap.size, 2, none⟩ = some (.int .i64 f.part) := (cell_of C4.out 2).trans rfl
              have y3 : w4.cell? ⟨w.heap.size, 3, none⟩ = some (.int .i64 f.parts) := (cell_of C4.out 3).trans rfl
              have y4 : w4.cell? ⟨w.heap.size, 4, none⟩ = some (.int .u8 f.kind) := (cell_of C4.out 4).trans rfl
              have y5 : w4.cell? ⟨w.heap.size, 5, none⟩ = some (.string (S R)) := (cell_of C4.out 5).trans rfl
              clear b4 hltb heq C3 R3 B3 H2 y0' y1'
              go_wp2_with (refine wpList_store_block rfl 77 _ _ rfl w.heap.size #[.int .i64 f.boot, .int .i64 f.lsn, .int .i64 f.part, .int .i64 f.parts, .int .u8 f.kind, .string (S R)] rfl rfl 77 _ C4.out (by kernel_rfl) rfl (by simp [Value.oneCell']) ?_)
              exact bodyPost_ret (results_cell2 rfl _ _ w.heap.size _ 77 (0, 0) rfl (setBlock_same (Array.getElem?_eq_some_iff.1 C4.out).1 _) _ Try.underlying77 rfl (by kernel_rfl)) rfl ⟨by rw [hgood.out]; rfl, (Keeps.setBlock (S := fun x => x = w.heap.size) (.refl _ _) (fun _ => rfl) _).belowOf B4.out B4.out.size (fun x hx e => by omega)⟩
            · have hbad := Lib.hid (BADI.out (fun h => q4 (GD.out.1 h).2.2.2))
              have h4 : decide (rsecs D.read A i = L) = false := decide_eq_false q4
              rw [h4] at heq
              clear q4 h4 GOODI BADI GD
              go_wp2_with (fail)
              refine heq.mono ?_
              rintro e4 w4 ⟨rfl, b4⟩
              have hltb := (Array.getElem?_eq_some_iff.1 C3.out).1
              have C4 := Lib.hid ((b4.block _ hltb).trans C3.out)
              have B4 := Lib.hid (below_step b4 B3.out (Nat.le_refl _))
              clear b4 hltb heq C3 R3 B3 H2 y0' y1'
              go_wp2_with (refine wpList_store_block rfl 77 _ _ rfl w.heap.size zcells rfl rfl 77 _ C4.out (by kernel_rfl) rfl (by simp [Value.oneCell']) ?_)
              exact bodyPost_ret (results_cell2 rfl _ _ w.heap.size _ 77 (0, 0) rfl (setBlock_same (Array.getElem?_eq_some_iff.1 C4.out).1 _) _ Try.underlying77 rfl (by kernel_rfl)) rfl ⟨by rw [hbad.out]; rfl, (Keeps.setBlock (S := fun x => x = w.heap.size) (.refl _ _) (fun _ => rfl) _).belowOf B4.out B4.out.size (fun x hx e => by omega)⟩
          · have hbad := Lib.hid (BADI.out (fun h => q3 (GD.out.1 h).2.2.1))
            have q3' : (f.boot : Int) < boot := by omega
            clear q3 GOODI BADI GD R3 H2
            go_wp2_with (refine wpList_store_block rfl 77 _ _ rfl w.heap.size zcells rfl rfl 77 _ C3.out (by kernel_rfl) rfl (by simp [Value.oneCell']) ?_)
            exact bodyPost_ret (results_cell2 rfl _ _ w.heap.size _ 77 (0, 0) rfl (setBlock_same (Array.getElem?_eq_some_iff.1 C3.out).1 _) _ Try.underlying77 rfl (by kernel_rfl)) rfl ⟨by rw [hbad.out]; rfl, (Keeps.setBlock (S := fun x => x = w.heap.size) (.refl _ _) (fun _ => rfl) _).belowOf B3.out B3.out.size (fun x hx e => by omega)⟩
        · have hbad := Lib.hid (BADI.out (fun h => q2 (GD.out.1 h).2.1))
          clear GOODI BADI GD R3 H2
          go_wp2_with (refine wpList_store_block rfl 77 _ _ rfl w.heap.size zcells rfl rfl 77 _ C3.out (by kernel_rfl) rfl (by simp [Value.oneCell']) ?_)
          exact bodyPost_ret (results_cell2 rfl _ _ w.heap.size _ 77 (0, 0) rfl (setBlock_same (Array.getElem?_eq_some_iff.1 C3.out).1 _) _ Try.underlying77 rfl (by kernel_rfl)) rfl ⟨by rw [hbad.out]; rfl, (Keeps.setBlock (S := fun x => x = w.heap.size) (.refl _ _) (fun _ => rfl) _).belowOf B3.out B3.out.size (fun x hx e => by omega)⟩
      · have hbad := Lib.hid (BADI.out (fun h => q1 (GD.out.1 h).1))
        clear GOODI BADI GD R3 H2
        go_wp2_with (refine wpList_store_block rfl 77 _ _ rfl w.heap.size zcells rfl rfl 77 _ C3.out (by kernel_rfl) rfl (by simp [Value.oneCell']) ?_)
        exact bodyPost_ret (results_cell2 rfl _ _ w.heap.size _ 77 (0, 0) rfl (setBlock_same (Array.getElem?_eq_some_iff.1 C3.out).1 _) _ Try.underlying77 rfl (by kernel_rfl)) rfl ⟨by rw [hbad.out]; rfl, (Keeps.setBlock (S := fun x => x = w.heap.size) (.refl _ _) (fun _ => rfl) _).belowOf B3.out B3.out.size (fun x hx e => by omega)⟩
theorem read_any (d f m : Nat) (v : Value) (D : Dk) (z : Fz) (a n lsn boot : Int) (w : World) (h : Lab w d f m v D z) :
    Calls Try.prog 46 #[.pointer (some ⟨d, 0, none⟩), .int .i64 a, .int .i64 n, .int .i64 lsn, .int .i64 boot] w fun e w' => e = .returned (readVal D z a n lsn boot) ∧ Below w.heap.size w w' := by
  unfold readVal readE
  by_cases hr : a < 0 ∨ n < a ∨ (D.S.length : Int) < n
  · rw [if_pos hr, if_neg (by decide)]
    exact read_range d f m v D z a n lsn boot w h hr
  · rw [if_neg hr]
    by_cases hz : z.dead = true
    · rw [if_pos hz, if_neg (by decide)]
      exact read_dead d f m v D z a n lsn boot w h (by omega) (by omega) (by omega) hz
    · rw [if_neg hz, if_pos rfl]
      obtain ⟨A, rfl⟩ : ∃ A : Nat, a = A := ⟨a.toNat, by omega⟩
      obtain ⟨N, rfl⟩ : ∃ N : Nat, n = N := ⟨n.toNat, by omega⟩
      rw [Int.toNat_natCast, Int.toNat_natCast]
      exact read_go d f m v D z A N lsn boot w h (by omega) (by omega) (by simpa using hz)
end Go.Proofs.Ytjpelmjocdodcaa
