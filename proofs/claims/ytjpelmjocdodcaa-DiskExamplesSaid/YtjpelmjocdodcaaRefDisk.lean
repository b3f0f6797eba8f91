/- sacristanref04: what each call returns and leaves. -/
import Derived.Test.YtjpelmjocdodcaaRefFuse
import Derived.Test.YtjpelmjocdodcaaDiskCrash
import Derived.Test.YtjpelmjocdodcaaLab
import Derived.Test.YtjpelmjocdodcaaZeros
namespace Go.Proofs.Ytjpelmjocdodcaa
open Go.RowKit Go.ChangeMaps

def rdStrs (l : List (List UInt8)) : List Value := l.map fun s => .string (S s)
theorem rstrs_length (l : List (List UInt8)) : (rdStrs l).length = l.length := List.length_map ..
/-- Block r is the reference's disk D, with its fuse g, its sectors sb and its pending writes pv. -/
structure RefAt (w : World) (r g sb : Nat) (pv : Value) (D : Dk) : Prop where
  blk : w.heap[r]? = some (.cells #[.slice (some ⟨sb, 0, none⟩) D.S.length D.S.length, pv, .pointer (some ⟨g, 0, none⟩), .bool D.full] 123 (0, 0))
  sec : w.heap[sb]? = some (.cells (rdStrs D.S).toArray 9 (0, 0))
  row : w.ownsRow 0 135 2 pv D.P.length (wcells D.P)
  ok : D.Ok
  rs : r ≠ sb
  rg : r ≠ g
  sg : sb ≠ g
  pn : ∀ k, pv.ownBlock = some k → k ≠ r ∧ k ≠ sb ∧ k ≠ g
/-- The blocks of the reference's disk. -/
def ROwn (r g sb : Nat) (pv : Value) (k : Nat) : Prop := k = r ∨ k = g ∨ k = sb ∨ pv.ownBlock = some k
theorem RefAt.keeps {w w' : World} {r g sb : Nat} {pv : Value} {D : Dk} {S : Nat → Prop} (h : RefAt w r g sb pv D) (k : Keeps S w w') (h1 : ¬ S r) (h2 : ¬ S sb) (h3 : ∀ k, pv.ownBlock = some k → ¬ S k) : RefAt w' r g sb pv D :=
  ⟨(k.block r (Array.getElem?_eq_some_iff.1 h.blk).1 h1).trans h.blk, (k.block sb (Array.getElem?_eq_some_iff.1 h.sec).1 h2).trans h.sec, row_keeps h.row k h3, h.ok, h.rs, h.rg, h.sg, h.pn⟩
theorem RefAt.below {w w' : World} {r g sb : Nat} {pv : Value} {D : Dk} (h : RefAt w r g sb pv D) (b : Below w.heap.size w w') : RefAt w' r g sb pv D := h.keeps (S := fun _ => False) (.of_below b) id id (fun _ _ => id)
theorem RefAt.sec_at {w : World} {r g sb : Nat} {pv : Value} {D : Dk} (h : RefAt w r g sb pv D) {i : Nat} (hi : i < D.S.length) : w.cell? ⟨sb, i, none⟩ = some (.string (S (secAt D.S i))) := by
  rw [cell_of h.sec, List.getElem?_toArray]
  unfold rdStrs secAt
  rw [List.getElem?_map, List.getD_eq_getElem?_getD, List.getElem?_eq_getElem hi]
  rfl
theorem make_zeros' (w : World) (n : Nat) (hn : n ≤ 1000) : ∃ w3, Below w.heap.size w w3 ∧ (Instr.makeSlice 83 (.int .i64 n) (.int .i64 n)).run Try.prog w = .ok (.slice (some ⟨w.heap.size, 0, none⟩) n n) w3 ∧
    (convert 83 9 (.slice (some ⟨w.heap.size, 0, none⟩) n n)).run Try.prog w3 = .ok (.string (S (List.replicate n 0))) w3 := by
  have hcv := run_convert_bytes_arg (P := Try.prog) (w.alloc (.cells (madeCells #[.int .u8 0] n) 5)) 83 5 Try.underlying83 Try.underlying5 w.heap.size 0 n n (numsOf (List.replicate n 0)) (by rw [numsOf_length, List.length_replicate])
    (fun j hj => by rw [Nat.zero_add, World.cell?_alloc_new]; simp [madeCells, numsOf, hj, List.getD_eq_getElem?_getD, Nat.mod_one]) 9 Try.underlying9
  rw [strOfNums_numsOf] at hcv
  exact ⟨_, alloc_below _ _, run_make_row' (P := Try.prog) 83 5 (.int .u8 0) (bytes := 1) Try.underlying83 (by kernel_rfl) rfl .i64 .i64 n (by omega) (by omega) w, hcv⟩
set_option maxRecDepth 100000 in
set_option maxHeartbeats 800000 in
theorem rdzeros_any (w : World) : Calls Try.prog 29 #[] w fun e w' => e = .returned (.string (S Z80)) ∧ Below w.heap.size w w' := by
  obtain ⟨w3, b3, hmk, hcv⟩ := make_zeros' w 80 (by omega)
  replace hmk : (Instr.makeSlice 83 (.int .i64 80) (.int .i64 80)).run Try.prog w = .ok (.slice (some ⟨w.heap.size, 0, none⟩) 80 80) w3 := hmk
  replace hcv : (convert 83 9 (.slice (some ⟨w.heap.size, 0, none⟩) 80 80)).run Try.prog w3 = .ok (.string (S (List.replicate 80 0))) w3 := hcv
  go_enter Try.func29, Try.ntmps29
  go_wp2
  go_ret
  exact ⟨rfl, b3⟩
theorem keep3f {W w' : World} {x y : Addr} {u v : Value} (h : W.cell? x = some u ∧ W.cell? y = some v ∧ W.frozen? y = false) (b : Below W.heap.size W w') : w'.cell? x = some u ∧ w'.cell? y = some v ∧ w'.frozen? y = false :=
  ⟨below_cell b h.1, below_cell b h.2.1, (b.frozen (World.block_lt_of_cell? _ _ h.2.1)).trans h.2.2⟩
/-- What a cell holds, by name only: for a cell that a region reads ahead of its own store. -/
def valAt (w : World) (y : Addr) : Value := (w.cell? y).getD undef
theorem valAt_of {w : World} {y : Addr} {v : Value} (h : w.cell? y = some v) : w.cell? y = some (valAt w y) := by unfold valAt; rw [h]; rfl
theorem kv_below {W w' : World} {x y : Addr} {u : Value} (h : W.cell? x = some u ∧ W.cell? y = some (valAt W y) ∧ W.frozen? y = false) (b : Below W.heap.size W w') : w'.cell? x = some u ∧ w'.cell? y = some (valAt w' y) ∧ w'.frozen? y = false :=
  ⟨below_cell b h.1, valAt_of (below_cell b h.2.1), (b.frozen (World.block_lt_of_cell? _ _ h.2.1)).trans h.2.2⟩
theorem kv_store {W : World} {x y : Addr} {u : Value} (h : W.cell? x = some u ∧ W.cell? y = some (valAt W y) ∧ W.frozen? y = false) (hxy : y ≠ x) (v : Value) : (W.setCell y v).cell? x = some u ∧ (W.setCell y v).cell? y = some (valAt (W.setCell y v) y) ∧ (W.setCell y v).frozen? y = false :=
  ⟨(World.cell?_setCell_other _ _ _ _ hxy).trans h.1, valAt_of (World.cell?_setCell_same _ _ _ h.2.1), by rw [World.frozen?_setCell]; exact h.2.2⟩
theorem rstrs_of {A : Array Value} {n : Nat} (hs : A.size = n) (h : ∀ j, j < n → A[j]? = some (.string (S Z80))) : A = (rdStrs (List.replicate n Z80)).toArray := by
  apply Array.ext
  · simp [rdStrs, hs]
  · intro i h1 h2
    have h3 := h i (by omega)
    rw [Array.getElem?_eq_getElem h1] at h3
    simp [rdStrs]
    exact Option.some.inj h3
set_option maxRecDepth 100000 in
set_option maxHeartbeats 4000000 in
theorem rdnew_ok (n g : Nat) (w : World) (h1 : 1 ≤ n) (h2 : n ≤ 1000) (hg : g < w.heap.size) :
    Calls Try.prog 56 #[.int .i64 n, .pointer (some ⟨g, 0, none⟩)] w fun e w' =>
      e = .returned (.tuple #[.pointer (some ⟨w.heap.size + 1, 0, none⟩), .int .i64 0]) ∧ RefAt w' (w.heap.size + 1) g w.heap.size (.slice none 0 0) (Dk.new n) ∧ Below w.heap.size w w' := by
  have hmk := run_make_row' (P := Try.prog) 25 9 (.string ⟨#[]⟩) Try.underlying25 (bytes := 16) (by kernel_rfl) rfl .i64 .i64 n (by omega) (by omega) w
  have hn1 : (1 : Int) ≤ (n : Int) := by omega
  have hn2 : (n : Int) ≤ 1000 := by omega
  obtain ⟨C, hC⟩ : ∃ C, madeCells #[.string ⟨#[]⟩] n = C := ⟨_, rfl⟩
  have hCs : C.size = n := by rw [← hC]; simp [madeCells]
  rw [hC] at hmk
  obtain ⟨n0, n1, n2, n3⟩ := two_new w (.cells C 9) (.cells #[.slice (some ⟨w.heap.size, 0, none⟩) n n, .slice none 0 0, .pointer (some ⟨g, 0, none⟩), .bool false] 123)
  clear hC
  go_enter Try.func56, Try.ntmps56
  go_wp2_with (fail)
  generalize (w.alloc (.cells C 9)).alloc (.cells #[.slice (some ⟨w.heap.size, 0, none⟩) n n, .slice none 0 0, .pointer (some ⟨g, 0, none⟩), .bool false] 123) = W at n0 n1 n2 n3 ⊢
  have N0 := Lib.hid n0
  have N1 := Lib.hid n1
  have N3 := Lib.hid n3
  have HCS := Lib.hid hCs
  clear n0 n1 n2 n3 hCs hmk
  go_loopw [7] (fun v7 wr => ∃ i : Nat, i ≤ n ∧ v7 = .int .i64 i ∧ ∃ A : Array Value, Hid (A.size = n) ∧ Hid (∀ j, j < i → A[j]? = some (.string (S Z80))) ∧ Hid (wr.heap[w.heap.size]? = some (.cells A 9 (0, 0))) ∧
    Hid (wr.heap[w.heap.size + 1]? = some (.cells #[.slice (some ⟨w.heap.size, 0, none⟩) n n, .slice none 0 0, .pointer (some ⟨g, 0, none⟩), .bool false] 123 (0, 0))) ∧ Hid (Below w.heap.size w wr)) (fun v7 _ => n - (intOf v7).toNat)
  case atStart => exact ⟨0, Nat.zero_le _, rfl, C, HCS, fun j hj => absurd hj (by omega), N0, N1, N3⟩
  case round =>
    obtain ⟨i, hi, rfl, A, hs, ha, hA, hR, hB⟩ := hrel
    by_cases hlt : i < n
    · obtain ⟨v0, hv⟩ : ∃ v, A[i]? = some v := ⟨A[i]'(by rw [hs.out]; exact hlt), Array.getElem?_eq_getElem (by rw [hs.out]; exact hlt)⟩
      have K0 : Hid (wr.drew.cell? ⟨w.heap.size + 1, 0, none⟩ = some (.slice (some ⟨w.heap.size, 0, none⟩) n n) ∧ wr.drew.cell? ⟨w.heap.size, i, none⟩ = some (valAt wr.drew ⟨w.heap.size, i, none⟩) ∧ wr.drew.frozen? ⟨w.heap.size, i, none⟩ = false) :=
        ⟨(cell_of (w := wr.drew) hR.out 0).trans rfl, valAt_of ((cell_of (w := wr.drew) hA.out i).trans hv), free_of (w := wr.drew) hA.out i⟩
      have hxy : (⟨w.heap.size, i, none⟩ : Addr) ≠ ⟨w.heap.size + 1, 0, none⟩ := by simp
      have HXY := Lib.hid hxy
      clear hxy hv
      go_wp2_with (fail)
      refine wp_region_noPanic ?_
      go_region_held3 (fun w' => w'.cell? ⟨w.heap.size + 1, 0, none⟩ = some (.slice (some ⟨w.heap.size, 0, none⟩) n n) ∧ w'.cell? ⟨w.heap.size, i, none⟩ = some (valAt w' ⟨w.heap.size, i, none⟩) ∧ w'.frozen? ⟨w.heap.size, i, none⟩ = false) (first | exact K0.out | exact kv_below (by assumption) b3 | exact kv_store (by assumption) HXY.out _)
        (first | (go_at_call 29; refine (rdzeros_any _).mono ?_; rintro e w3 ⟨rfl, b3⟩))
      refine NoPanic.normal ?_
      have hsb : w.heap.size < wr.heap.size := (Array.getElem?_eq_some_iff.1 hA.out).1
      have hr1 : w.heap.size + 1 < wr.heap.size := (Array.getElem?_eq_some_iff.1 hR.out).1
      have hA3 := (b3.block _ hsb).trans hA.out
      have hR3 := (b3.block _ hr1).trans hR.out
      rw [setCell_block hA3 i (.string (S Z80))]
      have kk : Keeps (fun z => z = w.heap.size) w3 (setBlock w3 w.heap.size (.cells (A.setIfInBounds i (.string (S Z80))) 9 (0, 0))) := Keeps.setBlock (S := fun z => z = w.heap.size) (.refl _ _) (fun _ => rfl) _
      have HB4 := Lib.hid (kk.belowOf (below_step b3 hB.out.drew (Nat.le_refl _)) (Nat.le_trans hB.out.size b3.size) (fun z hz e => by omega))
      have HA4 := Lib.hid (setBlock_same (w := w3) (b := w.heap.size) (Array.getElem?_eq_some_iff.1 hA3).1 (.cells (A.setIfInBounds i (.string (S Z80))) 9 (0, 0)))
      have HR4 := Lib.hid ((kk.block _ (Array.getElem?_eq_some_iff.1 hR3).1 (by omega)).trans hR3)
      have HS4 : Hid ((A.setIfInBounds i (.string (S Z80))).size = n) := by unfold Hid; rw [Array.size_setIfInBounds]; exact hs.out
      have HV4 : Hid (∀ j, j < i + 1 → (A.setIfInBounds i (.string (S Z80)))[j]? = some (.string (S Z80))) := fun j hj => by
        by_cases e : i = j
        · subst e
          rw [Array.getElem?_setIfInBounds_self_of_lt (by rw [hs.out]; exact hlt)]
        · rw [Array.getElem?_setIfInBounds_ne e]
          exact ha.out j (by omega)
      generalize setBlock w3 w.heap.size (.cells (A.setIfInBounds i (.string (S Z80))) 9 (0, 0)) = W4 at HB4 HA4 HR4 ⊢
      generalize A.setIfInBounds i (.string (S Z80)) = A4 at HA4 HS4 HV4
      clear kk hA3 hR3 b3 hA hR hB ha hs K0 HXY
      go_wp2_with (fail)
      go_roundw
      case rel => exact ⟨i + 1, by omega, by go_num, A4, HS4, HV4, HA4, HR4, HB4⟩
      case measure => simp [intOf]; omega
    · obtain rfl : i = n := by omega
      have HAA := Lib.hid (rstrs_of hs.out ha.out)
      go_wp2_with (fail)
      go_ret2
      refine ⟨rfl, ⟨?_, ?_, World.ownsRow_nil _ _ _ _, Dk.new_ok (by omega) (by omega), by omega, by omega, by omega, fun k hk => by simp [Value.ownBlock] at hk⟩, hB.out⟩
      · rw [show (Dk.new i).S.length = i by simp [Dk.new]]
        exact hR.out
      · rw [show (Dk.new i).S = List.replicate i Z80 from rfl, ← HAA.out]
        exact hA.out
end Go.Proofs.Ytjpelmjocdodcaa
