/- sacristanlaw07.known returns true. -/
import Derived.Test.YtgnhpbolmfbngaaSlots
import Derived.Test.YtgnhpbolmfbngaaCrashOne
namespace Go.Proofs.Ytgnhpbolmfbngaa
open Go.RowKit Go.ChangeMaps

theorem results_cell1 {P : Program} {fn : Func} {t : Tmp} {T : TypeId} (h : fn.results = #[.cell t T]) (tmps : Array Value) (w : World) (b : Nat) (cs : Array Value) (ty : TypeId) (fr : Nat × Nat) (hx : tmps.getD t undef = .pointer (some ⟨b, 0, none⟩))
    (hb : w.heap[b]? = some (.cells cs ty fr)) (d : TypeDesc) (hu : P.underlying T = some d) (hd : (match d with | .struct _ | .array _ _ => true | _ => false) = true) (hi : (P.info? T).map (·.size) = some cs.size) :
    (results fn tmps).run P w = .ok (.agg cs) w := by
  have hl : (loadVar T ⟨b, 0, none⟩).run P w = .ok (.agg cs) w := run_loadVar_row (P := P) w b ty T cs fr d hb hu hd hi
  have hx' : tmps[t]?.getD undef = .pointer (some ⟨b, 0, none⟩) := by simpa using hx
  simp [results, h, hx', asAddr, hl]
set_option maxHeartbeats 400000 in
theorem head_any (seq boot : Int) (w : World) : Calls Try.prog 30 #[.int .i64 seq, .int .i64 boot] w fun e w' => e = .returned (hval seq boot 0 1 0) ∧ Below w.heap.size w w' := by
  have m1 := alloc_new w (.cells #[.int .i64 0, .int .i64 0, .int .i64 0, .int .i64 0, .int .i64 0] 40)
  have M1 := Lib.hid m1
  have M2 := Lib.hid (alloc_below w (.cells #[.int .i64 0, .int .i64 0, .int .i64 0, .int .i64 0, .int .i64 0] 40))
  clear m1
  go_enter Try.func30, Try.ntmps30
  go_wp2_with (refine wpList_store_block rfl 40 _ _ rfl w.heap.size #[.int .i64 seq, .int .i64 boot, .int .i64 0, .int .i64 1, .int .i64 0] rfl rfl 40 _ M1.out (by kernel_rfl) rfl (by simp [Value.oneCell']) ?_)
  exact bodyPost_ret (results_cell1 rfl _ _ w.heap.size _ 40 (0, 0) rfl (setBlock_same (Array.getElem?_eq_some_iff.1 M1.out).1 _) _ Try.underlying40 rfl (by kernel_rfl)) rfl ⟨rfl, (Keeps.setBlock (S := fun x => x = w.heap.size) (.refl _ _) (fun _ => rfl) _).belowOf M2.out M2.out.size (fun x hx e => by omega)⟩
theorem hd_zero : hdecodeOf Z80 = none := by
  unfold hdecodeOf
  rw [if_neg]
  rintro ⟨_, h, _⟩
  have h0 : (hfieldsOf Z80).seq = 0 := by kernel_rfl
  have h1 := h.1
  omega
theorem hdAt_some {D : Dk} {i : Nat} {b : Hd} (h : D.read i = b.sec) (ok : b.Ok) (hi : b.seq % 2 = i) : hdAt D i = some b := by
  unfold hdAt
  rw [h, hdecodeOf_sec ok]
  dsimp only
  rw [if_pos hi]
theorem hdAt_none {D : Dk} {i : Nat} (h : hdecodeOf (D.read i) = none) : hdAt D i = none := by
  unfold hdAt
  rw [h]
/-- What is read at a sector behind Save, when the disk is not dead. -/
theorem read_saved {D : Dk} {b : Hd} {i : Nat} (hi : i < D.S.length) : (D.write (b.seq % 2) b.sec).sync.read i = if b.seq % 2 = i then b.sec else D.read i := by
  rw [sync_read (by exact hi)]
  show lastOf i (D.P ++ [(b.seq % 2, b.sec)]) (secAt D.S i) = _
  rw [lastOf_append]
  rfl
set_option maxRecDepth 100000 in
set_option maxHeartbeats 1600000 in
theorem known07_any (w : World) : Calls Try.prog 19 #[] w fun e w' => e = .returned (.bool true) ∧ Below w.heap.size w w' := by
  go_enter Try.func19, Try.ntmps19
  go_wp2_with (fail)
  refine (fnew_any w).mono ?_
  rintro e w1 ⟨rfl, hw1⟩
  have hs1 : w1.heap.size = w.heap.size + 1 := by rw [hw1]; exact alloc_size _ _
  have HS1 := Lib.hid hs1
  have HW1 := Lib.hid hw1
  clear hs1 hw1
  go_wp2_with (fail)
  refine (dnew_ok 3 w.heap.size w1 (by omega) (by omega) (by have := HS1.out; omega)).mono ?_
  rintro e w2 ⟨rfl, hd, hb⟩
  obtain ⟨h2, F2, B2⟩ := Lab.new HW1.out hd hb
  obtain ⟨d, hdd⟩ : ∃ d, w1.heap.size + 1 = d := ⟨_, rfl⟩
  obtain ⟨m, hmm⟩ : ∃ m, w1.heap.size = m := ⟨_, rfl⟩
  rw [hdd] at h2 F2 ⊢
  rw [hmm] at h2 F2
  have H2 := Lib.hid h2
  have HB2 := Lib.hid B2
  clear hd hb hdd hmm h2 B2 HW1
  have HB : Hid ((⟨4, 2, 0, 1, 0⟩ : Hd).Ok) := by unfold Hid; decide
  go_wp2_with (fail)
  refine (head_any 4 2 w2).mono ?_
  rintro e w3 ⟨rfl, b3⟩
  have H3 := Lib.hid (H2.out.below b3)
  have HB3 := Lib.hid (below_step b3 HB2.out (Nat.le_refl _))
  clear b3 H2 HB2
  unfold hval
  go_wp2_with (fail)
  refine (sSave_ok d _ m _ _ _ (⟨4, 2, 0, 1, 0⟩ : Hd) w3 HB.out (by show 2 ≤ 3; omega) H3.out.disk H3.out.fuse (by show 0 ≤ 999999; omega)).mono ?_
  rw [show saveD (Dk.new 3) .idle (⟨4, 2, 0, 1, 0⟩ : Hd) = (0, ((Dk.new 3).write 0 (⟨4, 2, 0, 1, 0⟩ : Hd).sec).sync, .idle) from rfl]
  rintro e w4 ⟨rfl, ha⟩
  obtain ⟨v4, h4, k4, n4⟩ := ha.lab
  have HB4 := Lib.hid (F2.below HB3.out HB3.out.size k4)
  have H4 := Lib.hid h4
  clear ha h4 k4 n4 H3
  have HLV : Hid (loadVal ((Dk.new 3).write 0 (⟨4, 2, 0, 1, 0⟩ : Hd).sec).sync = .tuple #[hval 4 2 0 1 0, .int .i64 0]) := by
    have e0 : hdAt ((Dk.new 3).write 0 (⟨4, 2, 0, 1, 0⟩ : Hd).sec).sync 0 = some ⟨4, 2, 0, 1, 0⟩ := hdAt_some ((read_saved (D := Dk.new 3) (b := ⟨4, 2, 0, 1, 0⟩) (i := 0) (by show 0 < 3; omega)).trans (if_pos rfl)) HB.out rfl
    have e1 : hdAt ((Dk.new 3).write 0 (⟨4, 2, 0, 1, 0⟩ : Hd).sec).sync 1 = none := hdAt_none (by
      have h : ((Dk.new 3).write 0 (⟨4, 2, 0, 1, 0⟩ : Hd).sec).sync.read 1 = Z80 := (read_saved (D := Dk.new 3) (b := ⟨4, 2, 0, 1, 0⟩) (i := 1) (by show 1 < 3; omega)).trans (if_neg (by decide))
      rw [h]
      exact hd_zero)
    have en : newest ((Dk.new 3).write 0 (⟨4, 2, 0, 1, 0⟩ : Hd).sec).sync = some ⟨4, 2, 0, 1, 0⟩ := by
      unfold newest
      rw [e0, e1]
      rfl
    unfold Hid loadVal
    rw [en]
    rfl
  go_wp2_with (fail)
  refine (sLoad_any d _ m v4 _ _ w4 (by show 2 ≤ 3; omega) H4.out.disk H4.out.fuse rfl).mono ?_
  rw [HLV.out]
  rintro e w5 ⟨rfl, b5⟩
  have HB5 := Lib.hid (below_step b5 HB4.out (Nat.le_refl _))
  have q5 := alloc_new w5 (.cells #[.int .i64 4, .int .i64 2, .int .i64 0, .int .i64 1, .int .i64 0] 40)
  have p5 := alloc_below w5 (.cells #[.int .i64 4, .int .i64 2, .int .i64 0, .int .i64 1, .int .i64 0] 40)
  have s5 := alloc_size w5 (.cells #[.int .i64 4, .int .i64 2, .int .i64 0, .int .i64 1, .int .i64 0] 40)
  clear b5 HLV
  unfold hval
  go_wp2_with (fail)
  generalize w5.alloc (.cells #[.int .i64 4, .int .i64 2, .int .i64 0, .int .i64 1, .int .i64 0] 40) = X at q5 p5 s5 ⊢
  have c0 : X.cell? ⟨w5.heap.size, 0, none⟩ = some (.int .i64 4) := (cell_of q5 0).trans rfl
  have c1 : X.cell? ⟨w5.heap.size, 1, none⟩ = some (.int .i64 2) := (cell_of q5 1).trans rfl
  have c2 : X.cell? ⟨w5.heap.size, 2, none⟩ = some (.int .i64 0) := (cell_of q5 2).trans rfl
  have c3 : X.cell? ⟨w5.heap.size, 3, none⟩ = some (.int .i64 1) := (cell_of q5 3).trans rfl
  have c4 : X.cell? ⟨w5.heap.size, 4, none⟩ = some (.int .i64 0) := (cell_of q5 4).trans rfl
  have HBX := Lib.hid (below_step p5 HB5.out (Nat.le_refl _))
  have hs1 : w5.heap.size + 1 ≤ X.heap.size := Nat.le_of_eq s5.symm
  clear q5 p5 s5
  go_region_held3 (fun w' => Below (w5.heap.size + 1) X w' ∧ w'.cell? ⟨w5.heap.size, 0, none⟩ = some (.int .i64 4) ∧ w'.cell? ⟨w5.heap.size, 1, none⟩ = some (.int .i64 2) ∧ w'.cell? ⟨w5.heap.size, 2, none⟩ = some (.int .i64 0) ∧ w'.cell? ⟨w5.heap.size, 3, none⟩ = some (.int .i64 1) ∧ w'.cell? ⟨w5.heap.size, 4, none⟩ = some (.int .i64 0)) (first | exact boxed5 (below_step (by assumption) (held5 (by assumption)) hs1) c0 c1 c2 c3 c4 | exact boxed5 (below_start _) c0 c1 c2 c3 c4 | exact boxed5 (Below.refl _ _).drew c0 c1 c2 c3 c4)
    (first | (go_at_call 30; refine (head_any 4 2 _).mono ?_; unfold hval; rintro e w' ⟨rfl, hb⟩))
  rename_i hheld
  have hB := hheld.1
  have HBF := Lib.hid (HBX.out.trans (hB.mono (by have := HB5.out.size; omega)))
  clear hheld hB hb c0 c1 c2 c3 c4
  go_wp2
  go_ret
  exact ⟨rfl, HBF.out⟩
end Go.Proofs.Ytgnhpbolmfbngaa
