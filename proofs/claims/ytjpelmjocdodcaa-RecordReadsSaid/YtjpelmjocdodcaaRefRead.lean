/- What sacristanref06.Read asks, and that it is what record.Read asks. sacristanref06.Read. -/
import Derived.Test.YtjpelmjocdodcaaRecLaw
import Derived.Test.YtjpelmjocdodcaaRead
import Derived.Test.YtjpelmjocdodcaaRefRW
import Derived.Test.YtjpelmjocdodcaaRefWrite
import Derived.Test.YtjpelmjocdodcaaFRDecode
import Derived.Test.YtjpelmjocdodcaaRefSec
import Derived.Test.YtjpelmjocdodcaaRecWrite
namespace Go.Proofs.Ytjpelmjocdodcaa

theorem rr_head {rd : Nat → List UInt8} {A N : Nat} {lsn boot : Int} {f : Frm} (h0 : rdec rd A 0 = some f) (hb : (f.lsn : Int) ≠ lsn ∨ (f.boot : Int) < boot ∨ f.part ≠ 0 ∨ (N : Int) - A < f.parts) : recRead rd A N lsn boot = none := by
  cases hr : recRead rd A N lsn boot with
  | none => rfl
  | some r =>
    exfalso
    obtain ⟨i1, i2, i3, i4, i5, i6, i7, i8, i9⟩ := recRead_inv hr
    obtain ⟨ok, hs⟩ := rdec_ok h0
    have h1 := i9 0 (npart_pos _)
    rw [← hs] at h1
    have e := fsec_inj ok (recF_ok (by omega) i1 i2 (npart_pos _)) h1
    unfold ROk at i2
    have q1 : f.part = 0 := congrArg Frm.part e
    have q2 : f.lsn = (recF r.boot r.lsn r.kind r.data 0).lsn := congrArg Frm.lsn e
    have q3 : f.boot = (recF r.boot r.lsn r.kind r.data 0).boot := congrArg Frm.boot e
    rw [show (recF r.boot r.lsn r.kind r.data 0).lsn = (r.lsn : Int).toNat from rfl] at q2
    rw [show (recF r.boot r.lsn r.kind r.data 0).boot = (r.boot : Int).toNat from rfl] at q3
    have q4 : f.parts = npart r.data.length := congrArg Frm.parts e
    omega
theorem rr_secs {rd : Nat → List UInt8} {A N : Nat} {lsn boot : Int} {f : Frm} (h0 : rdec rd A 0 = some f) {L : List (List UInt8)} {er : Int} (hL : recSecs f.boot f.lsn f.kind (rdata rd A f.parts) = (L, er)) (hb : er ≠ 0 ∨ L.length ≠ f.parts) : recRead rd A N lsn boot = none := by
  refine recRead_bad h0 (fun hg => ?_)
  obtain ⟨-, g2, -, -, g5⟩ := hg
  rw [hL] at g2 g5
  have := congrArg List.length g5
  rw [rsecs_len] at this
  rcases hb with hb | hb
  · exact hb g2
  · exact hb this.symm
theorem rr_one {rd : Nat → List UInt8} {A N : Nat} {lsn boot : Int} {f : Frm} (h0 : rdec rd A 0 = some f) {L : List (List UInt8)} {er : Int} (hL : recSecs f.boot f.lsn f.kind (rdata rd A f.parts) = (L, er)) {i : Nat} (hi : i < f.parts) (hb : rd (A + i) ≠ L.getD i []) : recRead rd A N lsn boot = none := by
  refine recRead_bad h0 (fun hg => ?_)
  obtain ⟨-, -, -, -, g5⟩ := hg
  rw [hL] at g5
  dsimp only at g5
  refine hb ?_
  rw [← g5]
  unfold rsecs
  rw [List.getD_eq_getElem?_getD, List.getElem?_map, List.getElem?_range hi]
  rfl
theorem rr_good {rd : Nat → List UInt8} {A N : Nat} {lsn boot : Int} {f : Frm} (h0 : rdec rd A 0 = some f) (h1 : (f.lsn : Int) = lsn) (h2 : boot ≤ (f.boot : Int)) (h4 : (f.parts : Int) ≤ (N : Int) - A) {L : List (List UInt8)} (hL : recSecs f.boot f.lsn f.kind (rdata rd A f.parts) = (L, 0)) (hl : L.length = f.parts)
    (hs : ∀ i, i < f.parts → rd (A + i) = L.getD i []) : recRead rd A N lsn boot = some ⟨f.boot, f.lsn, f.part, f.parts, f.kind, rdata rd A f.parts⟩ := by
  have hsec : rsecs rd A f.parts = L := by
    refine List.ext_getElem? fun i => ?_
    by_cases hi : i < f.parts
    · unfold rsecs
      rw [List.getElem?_map, List.getElem?_range hi, List.getElem?_eq_getElem (by omega)]
      have := hs i hi
      rw [List.getD_eq_getElem?_getD, List.getElem?_eq_getElem (by omega)] at this
      exact congrArg some this
    · rw [List.getElem?_eq_none (by rw [rsecs_len]; omega), List.getElem?_eq_none (by omega)]
  refine recRead_good h0 ⟨fun i hi => ⟨by omega, ?_⟩, by rw [hL], h1, h2, by rw [hL]; exact hsec⟩
  have hlen : ¬ 4096 < (rdata rd A f.parts).length := fun h => by rw [recSecs_long h] at hL; simp at hL
  have ok := (rdec_ok h0).1
  unfold Frm.Ok at ok
  have hr : ROk f.boot f.lsn := by unfold ROk; omega
  rw [recSecs_ok (by omega) hr] at hL
  have hLe : (List.range (npart (rdata rd A f.parts).length)).map (fun k => (recF f.boot f.lsn f.kind (rdata rd A f.parts) k).sec) = L := congrArg Prod.fst hL
  have hn : npart (rdata rd A f.parts).length = f.parts := by have := congrArg List.length hLe; rw [List.length_map, List.length_range] at this; omega
  have h := hs i hi
  rw [← hLe, List.getD_eq_getElem?_getD, List.getElem?_map, List.getElem?_range (by omega)] at h
  unfold rdec
  rw [h]
  show (fdecodeOf (recF f.boot f.lsn f.kind (rdata rd A f.parts) i).sec).isSome = true
  rw [fdecodeOf_sec (recF_ok (by omega) (by omega) hr (by omega))]
  rfl
end Go.Proofs.Ytjpelmjocdodcaa
namespace Go.Proofs.Ytjpelmjocdodcaa
open Go.RowKit Go.ChangeMaps

theorem fdecVal_is (rd : Nat → List UInt8) (A i : Nat) : ∃ (c0 c1 c2 c3 c4 er : Int) (dd : List UInt8), fdecVal (rd (A + i)) = .tuple #[.agg #[.int .i64 c0, .int .i64 c1, .int .i64 c2, .int .i64 c3, .int .u8 c4, .string (S dd)], .int .i64 er] ∧ rdata rd A (i + 1) = rdata rd A i ++ dd ∧ dd.length ≤ 44 := by
  cases h : rdec rd A i with
  | none =>
    refine ⟨0, 0, 0, 0, 0, 12, [], fdecVal_none h, ?_, Nat.zero_le _⟩
    show rdata rd A i ++ _ = _
    rw [h]
  | some f =>
    refine ⟨f.boot, f.lsn, f.part, f.parts, f.kind, 0, f.data, fdecVal_some h, rdata_succ h, ?_⟩
    have := (rdec_ok h).1
    unfold Frm.Ok at this
    omega
set_option maxRecDepth 100000 in
set_option maxHeartbeats 4000000 in
theorem rread_range (r g sb : Nat) (pv : Value) (D : Dk) (a n lsn boot : Int) (w : World) (h : RefAt w r g sb pv D) (hr : a < 0 ∨ n < a ∨ (D.S.length : Int) < n) :
    Calls Try.prog 49 #[.pointer (some ⟨r, 0, none⟩), .int .i64 a, .int .i64 n, .int .i64 lsn, .int .i64 boot] w fun e w' => e = .returned (.tuple #[zfrm, .int .i64 3]) ∧ Below w.heap.size w w' := by
  have n0 := alloc_new w (.cells zcells 77)
  have b0 := alloc_below w (.cells zcells 77)
  have c0 := (h.below b0).c0
  have B0 := Lib.hid b0
  have N0 := Lib.hid n0
  clear n0 b0 h
  by_cases h1 : a < 0
  · clear hr
    go_enter Try.func49, Try.ntmps49
    go_wp2_with (refine wpList_store_block rfl 77 _ _ rfl w.heap.size zcells rfl rfl 77 zcells N0.out (by kernel_rfl) rfl (by simp [Value.oneCell']) ?_)
    exact bodyPost_ret (results_cell2 rfl _ _ w.heap.size _ 77 (0, 0) rfl (setBlock_same (Array.getElem?_eq_some_iff.1 N0.out).1 _) _ Try.underlying77 rfl (by kernel_rfl)) rfl ⟨rfl, (Keeps.setBlock (S := fun x => x = w.heap.size) (.refl _ _) (fun _ => rfl) _).belowOf B0.out B0.out.size (fun x hx e => by omega)⟩
  · by_cases h2 : n < a
    · clear hr
      go_enter Try.func49, Try.ntmps49
      go_wp2_with (refine wpList_store_block rfl 77 _ _ rfl w.heap.size zcells rfl rfl 77 zcells N0.out (by kernel_rfl) rfl (by simp [Value.oneCell']) ?_)
      exact bodyPost_ret (results_cell2 rfl _ _ w.heap.size _ 77 (0, 0) rfl (setBlock_same (Array.getElem?_eq_some_iff.1 N0.out).1 _) _ Try.underlying77 rfl (by kernel_rfl)) rfl ⟨rfl, (Keeps.setBlock (S := fun x => x = w.heap.size) (.refl _ _) (fun _ => rfl) _).belowOf B0.out B0.out.size (fun x hx e => by omega)⟩
    · have h3 : (D.S.length : Int) < n := by omega
      clear hr
      go_enter Try.func49, Try.ntmps49
      go_wp2_with (refine wpList_store_block rfl 77 _ _ rfl w.heap.size zcells rfl rfl 77 zcells N0.out (by kernel_rfl) rfl (by simp [Value.oneCell']) ?_)
      exact bodyPost_ret (results_cell2 rfl _ _ w.heap.size _ 77 (0, 0) rfl (setBlock_same (Array.getElem?_eq_some_iff.1 N0.out).1 _) _ Try.underlying77 rfl (by kernel_rfl)) rfl ⟨rfl, (Keeps.setBlock (S := fun x => x = w.heap.size) (.refl _ _) (fun _ => rfl) _).belowOf B0.out B0.out.size (fun x hx e => by omega)⟩
set_option maxRecDepth 100000 in
set_option maxHeartbeats 4000000 in
theorem rread_dead (r g sb : Nat) (pv : Value) (D : Dk) (z : Fz) (a n lsn boot : Int) (w : World) (h : RefAt w r g sb pv D) (hz : RFzAt w g z) (h1 : ¬ a < 0) (h2 : ¬ n < a) (h3 : ¬ (D.S.length : Int) < n) (hd : z.dead = true) :
    Calls Try.prog 49 #[.pointer (some ⟨r, 0, none⟩), .int .i64 a, .int .i64 n, .int .i64 lsn, .int .i64 boot] w fun e w' => e = .returned (.tuple #[zfrm, .int .i64 10]) ∧ Below w.heap.size w w' := by
  have n0 := alloc_new w (.cells zcells 77)
  have b0 := alloc_below w (.cells zcells 77)
  have c0 := (h.below b0).c0
  have c2 := (h.below b0).c2
  have d1 : (w.alloc (.cells zcells 77)).cell? ⟨g, 1, none⟩ = some (.bool z.dead) := (cell_of (hz.below b0).1 1).trans rfl
  rw [hd] at d1
  have B0 := Lib.hid b0
  have N0 := Lib.hid n0
  clear n0 b0 h hz
  go_enter Try.func49, Try.ntmps49
  go_wp2_with (refine wpList_store_block rfl 77 _ _ rfl w.heap.size zcells rfl rfl 77 zcells N0.out (by kernel_rfl) rfl (by simp [Value.oneCell']) ?_)
  exact bodyPost_ret (results_cell2 rfl _ _ w.heap.size _ 77 (0, 0) rfl (setBlock_same (Array.getElem?_eq_some_iff.1 N0.out).1 _) _ Try.underlying77 rfl (by kernel_rfl)) rfl ⟨rfl, (Keeps.setBlock (S := fun x => x = w.heap.size) (.refl _ _) (fun _ => rfl) _).belowOf B0.out B0.out.size (fun x hx e => by omega)⟩
set_option maxRecDepth 100000 in
set_option maxHeartbeats 4000000 in
theorem rread_end (r g sb : Nat) (pv : Value) (D : Dk) (z : Fz) (a lsn boot : Int) (w : World) (h : RefAt w r g sb pv D) (hz : RFzAt w g z) (h1 : ¬ a < 0) (h3 : ¬ (D.S.length : Int) < a) (hd : z.dead = false) :
    Calls Try.prog 49 #[.pointer (some ⟨r, 0, none⟩), .int .i64 a, .int .i64 a, .int .i64 lsn, .int .i64 boot] w fun e w' => e = .returned (.tuple #[zfrm, .int .i64 12]) ∧ Below w.heap.size w w' := by
  have n0 := alloc_new w (.cells zcells 77)
  have b0 := alloc_below w (.cells zcells 77)
  have c0 := (h.below b0).c0
  have c2 := (h.below b0).c2
  have d1 : (w.alloc (.cells zcells 77)).cell? ⟨g, 1, none⟩ = some (.bool z.dead) := (cell_of (hz.below b0).1 1).trans rfl
  rw [hd] at d1
  have B0 := Lib.hid b0
  have N0 := Lib.hid n0
  have h2 : ¬ a < a := by omega
  clear n0 b0 h hz
  go_enter Try.func49, Try.ntmps49
  go_wp2_with (refine wpList_store_block rfl 77 _ _ rfl w.heap.size zcells rfl rfl 77 zcells N0.out (by kernel_rfl) rfl (by simp [Value.oneCell']) ?_)
  exact bodyPost_ret (results_cell2 rfl _ _ w.heap.size _ 77 (0, 0) rfl (setBlock_same (Array.getElem?_eq_some_iff.1 N0.out).1 _) _ Try.underlying77 rfl (by kernel_rfl)) rfl ⟨rfl, (Keeps.setBlock (S := fun x => x = w.heap.size) (.refl _ _) (fun _ => rfl) _).belowOf B0.out B0.out.size (fun x hx e => by omega)⟩
set_option maxRecDepth 100000 in
set_option maxHeartbeats 8000000 in
theorem rread_go (r g sb : Nat) (pv : Value) (D : Dk) (z : Fz) (A N : Nat) (lsn boot : Int) (w : World) (h : RefAt w r g sb pv D) (hz : RFzAt w g z) (h1 : A < N) (h2 : N ≤ D.S.length) (hd : z.dead = false) :
    Calls Try.prog 49 #[.pointer (some ⟨r, 0, none⟩), .int .i64 A, .int .i64 N, .int .i64 lsn, .int .i64 boot] w fun e w' => e = .returned (recVal (recRead D.read A N lsn boot)) ∧ Below w.heap.size w w' := by
  have n0 := alloc_new w (.cells zcells 77)
  have b0 := alloc_below w (.cells zcells 77)
  have hok := h.ok
  unfold Dk.Ok at hok
  obtain ⟨hl1, hl2, -, -⟩ := hok
  have HRD : Hid (∀ (i : Nat) (W : World), i < D.S.length → Below w.heap.size w W → Calls Try.prog 59 #[.pointer (some ⟨r, 0, none⟩), .int .i64 (i : Int)] W fun e w' => e = .returned (.tuple #[.string (S (D.read i)), .int .i64 0]) ∧ w' = W) := fun i W hi hW => by
    have hr := rdread_any r g sb pv D z i W (h.below hW) (hz.below hW)
    have he : doRead D z i = (D.read i, 0) := by
      unfold doRead
      rw [if_pos (by unfold hasE; rw [if_pos (by omega)]), if_neg (by rw [hd]; decide), Int.toNat_natCast]
    rw [he] at hr
    exact hr
  have c0 := (h.below b0).c0
  have c2 := (h.below b0).c2
  have d1 : (w.alloc (.cells zcells 77)).cell? ⟨g, 1, none⟩ = some (.bool z.dead) := (cell_of (hz.below b0).1 1).trans rfl
  rw [hd] at d1
  have B0 := Lib.hid b0
  have N0 := Lib.hid n0
  have hAi : (A:Int) ≤ 65536 := by omega
  have hNi : (N:Int) ≤ 65536 := by omega
  have g1 : ¬ (A:Int) < 0 := by omega
  have g2 : ¬ (N:Int) < (A:Int) := by omega
  have g3 : ¬ (D.S.length:Int) < (N:Int) := by omega
  have g4 : ¬ (A:Int) = (N:Int) := by omega
  have hAN : A < N := h1
  have hNL : N ≤ D.S.length := h2
  have HAL := Lib.hid (show A < D.S.length by omega)
  clear n0 b0 h hz hd hl1 hl2 h1 h2
  go_enter Try.func49, Try.ntmps49
  go_wp2_with (fail)
  refine (HRD.out A _ HAL.out B0.out).mono ?_
  rintro e w1 ⟨rfl, rfl⟩
  clear c0 c2 d1 g1 g3 g4
  go_wp2_with (fail)
  have hdc := frDecode_any (D.read A) (w.alloc (.cells zcells 77))
  cases hdec : fdecodeOf (D.read A) with
  | none =>
    have hbad := Lib.hid (recRead_first (rd := D.read) (a := A) (n := N) (lsn := lsn) (boot := boot) (fun h => by have h := h.2; unfold rdec at h; rw [Nat.add_zero, hdec] at h; simp at h))
    rw [fdecVal_none hdec] at hdc
    clear hdec
    refine hdc.mono ?_
    unfold zfrm
    rintro e w2 ⟨rfl, b2⟩
    have b3 := below_step (alloc_below w2 (.cells zcells 77)) b2 (Nat.le_refl _)
    have N3 := Lib.hid ((b3.block _ (Array.getElem?_eq_some_iff.1 N0.out).1).trans N0.out)
    have B3 := Lib.hid (below_step b3 B0.out (Nat.le_refl _))
    clear b2 b3 hdc N0 B0
    go_wp2_with (refine wpList_store_block rfl 77 _ _ rfl w.heap.size zcells rfl rfl 77 zcells N3.out (by kernel_rfl) rfl (by simp [Value.oneCell']) ?_)
    exact bodyPost_ret (results_cell2 rfl _ _ w.heap.size _ 77 (0, 0) rfl (setBlock_same (Array.getElem?_eq_some_iff.1 N3.out).1 _) _ Try.underlying77 rfl (by kernel_rfl)) rfl ⟨by rw [hbad.out]; rfl, (Keeps.setBlock (S := fun x => x = w.heap.size) (.refl _ _) (fun _ => rfl) _).belowOf B3.out B3.out.size (fun x hx e => by omega)⟩
  | some fr =>
    have h0 : rdec D.read A 0 = some fr := hdec
    rw [fdecVal_some hdec] at hdc
    obtain ⟨fb, fl, fp, fn, fk, fd⟩ := fr
    have hok := (rdec_ok h0).1
    unfold Frm.Ok at hok
    obtain ⟨k1, k2, k3, k4, k5, k6, k7, k8⟩ := hok
    dsimp only at k1 k2 k3 k4 k5 k6 k7 k8
    have H0 := Lib.hid h0
    clear hdec h0
    refine hdc.mono ?_
    unfold Frm.val
    dsimp only
    rintro e w2 ⟨rfl, b2⟩
    have n3 := alloc_new w2 (.cells #[.int .i64 fb, .int .i64 fl, .int .i64 fp, .int .i64 fn, .int .u8 fk, .string (S fd)] 77)
    have b3 := below_step (alloc_below w2 (.cells #[.int .i64 fb, .int .i64 fl, .int .i64 fp, .int .i64 fn, .int .u8 fk, .string (S fd)] 77)) b2 (Nat.le_refl _)
    have N3 := Lib.hid ((b3.block _ (Array.getElem?_eq_some_iff.1 N0.out).1).trans N0.out)
    have B3 := Lib.hid (below_step b3 B0.out (Nat.le_refl _))
    have HNE : Hid (w.heap.size < w2.heap.size) := by have := b2.size; rw [alloc_size] at this; exact this
    have F3 := Lib.hid n3
    have x0 := (cell_of n3 0).trans rfl
    have x1 := (cell_of n3 1).trans rfl
    have x2 := (cell_of n3 2).trans rfl
    have x3 := (cell_of n3 3).trans rfl
    have x5 := (cell_of n3 5).trans rfl
    clear b2 b3 n3 hdc N0 B0
    by_cases q1 : (fl : Int) = lsn
    case neg =>
      have hbad := Lib.hid (rr_head (N := N) (boot := boot) H0.out (.inl q1))
      go_wp2_with (refine wpList_store_block rfl 77 _ _ rfl w.heap.size zcells rfl rfl 77 zcells N3.out (by kernel_rfl) rfl (by simp [Value.oneCell']) ?_)
      exact bodyPost_ret (results_cell2 rfl _ _ w.heap.size _ 77 (0, 0) rfl (setBlock_same (Array.getElem?_eq_some_iff.1 N3.out).1 _) _ Try.underlying77 rfl (by kernel_rfl)) rfl ⟨by rw [hbad.out]; rfl, (Keeps.setBlock (S := fun x => x = w.heap.size) (.refl _ _) (fun _ => rfl) _).belowOf B3.out B3.out.size (fun x hx e => by omega)⟩
    by_cases q2 : (fb : Int) < boot
    case pos =>
      have hbad := Lib.hid (rr_head (N := N) (lsn := lsn) H0.out (.inr (.inl q2)))
      subst q1
      go_wp2_with (refine wpList_store_block rfl 77 _ _ rfl w.heap.size zcells rfl rfl 77 zcells N3.out (by kernel_rfl) rfl (by simp [Value.oneCell']) ?_)
      exact bodyPost_ret (results_cell2 rfl _ _ w.heap.size _ 77 (0, 0) rfl (setBlock_same (Array.getElem?_eq_some_iff.1 N3.out).1 _) _ Try.underlying77 rfl (by kernel_rfl)) rfl ⟨by rw [hbad.out]; rfl, (Keeps.setBlock (S := fun x => x = w.heap.size) (.refl _ _) (fun _ => rfl) _).belowOf B3.out B3.out.size (fun x hx e => by omega)⟩
    by_cases q3 : fp = 0
    case neg =>
      have hbad := Lib.hid (rr_head (N := N) (boot := boot) (lsn := lsn) H0.out (.inr (.inr (.inl q3))))
      have q3' : ¬ (fp : Int) = 0 := by omega
      subst q1
      go_wp2_with (refine wpList_store_block rfl 77 _ _ rfl w.heap.size zcells rfl rfl 77 zcells N3.out (by kernel_rfl) rfl (by simp [Value.oneCell']) ?_)
      exact bodyPost_ret (results_cell2 rfl _ _ w.heap.size _ 77 (0, 0) rfl (setBlock_same (Array.getElem?_eq_some_iff.1 N3.out).1 _) _ Try.underlying77 rfl (by kernel_rfl)) rfl ⟨by rw [hbad.out]; rfl, (Keeps.setBlock (S := fun x => x = w.heap.size) (.refl _ _) (fun _ => rfl) _).belowOf B3.out B3.out.size (fun x hx e => by omega)⟩
    by_cases q4 : (N : Int) - (A : Int) < (fn : Int)
    case pos =>
      have hbad := Lib.hid (rr_head (boot := boot) (lsn := lsn) H0.out (.inr (.inr (.inr q4))))
      subst q1
      subst q3
      go_wp2_with (refine wpList_store_block rfl 77 _ _ rfl w.heap.size zcells rfl rfl 77 zcells N3.out (by kernel_rfl) rfl (by simp [Value.oneCell']) ?_)
      exact bodyPost_ret (results_cell2 rfl _ _ w.heap.size _ 77 (0, 0) rfl (setBlock_same (Array.getElem?_eq_some_iff.1 N3.out).1 _) _ Try.underlying77 rfl (by kernel_rfl)) rfl ⟨by rw [hbad.out]; rfl, (Keeps.setBlock (S := fun x => x = w.heap.size) (.refl _ _) (fun _ => rfl) _).belowOf B3.out B3.out.size (fun x hx e => by omega)⟩
    have HQ1 : Hid (((fl : Nat) : Int) = lsn) := q1
    have HQ2 : Hid (boot ≤ (fb : Int)) := by unfold Hid; omega
    have HQ4 : Hid ((fn : Int) ≤ (N : Int) - (A : Int)) := by unfold Hid; omega
    subst q1
    subst q3
    have HR1 : Hid (rdata D.read A 1 = fd) := by
      unfold Hid
      rw [rdata_succ (k := 0) H0.out]
      rfl
    obtain ⟨bf, hbf⟩ : ∃ bf, w2.heap.size = bf := ⟨_, rfl⟩
    go_upto_region 13 with (fail)
    obtain ⟨w3, hw3⟩ : ∃ w3, w2.alloc (.cells #[.int .i64 fb, .int .i64 fl, .int .i64 0, .int .i64 fn, .int .u8 fk, .string (S fd)] 77) = w3 := ⟨_, rfl⟩
    rw [hw3]
    have HN : Hid (w3.heap[w.heap.size]? = some (Obj.cells zcells 77 (0, 0))) := by rw [← hw3]; exact N3.out
    have HF : Hid (w3.heap[bf]? = some (Obj.cells #[.int .i64 fb, .int .i64 fl, .int .i64 0, .int .i64 fn, .int .u8 fk, .string (S fd)] 77 (0, 0))) := by rw [← hw3, ← hbf]; exact F3.out
    have HB : Hid (Below w.heap.size w w3) := by rw [← hw3]; exact B3.out
    rw [hbf] at HNE
    have hnL : (fn : Int) ≤ 255 := by omega
    have hn1 : 1 ≤ fn := by omega
    have HNN : Hid (fn ≤ N - A) := by have := HQ4.out; unfold Hid; omega
    clear hw3 hbf N3 F3 B3 x0 x1 x2 x3 x5 q2 q4
    have x5 := (cell_of HF.out 5).trans rfl
    go_wp2_with (fail)
    clear x5
    go_loopw [16, 17] (fun v16 v17 wr => ∃ i : Nat, 1 ≤ i ∧ i ≤ fn ∧ v17 = .int .i64 i ∧ v16 = .string (S (rdata D.read A i)) ∧ Hid (wr.heap[w.heap.size]? = some (Obj.cells zcells 77 (0, 0))) ∧ Hid (wr.heap[bf]? = some (Obj.cells #[.int .i64 fb, .int .i64 fl, .int .i64 0, .int .i64 fn, .int .u8 fk, .string (S fd)] 77 (0, 0))) ∧ Hid (Below w.heap.size w wr)) (fun _ v17 _ => fn - (intOf v17).toNat)
    case atStart => exact ⟨1, Nat.le_refl _, hn1, rfl, by rw [HR1.out], HN.out, HF.out, HB.out⟩
    case round =>
      obtain ⟨i, hi1, hi, rfl, rfl, hN, hF, hB⟩ := hrel
      have x3 := (cell_of hF.out 3).trans rfl
      by_cases hlt : i < fn
      · have hlti : (i : Int) < (fn : Int) := by omega
        have hiN : (i : Int) ≤ 255 := by omega
        have hrd := HRD.out (A + i) wr (by have := HNN.out; omega) hB.out
        rw [Int.natCast_add] at hrd
        go_wp2_with (fail)
        refine hrd.mono ?_
        rintro e w4 ⟨rfl, rfl⟩
        obtain ⟨e0, e1, e2, e3, e4, er, dd, hv, hrs, hdl⟩ := fdecVal_is D.read A i
        have hdc := frDecode_any (D.read (A + i)) w4
        rw [hv] at hdc
        clear hrd hv x3
        have hRl := rdata_len D.read A i
        obtain ⟨R, hRR⟩ : ∃ R, rdata D.read A i = R := ⟨_, rfl⟩
        rw [hRR] at hRl hrs ⊢
        have HRS := Lib.hid hrs
        have hbig : ¬ 9223372036854775807 < R.length + dd.length := by omega
        clear hrs hRR
        go_wp2_with (fail)
        refine hdc.mono ?_
        rintro e w5 ⟨rfl, b5⟩
        have n6 := alloc_new w5 (.cells #[.int .i64 e0, .int .i64 e1, .int .i64 e2, .int .i64 e3, .int .u8 e4, .string (S dd)] 77)
        have b6 := below_step (alloc_below w5 (.cells #[.int .i64 e0, .int .i64 e1, .int .i64 e2, .int .i64 e3, .int .u8 e4, .string (S dd)] 77)) b5 (Nat.le_refl _)
        have HN6 := Lib.hid ((b6.block _ (Array.getElem?_eq_some_iff.1 hN.out).1).trans hN.out)
        have HF6 := Lib.hid ((b6.block _ (Array.getElem?_eq_some_iff.1 hF.out).1).trans hF.out)
        have HB6 := Lib.hid (below_step b6 hB.out (Nat.le_refl _))
        have x5 := (cell_of n6 5).trans rfl
        clear b5 b6 n6 hdc hN hF hB
        go_wp2_with (fail)
        go_roundw
        case rel => exact ⟨i + 1, by omega, hlt, by go_num, by rw [HRS.out], HN6.out, HF6.out, HB6.out⟩
        case measure => simp [intOf]; omega
      · obtain rfl : i = fn := by omega
        have hkd : 0 ≤ (fk:Int) ∧ (fk:Int) < 256 := by omega
        have hlen := rdata_len D.read A i
        obtain ⟨R, hRR⟩ : ∃ R, rdata D.read A i = R := ⟨_, rfl⟩
        rw [hRR] at hlen ⊢
        have hsec := rsectors_any (fb:Int) (fl:Int) (fk:Int) hkd R (by omega) wr
        have hL94 := recSecs_le (fb:Int) (fl:Int) (fk:Int) R
        obtain ⟨⟨L, er⟩, hLe⟩ : ∃ p, recSecs (fb:Int) (fl:Int) (fk:Int) R = p := ⟨_, rfl⟩
        rw [hLe] at hsec hL94
        dsimp only at hsec hL94
        have HL : Hid (recSecs (fb:Int) (fl:Int) (fk:Int) (rdata D.read A i) = (L, er)) := by unfold Hid; rw [hRR]; exact hLe
        have HRR := Lib.hid hRR
        have x0 := (cell_of hF.out 0).trans rfl
        have x4 := (cell_of hF.out 4).trans rfl
        clear hRR hLe hlen hi
        go_wp2_with (fail)
        refine hsec.mono ?_
        rintro e w5 ⟨A2, cap2, rfl, o5, b5, -⟩
        have HN5 := Lib.hid ((b5.block _ (Array.getElem?_eq_some_iff.1 hN.out).1).trans hN.out)
        have HF5 := Lib.hid ((b5.block _ (Array.getElem?_eq_some_iff.1 hF.out).1).trans hF.out)
        have HB5 := Lib.hid (below_step b5 hB.out (Nat.le_refl _))
        clear b5 hsec hN hF hB x0 x3 x4
        have x3 := (cell_of HF5.out 3).trans rfl
        by_cases q1 : er = 0
        case neg =>
          have hbad := Lib.hid (rr_secs (N := N) (boot := boot) (lsn := (fl:Int)) H0.out HL.out (.inl q1))
          go_wp2_with (refine wpList_store_block rfl 77 _ _ rfl w.heap.size zcells rfl rfl 77 zcells HN5.out (by kernel_rfl) rfl (by simp [Value.oneCell']) ?_)
          exact bodyPost_ret (results_cell2 rfl _ _ w.heap.size _ 77 (0, 0) rfl (setBlock_same (Array.getElem?_eq_some_iff.1 HN5.out).1 _) _ Try.underlying77 rfl (by kernel_rfl)) rfl ⟨by rw [hbad.out]; rfl, (Keeps.setBlock (S := fun x => x = w.heap.size) (.refl _ _) (fun _ => rfl) _).belowOf HB5.out HB5.out.size (fun x hx e => by omega)⟩
        subst q1
        by_cases q5 : L.length = i
        case neg =>
          have hbad := Lib.hid (rr_secs (N := N) (boot := boot) (lsn := (fl:Int)) H0.out HL.out (.inr q5))
          have q5' : ¬ (L.length : Int) = (i : Int) := by omega
          clear q5 o5
          go_wp2_with (refine wpList_store_block rfl 77 _ _ rfl w.heap.size zcells rfl rfl 77 zcells HN5.out (by kernel_rfl) rfl (by simp [Value.oneCell']) ?_)
          exact bodyPost_ret (results_cell2 rfl _ _ w.heap.size _ 77 (0, 0) rfl (setBlock_same (Array.getElem?_eq_some_iff.1 HN5.out).1 _) _ Try.underlying77 rfl (by kernel_rfl)) rfl ⟨by rw [hbad.out]; rfl, (Keeps.setBlock (S := fun x => x = w.heap.size) (.refl _ _) (fun _ => rfl) _).belowOf HB5.out HB5.out.size (fun x hx e => by omega)⟩
        have HLEN := Lib.hid q5
        rw [q5] at o5 ⊢
        have O5 := Lib.hid o5
        clear q5 o5
        go_wp2_with (fail)
        clear x3
        go_loopw [21] (fun v21 wr => ∃ j : Nat, j ≤ i ∧ v21 = .int .i64 j ∧ wr = w5 ∧ Hid (∀ k, k < j → D.read (A + k) = L.getD k [])) (fun v21 _ => i - (intOf v21).toNat)
        case atStart => exact ⟨0, Nat.zero_le _, rfl, rfl, fun k hk => absurd hk (by omega)⟩
        case round =>
          obtain ⟨j, hj, rfl, rfl, hS⟩ := hrel
          by_cases hlt : j < i
          · have hlti : (j : Int) < (i : Int) := by omega
            have hiN : (j : Int) ≤ 255 := by omega
            have hrd := HRD.out (A + j) wr (by have := HNN.out; omega) HB5.out
            rw [Int.natCast_add] at hrd
            obtain ⟨g1, rfl, y0, y1⟩ := rstr_at O5.out HLEN.out hlt
            by_cases hne : D.read (A + j) = L.getD j []
            · have HS2 : Hid (∀ k, k < j + 1 → D.read (A + k) = L.getD k []) := fun k hk => by
                by_cases e : k = j
                · subst e; exact hne
                · exact hS.out k (by omega)
              rw [← hne] at y0 y1
              obtain ⟨s, hs⟩ : ∃ s, D.read (A + j) = s := ⟨_, rfl⟩
              rw [hs] at y0 y1 hrd
              clear hs hne hS
              go_wp2_with (fail)
              refine hrd.mono ?_
              rintro e w6 ⟨rfl, rfl⟩
              clear hrd
              go_wp2_with (fail)
              go_roundw
              case rel => exact ⟨j + 1, hlt, by go_num, trivial, HS2⟩
              case measure => simp [intOf]; omega
            · have hbad := Lib.hid (rr_one (N := N) (boot := boot) (lsn := (fl:Int)) H0.out HL.out (i := j) hlt hne)
              obtain ⟨s, hs⟩ : ∃ s, D.read (A + j) = s := ⟨_, rfl⟩
              obtain ⟨t, ht⟩ : ∃ t, L.getD j [] = t := ⟨_, rfl⟩
              rw [ht] at y0 y1 hne
              rw [hs] at hrd hne
              have hb := fbeq_no hne
              clear hs ht hne hS
              go_wp2_with (fail)
              refine hrd.mono ?_
              rintro e w6 ⟨rfl, rfl⟩
              clear hrd
              go_wp2_with (refine wpList_store_block rfl 77 _ _ rfl w.heap.size zcells rfl rfl 77 zcells HN5.out (by kernel_rfl) rfl (by simp [Value.oneCell']) ?_)
              exact bodyPost_ret (results_cell2 rfl _ _ w.heap.size _ 77 (0, 0) rfl (setBlock_same (Array.getElem?_eq_some_iff.1 HN5.out).1 _) _ Try.underlying77 rfl (by kernel_rfl)) rfl ⟨by rw [hbad.out]; rfl, (Keeps.setBlock (S := fun x => x = w.heap.size) (.refl _ _) (fun _ => rfl) _).belowOf HB5.out HB5.out.size (fun x hx e => by omega)⟩
          · have hji : j = i := by omega
            subst hji
            have hgood : Hid (recRead D.read A N (fl:Int) boot = some ⟨fb, fl, 0, j, fk, R⟩) := by
              have := rr_good (N := N) (boot := boot) (lsn := (fl:Int)) H0.out rfl HQ2.out HQ4.out HL.out HLEN.out (fun k hk => hS.out k hk)
              rw [HRR.out] at this
              exact this
            have y5 := (cell_of HF5.out 5).trans rfl
            have f5 := free_of HF5.out 5
            clear hS hj O5
            go_upto_region 29 with (fail)
            have c7 := set1 HF5.out 5 (.string (S R))
            have k7 : Keeps (fun k => k = bf) wr (wr.setCell ⟨bf, 5, none⟩ (.string (S R))) := (Keeps.refl (fun k => k = bf) wr).setCell (p := ⟨bf, 5, none⟩) (fun _ => rfl) _
            have hNF := HNE.out
            go_upto_region 30 with (fail)
            obtain ⟨w7, hw7⟩ : ∃ w7, wr.setCell ⟨bf, 5, none⟩ (.string (S R)) = w7 := ⟨_, rfl⟩
            rw [hw7] at c7 k7 ⊢
            have C7 : Hid (w7.heap[bf]? = some (Obj.cells #[.int .i64 fb, .int .i64 fl, .int .i64 0, .int .i64 j, .int .u8 fk, .string (S R)] 77 (0, 0))) := c7
            have N7 := Lib.hid ((k7.block _ (Array.getElem?_eq_some_iff.1 HN5.out).1 (by omega)).trans HN5.out)
            have B7 : Hid (Below w.heap.size w w7) := k7.belowOf HB5.out HB5.out.size (fun k hk e => by omega)
            clear c7 k7 hw7 y5 f5 HN5 HF5 HB5
            have x0 := (cell_of C7.out 0).trans rfl
            have x1 := (cell_of C7.out 1).trans rfl
            have x2 := (cell_of C7.out 2).trans rfl
            have x3 := (cell_of C7.out 3).trans rfl
            have x4 := (cell_of C7.out 4).trans rfl
            have x5 := (cell_of C7.out 5).trans rfl
            go_wp2_with (refine wpList_store_block rfl 77 _ _ rfl w.heap.size #[.int .i64 fb, .int .i64 fl, .int .i64 0, .int .i64 j, .int .u8 fk, .string (S R)] rfl rfl 77 zcells N7.out (by kernel_rfl) rfl (by simp [Value.oneCell']) ?_)
            exact bodyPost_ret (results_cell2 rfl _ _ w.heap.size _ 77 (0, 0) rfl (setBlock_same (Array.getElem?_eq_some_iff.1 N7.out).1 _) _ Try.underlying77 rfl (by kernel_rfl)) rfl ⟨by rw [hgood.out]; rfl, (Keeps.setBlock (S := fun x => x = w.heap.size) (.refl _ _) (fun _ => rfl) _).belowOf B7.out B7.out.size (fun x hx e => by omega)⟩
theorem rread_any (r g sb : Nat) (pv : Value) (D : Dk) (z : Fz) (a n lsn boot : Int) (w : World) (h : RefAt w r g sb pv D) (hz : RFzAt w g z) :
    Calls Try.prog 49 #[.pointer (some ⟨r, 0, none⟩), .int .i64 a, .int .i64 n, .int .i64 lsn, .int .i64 boot] w fun e w' => e = .returned (readVal D z a n lsn boot) ∧ Below w.heap.size w w' := by
  unfold readVal readE
  by_cases hr : a < 0 ∨ n < a ∨ (D.S.length : Int) < n
  · rw [if_pos hr, if_neg (by decide)]
    exact rread_range r g sb pv D a n lsn boot w h hr
  · rw [if_neg hr]
    by_cases hd : z.dead = true
    · rw [if_pos hd, if_neg (by decide)]
      exact rread_dead r g sb pv D z a n lsn boot w h hz (by omega) (by omega) (by omega) hd
    · rw [if_neg hd, if_pos rfl]
      have hd' : z.dead = false := by simpa using hd
      by_cases he : a = n
      · subst he
        rw [recRead_first (fun h => by omega)]
        exact rread_end r g sb pv D z a lsn boot w h hz (by omega) (by omega) hd'
      · obtain ⟨A, rfl⟩ : ∃ A : Nat, a = A := ⟨a.toNat, by omega⟩
        obtain ⟨N, rfl⟩ : ∃ N : Nat, n = N := ⟨n.toNat, by omega⟩
        rw [Int.toNat_natCast, Int.toNat_natCast]
        exact rread_go r g sb pv D z A N lsn boot w h hz (by omega) (by omega) hd'
end Go.Proofs.Ytjpelmjocdodcaa
