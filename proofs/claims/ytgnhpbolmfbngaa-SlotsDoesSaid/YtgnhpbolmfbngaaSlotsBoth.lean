/- Save and Load on both disks, whatever header, disk and fuse. -/
import Derived.Test.YtgnhpbolmfbngaaRefSave
import Derived.Test.YtgnhpbolmfbngaaRefLoad
namespace Go.Proofs.Ytgnhpbolmfbngaa
open Go.RowKit Go.ChangeMaps

/-- What Save returns, and what it leaves. -/
def svAll (D : Dk) (z : Fz) (seq boot area first snaps : Int) : Int × Dk × Fz :=
  if HOk seq boot area first snaps then (if D.S.length < 2 then (3, D, z) else saveD D z ⟨seq.toNat, boot.toNat, area.toNat, first.toNat, snaps.toNat⟩) else (2, D, z)
theorem sSave_all (w0 w : World) (x d f m : Nat) (v : Value) (r g sb : Nat) (pv : Value) (D : Dk) (z : Fz) (E : Dk) (y : Fz) (seq boot area first snaps : Int) (h : BothAt w0 w x d f m v r g sb pv D z E y) (hP : D.P.length ≤ 999999) :
    Calls Try.prog 26 #[.pointer (some ⟨d, 0, none⟩), hval seq boot area first snaps] w fun e w' => e = .returned (.int .i64 (svAll D z seq boot area first snaps).1) ∧ DAfter w w' d f m v (svAll D z seq boot area first snaps).2.1 (svAll D z seq boot area first snaps).2.2 := by
  by_cases hc : HOk seq boot area first snaps
  · unfold svAll
    rw [if_pos hc]
    obtain ⟨b, ok, rfl, rfl, rfl, rfl, rfl⟩ := hok_hd hc
    rw [show (⟨((b.seq : Nat) : Int).toNat, ((b.boot : Nat) : Int).toNat, ((b.area : Nat) : Int).toNat, ((b.first : Nat) : Int).toNat, ((b.snaps : Nat) : Int).toNat⟩ : Hd) = b from rfl]
    by_cases h2 : D.S.length < 2
    · rw [if_pos h2]
      refine (sSave_range d f m v D b w ok h2 h.lab.disk).mono ?_
      rintro e w' ⟨rfl, hb⟩
      exact ⟨rfl, DAfter.same h.lab.disk h.lab.fuse hb⟩
    · rw [if_neg h2]
      refine (sSave_ok d f m v D z b w ok (by omega) h.lab.disk h.lab.fuse hP).mono ?_
      rintro e w' ⟨rfl, ha⟩
      exact ⟨rfl, ha⟩
  · unfold svAll
    rw [if_neg hc]
    refine (sSave_arg d seq boot area first snaps w hc).mono ?_
    rintro e w' ⟨rfl, hb⟩
    exact ⟨rfl, DAfter.same h.lab.disk h.lab.fuse hb⟩
theorem rSave_all (w0 w : World) (x d f m : Nat) (v : Value) (r g sb : Nat) (pv : Value) (D : Dk) (z : Fz) (E : Dk) (y : Fz) (seq boot area first snaps : Int) (h : BothAt w0 w x d f m v r g sb pv D z E y) (hP : E.P.length ≤ 999999) :
    Calls Try.prog 38 #[.pointer (some ⟨r, 0, none⟩), hval seq boot area first snaps] w fun e w' => e = .returned (.int .i64 (svAll E y seq boot area first snaps).1) ∧ RAfter w w' r g sb pv (svAll E y seq boot area first snaps).2.1 (svAll E y seq boot area first snaps).2.2 := by
  by_cases hc : HOk seq boot area first snaps
  · unfold svAll
    rw [if_pos hc]
    obtain ⟨b, ok, rfl, rfl, rfl, rfl, rfl⟩ := hok_hd hc
    rw [show (⟨((b.seq : Nat) : Int).toNat, ((b.boot : Nat) : Int).toNat, ((b.area : Nat) : Int).toNat, ((b.first : Nat) : Int).toNat, ((b.snaps : Nat) : Int).toNat⟩ : Hd) = b from rfl]
    by_cases h2 : E.S.length < 2
    · rw [if_pos h2]
      refine (rSave_range r g sb pv E b w ok h2 h.rat).mono ?_
      rintro e w' ⟨rfl, hb⟩
      exact ⟨rfl, pv, h.rat.below hb, h.rfz.below hb, .of_below hb, fun _ hk => .inl hk⟩
    · rw [if_neg h2]
      exact rSave_ok w0 w x d f m v r g sb pv D z E y b h ok (by omega) hP
  · unfold svAll
    rw [if_neg hc]
    refine (rSave_arg r seq boot area first snaps w hc).mono ?_
    rintro e w' ⟨rfl, hb⟩
    exact ⟨rfl, pv, h.rat.below hb, h.rfz.below hb, .of_below hb, fun _ hk => .inl hk⟩
set_option maxRecDepth 100000 in
set_option maxHeartbeats 2000000 in
theorem rLoad_range (r g sb : Nat) (pv : Value) (D : Dk) (w : World) (h2 : D.S.length < 2) (h : RefAt w r g sb pv D) :
    Calls Try.prog 39 #[.pointer (some ⟨r, 0, none⟩)] w fun e w' => e = .returned (.tuple #[zhead, .int .i64 3]) ∧ Below w.heap.size w w' := by
  have HQ := Lib.hid (alloc_new w (.cells hz5 40))
  have HB := Lib.hid (alloc_below w (.cells hz5 40))
  have cr := (h.below HB.out).c0
  have h2i : (D.S.length : Int) < 2 := by omega
  clear h h2
  go_enter Try.func39, Try.ntmps39
  go_wp2
  exact bodyPost_ret (results_cell2 rfl _ _ w.heap.size _ 40 (0, 0) rfl HQ.out _ Try.underlying40 rfl (by kernel_rfl)) rfl ⟨rfl, HB.out⟩
set_option maxRecDepth 100000 in
set_option maxHeartbeats 2000000 in
theorem rLoad_dead (r g sb : Nat) (pv : Value) (D : Dk) (z : Fz) (w : World) (h2 : 2 ≤ D.S.length) (h : RefAt w r g sb pv D) (hz : RFzAt w g z) (hd : z.dead = true) :
    Calls Try.prog 39 #[.pointer (some ⟨r, 0, none⟩)] w fun e w' => e = .returned (.tuple #[zhead, .int .i64 10]) ∧ Below w.heap.size w w' := by
  have HQ := Lib.hid (alloc_new w (.cells hz5 40))
  have HB := Lib.hid (alloc_below w (.cells hz5 40))
  have cr := (h.below HB.out).c0
  have cr2 := (h.below HB.out).c2
  have cg : (w.alloc (.cells hz5 40)).cell? ⟨g, 1, none⟩ = some (.bool z.dead) := below_cell HB.out ((cell_of hz.1 1).trans rfl)
  rw [hd] at cg
  have h2i : ¬ (D.S.length : Int) < 2 := by omega
  clear h h2 hz hd
  go_enter Try.func39, Try.ntmps39
  go_wp2
  exact bodyPost_ret (results_cell2 rfl _ _ w.heap.size _ 40 (0, 0) rfl HQ.out _ Try.underlying40 rfl (by kernel_rfl)) rfl ⟨rfl, HB.out⟩
/-- What Load returns. -/
def ldAll (D : Dk) (z : Fz) : Value := if D.S.length < 2 then .tuple #[zhead, .int .i64 3] else if z.dead = true then .tuple #[zhead, .int .i64 10] else loadVal D
theorem sLoad_all (d f m : Nat) (v : Value) (D : Dk) (z : Fz) (w : World) (h : Lab w d f m v D z) :
    Calls Try.prog 27 #[.pointer (some ⟨d, 0, none⟩)] w fun e w' => e = .returned (ldAll D z) ∧ Below w.heap.size w w' := by
  unfold ldAll
  by_cases h2 : D.S.length < 2
  · rw [if_pos h2]; exact sLoad_range d f m v D w h2 h.disk
  · rw [if_neg h2]
    by_cases hd : z.dead = true
    · rw [if_pos hd]; exact sLoad_dead d f m v D z w (by omega) h.disk h.fuse hd
    · rw [if_neg hd]; exact sLoad_any d f m v D z w (by omega) h.disk h.fuse (by simpa using hd)
theorem rLoad_all (r g sb : Nat) (pv : Value) (D : Dk) (z : Fz) (w : World) (h : RefAt w r g sb pv D) (hz : RFzAt w g z) :
    Calls Try.prog 39 #[.pointer (some ⟨r, 0, none⟩)] w fun e w' => e = .returned (ldAll D z) ∧ Below w.heap.size w w' := by
  unfold ldAll
  by_cases h2 : D.S.length < 2
  · rw [if_pos h2]; exact rLoad_range r g sb pv D w h2 h
  · rw [if_neg h2]
    by_cases hd : z.dead = true
    · rw [if_pos hd]; exact rLoad_dead r g sb pv D z w (by omega) h hz hd
    · rw [if_neg hd]; exact rLoad_ok r g sb pv D z w h hz (by omega) (by simpa using hd)
theorem svAll_len (D : Dk) (z : Fz) (seq boot area first snaps : Int) : (svAll D z seq boot area first snaps).2.1.P.length ≤ D.P.length + 1 := by
  unfold svAll
  split
  · split
    · exact Nat.le_succ _
    · unfold saveD doSync
      split
      · split
        · exact Nat.zero_le _
        · show (D.P ++ [_]).length ≤ _; simp
      · exact Nat.le_succ _
  · exact Nat.le_succ _
end Go.Proofs.Ytgnhpbolmfbngaa
