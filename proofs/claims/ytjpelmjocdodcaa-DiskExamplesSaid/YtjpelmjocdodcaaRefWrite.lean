/- sacristanref04: Write, Sync. -/
import Derived.Test.YtjpelmjocdodcaaRefRW
namespace Go.Proofs.Ytjpelmjocdodcaa
open Go.RowKit Go.ChangeMaps

/-- What a call on the reference's disk leaves. -/
def RAfter (w w' : World) (r g sb : Nat) (pv : Value) (D : Dk) (z : Fz) : Prop :=
  ∃ pv', RefAt w' r g sb pv' D ∧ RFzAt w' g z ∧ Keeps (ROwn r g sb pv) w w' ∧ ∀ k, pv'.ownBlock = some k → pv.ownBlock = some k ∨ w.heap.size ≤ k
theorem RAfter.same {w : World} {r g sb : Nat} {pv : Value} {D : Dk} {z : Fz} (h : RefAt w r g sb pv D) (hz : RFzAt w g z) : RAfter w w r g sb pv D z := ⟨pv, h, hz, .refl _ _, fun _ hk => .inl hk⟩
theorem RefAt.burn {w : World} {r g sb : Nat} {pv : Value} {D : Dk} (h : RefAt w r g sb pv D) (z' : Fz) : RefAt (setBlock w g z'.robj) r g sb pv D :=
  h.keeps (S := (· = g)) (Keeps.setBlock (S := (· = g)) (.refl _ _) (fun _ => rfl) _) h.rg h.sg (fun k hk e => (h.pn k hk).2.2 e)
theorem rkeeps_burn {w : World} (r g sb : Nat) (pv : Value) (o : Obj) : Keeps (ROwn r g sb pv) w (setBlock w g o) := Keeps.setBlock (.refl _ _) (fun _ => .inr (.inl rfl)) _
theorem RFzAt.below {w w' : World} {f : Nat} {z : Fz} (h : RFzAt w f z) (b : Below w.heap.size w w') : RFzAt w' f z := h.keeps (S := fun _ => False) (.of_below b) id
theorem RFzAt.burned {w : World} {g : Nat} {z : Fz} (h : RFzAt w g z) : RFzAt (setBlock w g z.burn.2.robj) g z.burn.2 := h.set (Nat.le_trans (Fz.burn_left z) h.2)
set_option maxRecDepth 100000 in
set_option maxHeartbeats 4000000 in
theorem rdwrite_any (r g sb : Nat) (pv : Value) (D : Dk) (z : Fz) (i : Int) (s : List UInt8) (w : World) (h : RefAt w r g sb pv D) (hz : RFzAt w g z) (hP : D.P.length ≤ 1000000) :
    Calls Try.prog 61 #[.pointer (some ⟨r, 0, none⟩), .int .i64 i, .string (S s)] w fun e w' => e = .returned (.int .i64 (doWrite D z i s).1) ∧ RAfter w w' r g sb pv (doWrite D z i s).2.1 (doWrite D z i s).2.2 := by
  have HH := Lib.hid h
  have HF := Lib.hid hz
  have c0 := h.c0
  have c2 := h.c2
  have hlen := h.ok.2.1
  clear h hz
  rcases hasE_cases D i with ⟨he, h0, hi, hc⟩ | ⟨he, hn⟩
  · obtain ⟨n, rfl⟩ : ∃ n : Nat, i = n := ⟨i.toNat, by omega⟩
    rw [Int.toNat_natCast] at hi
    have hni : (n : Int) < (D.S.length : Int) := by omega
    by_cases hs : s.length = 80
    · have hs' : (s.length : Int) = 80 := by omega
      rcases z.burn_cases with ⟨hb, _⟩ | hb
      · have HE : Hid (doWrite D z n s = (0, D.write n s, z.burn.2)) := by unfold Hid doWrite; rw [if_pos he, if_pos hs, if_pos hb, Int.toNat_natCast]
        have HB := Lib.hid hb
        have HS := Lib.hid hs
        have HI := Lib.hid hi
        clear hb hs h0 hi hc he
        go_enter Try.func61, Try.ntmps61
        go_wp2_with (fail)
        refine (rfburn_any g z w HF.out).mono ?_
        rw [HB.out]
        rintro e w1 ⟨rfl, hw1⟩
        have h1 : RefAt w1 r g sb pv D := by rw [hw1]; exact HH.out.burn _
        have z1 : RFzAt w1 g z.burn.2 := by rw [hw1]; exact HF.out.burned
        have k1 : Keeps (ROwn r g sb pv) w w1 := by rw [hw1]; exact rkeeps_burn r g sb pv _
        clear hw1 c0 c2
        have n2 := alloc_new w1 (.cells #[.int .i64 n, .string (S s)] 135)
        have b2 := alloc_below w1 (.cells #[.int .i64 n, .string (S s)] 135)
        have s2 := alloc_size w1 (.cells #[.int .i64 n, .string (S s)] 135)
        obtain ⟨w2, hw2⟩ : ∃ w2, w1.alloc (.cells #[.int .i64 n, .string (S s)] 135) = w2 := ⟨_, rfl⟩
        rw [hw2] at n2 b2 s2
        have h2 := h1.below b2
        obtain ⟨v', w3, hrun, hown, hgr, hat⟩ := append_run (P := Try.prog) w2 121 121 135 (.agg #[.int .i64 0, .string ⟨#[]⟩]) 2 24 Try.underlying121 (by kernel_rfl) rfl (by decide) pv D.P.length (wcells D.P) h2.row
          ⟨w1.heap.size, 0, none⟩ 1 1 [.int .i64 n, .string (S s)] rfl (fun j u hu => by rw [cell_at n2, Nat.zero_add]; simpa using hu) (fun u hu => by simp at hu; rcases hu with rfl | rfl <;> rfl) (by unfold maxLen; omega) (by omega)
        have k3 := grown_keeps hgr
        have hd3 : ¬ pv.ownBlock = some r := fun e => (h1.pn r e).1 rfl
        have g3 := (k3.block r (Array.getElem?_eq_some_iff.1 h2.blk).1 hd3).trans h2.blk
        have c1 : w3.cell? ⟨r, 1, none⟩ = some pv := (cell_of g3 1).trans rfl
        have c1' : w1.cell? ⟨r, 1, none⟩ = some pv := h1.c1
        have f1 := free_of g3 1
        clear n2 s2 hgr
        obtain ⟨A', cap', rfl⟩ := ownsRow_is hown
        have hrun2 := Lib.hid hrun
        clear hrun
        go_wp2_with (at_builtin; refine wpList_append_eq rfl (.tmp 36) (.tmp 40) 121 rfl _ _ rfl rfl _ _ hrun2.out ?_)
        go_ret
        rw [HE.out, setCell_block g3 1 (.slice A' (D.P.length + 1) cap')]
        have hlt := (Array.getElem?_eq_some_iff.1 g3).1
        obtain ⟨C, hC⟩ : ∃ C : Array Value, (#[.slice (some ⟨sb, 0, none⟩) D.S.length D.S.length, pv, .pointer (some ⟨g, 0, none⟩), .bool D.full] : Array Value).setIfInBounds 1 (.slice A' (D.P.length + 1) cap') = C := ⟨_, rfl⟩
        have hC' : C = #[.slice (some ⟨sb, 0, none⟩) D.S.length D.S.length, .slice A' (D.P.length + 1) cap', .pointer (some ⟨g, 0, none⟩), .bool D.full] := hC.symm
        rw [hC, hC']
        have kr : Keeps (fun k => k = r) w3 (setBlock w3 r (.cells #[.slice (some ⟨sb, 0, none⟩) D.S.length D.S.length, .slice A' (D.P.length + 1) cap', .pointer (some ⟨g, 0, none⟩), .bool D.full] 123 (0, 0))) := Keeps.setBlock (S := fun k => k = r) (.refl _ _) (fun _ => rfl) _
        have k5 := (k1.trans ((Keeps.of_below b2).trans (k3.mono (fun _ _ hk => .inr (.inr (.inr hk)))))).trans (kr.mono (fun _ _ hk => .inl hk))
        have hsz : w.heap.size ≤ w2.heap.size := Nat.le_trans k1.size b2.size
        have hvn : ∀ k, (Value.slice A' (D.P.length + 1) cap').ownBlock = some k → pv.ownBlock = some k ∨ w.heap.size ≤ k := fun k hk => by
          rcases hat with hat | hat
          · exact .inl (hat.symm.trans hk)
          · exact .inr (by rw [hat] at hk; injection hk with hk; omega)
        have h0 := HH.out
        have hrlt := (Array.getElem?_eq_some_iff.1 h0.blk).1
        have hslt := (Array.getElem?_eq_some_iff.1 h0.sec).1
        have hglt := HF.out.lt
        have hne : ∀ k, (Value.slice A' (D.P.length + 1) cap').ownBlock = some k → k ≠ r ∧ k ≠ sb ∧ k ≠ g := fun k hk => by
          rcases hvn k hk with h | h
          · exact h0.pn k h
          · exact ⟨by omega, by omega, by omega⟩
        refine ⟨rfl, _, ⟨setBlock_same hlt _, ?_, ?_, D.ok_write h0.ok HI.out HS.out, h0.rs, h0.rg, h0.sg, hne⟩, ?_, k5, hvn⟩
        · exact (kr.block sb (Nat.lt_of_lt_of_le (Array.getElem?_eq_some_iff.1 h2.sec).1 k3.size) (fun e => h0.rs e.symm)).trans ((k3.block sb (Array.getElem?_eq_some_iff.1 h2.sec).1 (fun e => (h0.pn sb e).2.1 rfl)).trans h2.sec)
        · have := row_keeps hown kr (fun k hk e => (hne k hk).1 e)
          show World.ownsRow _ 0 _ 2 _ (D.P ++ [(n, s)]).length (wcells (D.P ++ [(n, s)]))
          rw [wcells_snoc, List.length_append]
          exact this
        · exact ((z1.below b2).keeps k3 (fun e => (h0.pn g e).2.2 rfl)).keeps kr (fun e => h0.rg e.symm)
      · have HE : Hid (doWrite D z n s = (10, D, z.burn.2)) := by unfold Hid doWrite; rw [if_pos he, if_pos hs, if_neg (by rw [hb]; decide), hb]
        have HB := Lib.hid hb
        clear hb hs h0 hi hc he
        go_enter Try.func61, Try.ntmps61
        go_wp2_with (fail)
        refine (rfburn_any g z w HF.out).mono ?_
        rw [HB.out]
        rintro e w1 ⟨rfl, rfl⟩
        go_wp2
        go_ret
        rw [HE.out]
        exact ⟨rfl, pv, HH.out.burn _, HF.out.burned, rkeeps_burn r g sb pv _, fun _ hk => .inl hk⟩
    · have HE : Hid (doWrite D z n s = (2, D, z)) := by unfold Hid doWrite; rw [if_pos he, if_neg hs]
      have hs' : ((s.length : Int) == 80) = false := by rw [beq_eq_false_iff_ne]; omega
      have hs2 : ((s.length : Int) != 80) = true := by rw [bne_iff_ne]; omega
      clear hs h0 hi hc he
      go_enter Try.func61, Try.ntmps61
      go_wp2
      go_ret
      rw [HE.out]
      exact ⟨rfl, .same HH.out HF.out⟩
  · have HE : Hid (doWrite D z i s = (3, D, z)) := by unfold Hid doWrite; rw [if_neg (by rw [he]; decide), he]
    clear he
    by_cases h0 : i < 0
    · clear hn
      go_enter Try.func61, Try.ntmps61
      go_wp2
      go_ret
      rw [HE.out]
      exact ⟨rfl, .same HH.out HF.out⟩
    · have h1 : (D.S.length : Int) ≤ i := by omega
      clear hn
      go_enter Try.func61, Try.ntmps61
      go_wp2
      go_ret
      rw [HE.out]
      exact ⟨rfl, .same HH.out HF.out⟩
end Go.Proofs.Ytjpelmjocdodcaa
