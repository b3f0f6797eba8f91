/- Package disk: Write, Sync, Durable, Sectors, SetFull, Full, New, Pending. -/
import Derived.Test.YtjpelmjocdodcaaDisk
import Derived.Test.YtjpelmjocdodcaaAppend
namespace Go.Proofs.Ytjpelmjocdodcaa
open Go.RowKit Go.ChangeMaps

theorem row_len {w : World} {e : TypeId} {sz n b : Nat} {v : Value} {xs : List Value} (h : w.ownsRow b e sz v n xs) : n ≤ maxLen := by
  rcases h.2 with ⟨rfl, rfl⟩ | ⟨g, cap, cur, rfl, _, _, h1, h2, _⟩
  · exact Nat.zero_le _
  · exact Nat.le_trans h1 h2
/-- The blocks of a disk. -/
def Own (d f m : Nat) (v : Value) (k : Nat) : Prop := k = d ∨ k = f ∨ k = m ∨ v.ownBlock = some k
/-- What a call on a disk leaves. -/
def DAfter (w w' : World) (d f m : Nat) (v : Value) (D : Dk) (z : Fz) : Prop :=
  ∃ v', DiskAt w' d f m v' D ∧ FzAt w' f z ∧ Keeps (Own d f m v) w w' ∧ ∀ k, v'.ownBlock = some k → v.ownBlock = some k ∨ w.heap.size ≤ k
theorem DAfter.same {w w' : World} {d f m : Nat} {v : Value} {D : Dk} {z : Fz} (h : DiskAt w d f m v D) (hz : FzAt w f z) (b : Below w.heap.size w w') : DAfter w w' d f m v D z :=
  ⟨v, h.below b, hz.below b, .of_below b, fun _ hk => .inl hk⟩
theorem DiskAt.burn {w : World} {d f m : Nat} {v : Value} {D : Dk} (h : DiskAt w d f m v D) (z' : Fz) : DiskAt (setBlock w f z'.obj) d f m v D :=
  h.keeps (S := (· = f)) (Keeps.setBlock (S := (· = f)) (.refl _ _) (fun _ => rfl) _) h.df h.mf (fun k hk e => (h.vn k hk).2.2 e)
theorem keeps_burn {w : World} (d f m : Nat) (v : Value) (o : Obj) : Keeps (Own d f m v) w (setBlock w f o) := Keeps.setBlock (.refl _ _) (fun _ => .inr (.inl rfl)) _
theorem grown_keeps {w w' : World} {r : Option Nat} (h : w.grownBy w' r) : Keeps (fun k => r = some k) w w' := ⟨h.os, h.tape, h.output, h.size, fun k hk hn => h.block k hk (fun e => hn e.symm)⟩
theorem wcells_length (l : List (Nat × List UInt8)) : (wcells l).length = l.length * 2 := by
  induction l with
  | nil => rfl
  | cons p l ih => unfold wcells at ih ⊢; rw [List.flatMap_cons, List.length_append, ih, List.length_cons]; simp; omega
theorem wcells_snoc (l : List (Nat × List UInt8)) (p : Nat × List UInt8) : wcells (l ++ [p]) = wcells l ++ [.int .i64 (p.1 : Int), .string (S p.2)] := by
  unfold wcells; rw [List.flatMap_append]; rfl
theorem Dk.ok_write {D : Dk} (h : D.Ok) {i : Nat} {s : List UInt8} (hi : i < D.S.length) (hs : s.length = 80) : (D.write i s).Ok := by
  obtain ⟨h1, h2, h3, h4⟩ := h
  refine ⟨h1, h2, h3, fun p hp => ?_⟩
  rcases List.mem_append.1 hp with h | h
  · exact h4 p h
  · rw [List.mem_singleton] at h
    subst h
    exact ⟨hi, hs⟩
set_option maxRecDepth 100000 in
set_option maxHeartbeats 1600000 in
theorem dwrite_any (d f m : Nat) (v : Value) (D : Dk) (z : Fz) (i : Int) (s : List UInt8) (w : World) (h : DiskAt w d f m v D) (hz : FzAt w f z) (hP : D.P.length ≤ 1000000) :
    Calls Try.prog 19 #[.pointer (some ⟨d, 0, none⟩), .int .i64 i, .string (S s)] w fun e w' => e = .returned (.int .i64 (doWrite D z i s).1) ∧ DAfter w w' d f m v (doWrite D z i s).2.1 (doWrite D z i s).2.2 := by
  have HH := Lib.hid h
  have HF := Lib.hid hz
  have c0 : w.cell? ⟨d, 0, none⟩ = some (.pointer (some ⟨f, 0, none⟩)) := (cell_of h.blk 0).trans rfl
  clear h hz
  rcases hasE_cases D i with ⟨he, h0, hi, hc⟩ | ⟨he, hn⟩
  · by_cases hs : s.length = 80
    · have hs' : (s.length : Int) = 80 := by omega
      rcases z.burn_cases with ⟨hb, _⟩ | hb
      · have HE : Hid (doWrite D z i s = (0, D.write i.toNat s, z.burn.2)) := by unfold Hid doWrite; rw [if_pos he, if_pos hs, if_pos hb]
        have HB := Lib.hid hb
        have HS := Lib.hid hs
        obtain ⟨n, rfl⟩ : ∃ n : Nat, i = n := ⟨i.toNat, by omega⟩
        rw [Int.toNat_natCast] at hi HE
        have HI := Lib.hid hi
        have HEE := Lib.hid he
        clear hb hs h0 hi hc he
        go_enter Try.func19, Try.ntmps19
        go_wp2_with (fail)
        refine (dhas_any d f m v D n _ HH.out).mono ?_
        rw [HEE.out]
        rintro e w' ⟨rfl, rfl⟩
        go_wp2_with (fail)
        refine (fburn_any f z _ HF.out).mono ?_
        rw [HB.out]
        rintro e w1 ⟨rfl, hw1⟩
        have h1 : DiskAt w1 d f m v D := by rw [hw1]; exact HH.out.burn _
        have z1 : FzAt w1 f z.burn.2 := by rw [hw1]; exact HF.out.set (Nat.le_trans (Fz.burn_left z) HF.out.2)
        have k1 : Keeps (Own d f m v) w' w1 := by rw [hw1]; exact keeps_burn d f m v _
        clear hw1 c0
        have n2 := alloc_new w1 (.cells #[.int .i64 n, .string (S s)] 105)
        have b2 := alloc_below w1 (.cells #[.int .i64 n, .string (S s)] 105)
        have s2 := alloc_size w1 (.cells #[.int .i64 n, .string (S s)] 105)
        obtain ⟨w2, hw2⟩ : ∃ w2, w1.alloc (.cells #[.int .i64 n, .string (S s)] 105) = w2 := ⟨_, rfl⟩
        rw [hw2] at n2 b2 s2
        have h2 := h1.below b2
        obtain ⟨v', w3, hrun, hown, hgr, hat⟩ := append_run (P := Try.prog) w2 99 99 105 (.agg #[.int .i64 0, .string ⟨#[]⟩]) 2 24 Try.underlying99 (by kernel_rfl) rfl (by decide) v D.P.length (wcells D.P) h2.row
          ⟨w1.heap.size, 0, none⟩ 1 1 [.int .i64 n, .string (S s)] rfl (fun j u hu => by rw [cell_at n2, Nat.zero_add]; simpa using hu) (fun u hu => by simp at hu; rcases hu with rfl | rfl <;> rfl) (by unfold maxLen; omega) (by omega)
        have k3 := grown_keeps hgr
        have hd3 : ¬ v.ownBlock = some d := fun e => (h1.vn d e).1 rfl
        have g3 := (k3.block d (Array.getElem?_eq_some_iff.1 h2.blk).1 hd3).trans h2.blk
        have c0 : w3.cell? ⟨d, 0, none⟩ = some (.pointer (some ⟨f, 0, none⟩)) := (cell_of g3 0).trans rfl
        have c4 : w3.cell? ⟨d, 4, none⟩ = some v := (cell_of g3 4).trans rfl
        have c4' : w1.cell? ⟨d, 4, none⟩ = some v := (cell_of h1.blk 4).trans rfl
        have f4 := free_of g3 4
        clear c0 n2 s2 hgr
        obtain ⟨A', cap', rfl⟩ := ownsRow_is hown
        have hrun2 := Lib.hid hrun
        clear hrun
        go_wp2_with (at_builtin; refine wpList_append_eq rfl (.tmp 32) (.tmp 36) 99 rfl _ _ rfl rfl _ _ hrun2.out ?_)
        go_ret
        rw [HE.out]
        have e := setCell_block g3 4 (.slice A' (D.P.length + 1) cap')
        rw [e]
        have hlt := (Array.getElem?_eq_some_iff.1 g3).1
        have k4 : Keeps (Own d f m v) w3 (setBlock w3 d (.cells ((dcells f m v D).setIfInBounds 4 (.slice A' (D.P.length + 1) cap')) 103 (0, 0))) := Keeps.setBlock (S := Own d f m v) (.refl _ _) (fun _ => .inl rfl) _
        have k5 := (k1.trans ((Keeps.of_below b2).trans (k3.mono (fun _ _ hk => .inr (.inr (.inr hk)))))).trans k4
        have hsz : w'.heap.size ≤ w2.heap.size := Nat.le_trans k1.size b2.size
        have hvn : ∀ k, (Value.slice A' (D.P.length + 1) cap').ownBlock = some k → v.ownBlock = some k ∨ w'.heap.size ≤ k := fun k hk => by
          rcases hat with hat | hat
          · exact .inl (hat.symm.trans hk)
          · exact .inr (by rw [hat] at hk; injection hk with hk; omega)
        obtain ⟨M, hm, hM⟩ := h2.map
        have h0 := HH.out
        have hdlt := (Array.getElem?_eq_some_iff.1 h0.blk).1
        obtain ⟨_, hm0, _⟩ := h0.map
        have hmlt := hm0.lt
        have hflt := HF.out.lt
        have hne : ∀ k, (Value.slice A' (D.P.length + 1) cap').ownBlock = some k → k ≠ d ∧ k ≠ m ∧ k ≠ f := fun k hk => by
          rcases hvn k hk with h | h
          · exact h0.vn k h
          · exact ⟨by omega, by omega, by omega⟩
        refine ⟨rfl, _, ⟨setBlock_same hlt _, ⟨M, (hm.keeps k3 (fun e => (h0.vn m e).2.1 rfl)).keeps (Keeps.setBlock (S := (· = d)) (.refl _ _) (fun _ => rfl) _) (fun e => h0.dm e.symm), hM⟩, ?_, D.ok_write h0.ok HI.out HS.out, h0.dm, h0.df, h0.mf, hne⟩, ?_, k5, hvn⟩
        · have := row_keeps hown (Keeps.setBlock (S := (· = d)) (.refl _ w3) (fun _ => rfl) (.cells ((dcells f m v D).setIfInBounds 4 (.slice A' (D.P.length + 1) cap')) 103 (0, 0))) (fun k hk e => (hne k hk).1 e)
          show World.ownsRow _ 0 _ 2 _ (D.P ++ [(n, s)]).length (wcells (D.P ++ [(n, s)]))
          rw [wcells_snoc, List.length_append]
          exact this
        · exact ((z1.below b2).keeps k3 (fun e => (h0.vn f e).2.2 rfl)).keeps (Keeps.setBlock (S := (· = d)) (.refl _ _) (fun _ => rfl) _) (fun e => h0.df e.symm)
      · have HE : Hid (doWrite D z i s = (10, D, z.burn.2)) := by unfold Hid doWrite; rw [if_pos he, if_pos hs, if_neg (by rw [hb]; decide), hb]
        have HB := Lib.hid hb
        have HEE := Lib.hid he
        clear hb hs h0 hi hc he
        go_enter Try.func19, Try.ntmps19
        go_wp2_with (fail)
        refine (dhas_any d f m v D i _ HH.out).mono ?_
        rw [HEE.out]
        rintro e w' ⟨rfl, rfl⟩
        go_wp2_with (fail)
        refine (fburn_any f z _ HF.out).mono ?_
        rw [HB.out]
        rintro e w1 ⟨rfl, rfl⟩
        go_wp2
        go_ret
        rw [HE.out]
        exact ⟨rfl, v, HH.out.burn _, HF.out.set (Nat.le_trans (Fz.burn_left z) HF.out.2), keeps_burn d f m v _, fun _ hk => .inl hk⟩
    · have HE : Hid (doWrite D z i s = (2, D, z)) := by unfold Hid doWrite; rw [if_pos he, if_neg hs]
      have hs' : ((s.length : Int) == 80) = false := by rw [beq_eq_false_iff_ne]; omega
      have hs2 : ((s.length : Int) != 80) = true := by rw [bne_iff_ne]; omega
      have HEE := Lib.hid he
      clear hs h0 hi hc he
      go_enter Try.func19, Try.ntmps19
      go_wp2_with (fail)
      refine (dhas_any d f m v D i _ HH.out).mono ?_
      rw [HEE.out]
      rintro e w' ⟨rfl, rfl⟩
      go_wp2
      go_ret
      rw [HE.out]
      exact ⟨rfl, .same HH.out HF.out (.refl _ _)⟩
  · have HE : Hid (doWrite D z i s = (3, D, z)) := by unfold Hid doWrite; rw [if_neg (by rw [he]; decide), he]
    have HEE := Lib.hid he
    clear hn he
    go_enter Try.func19, Try.ntmps19
    go_wp2_with (fail)
    refine (dhas_any d f m v D i _ HH.out).mono ?_
    rw [HEE.out]
    rintro e w' ⟨rfl, rfl⟩
    go_wp2
    go_ret
    rw [HE.out]
    exact ⟨rfl, .same HH.out HF.out (.refl _ _)⟩
theorem putAll_append : ∀ (a b : List (Nat × List UInt8)) (S : List (List UInt8)), putAll (a ++ b) S = putAll b (putAll a S)
  | [], _, _ => rfl
  | p :: a, b, S => putAll_append a b (S.set p.1 p.2)
theorem putAll_length : ∀ (a : List (Nat × List UInt8)) (S : List (List UInt8)), (putAll a S).length = S.length
  | [], _ => rfl
  | p :: a, S => (putAll_length a (S.set p.1 p.2)).trans List.length_set
theorem wcell_at {w : World} {v : Value} {l : List (Nat × List UInt8)} {n : Nat} {t : TypeId} (h : w.ownsRow 0 t 2 v n (wcells l)) {A : Option Addr} {cap : Nat} (hv : v = .slice A n cap) {i : Nat} (hi : i < l.length) :
    ∃ g, A = some ⟨g, 0, none⟩ ∧ w.cell? ⟨g, i * 2, none⟩ = some (.int .i64 (l[i].1 : Int)) ∧ w.cell? ⟨g, i * 2 + 1, none⟩ = some (.string (S l[i].2)) := by
  have hc : ∀ (l : List (Nat × List UInt8)) (i : Nat) (h : i < l.length), (wcells l)[i * 2]? = some (.int .i64 (l[i].1 : Int)) ∧ (wcells l)[i * 2 + 1]? = some (.string (S l[i].2)) := by
    intro l
    induction l with
    | nil => intro i h; simp at h
    | cons p l ih =>
      intro i h
      have e : wcells (p :: l) = .int .i64 (p.1 : Int) :: .string (S p.2) :: wcells l := rfl
      cases i with
      | zero => exact ⟨rfl, rfl⟩
      | succ i =>
        rw [e, show (i + 1) * 2 = i * 2 + 1 + 1 by omega]
        simp only [List.getElem?_cons_succ]
        exact ih i (by simpa using h)
  obtain ⟨h1, h2⟩ := hc l i hi
  have hl : l.length = n := by have := h.1; rw [wcells_length] at this; omega
  rcases h.2 with ⟨rfl, h0⟩ | ⟨g, cap', cur, rfl, _, hg, _, _, _, htake⟩
  · omega
  · cases hv
    refine ⟨g, rfl, ?_, ?_⟩
    · rw [cell_of hg, ← Array.getElem?_toList]
      rw [← htake, List.getElem?_take, if_pos (by omega)] at h1
      exact h1
    · rw [cell_of hg, ← Array.getElem?_toList]
      rw [← htake, List.getElem?_take, if_pos (by omega)] at h2
      exact h2
theorem Dk.ok_putAll {D : Dk} (h : D.Ok) : ∀ (a : List (Nat × List UInt8)), (∀ p ∈ a, p.1 < D.S.length ∧ p.2.length = 80) → ∀ s ∈ putAll a D.S, s.length = 80 := by
  intro a
  have key : ∀ (a : List (Nat × List UInt8)) (L : List (List UInt8)), (∀ p ∈ a, p.2.length = 80) → (∀ s ∈ L, s.length = 80) → ∀ s ∈ putAll a L, s.length = 80 := by
    intro a
    induction a with
    | nil => intro L _ hL; exact hL
    | cons p a ih =>
      intro L ha hL
      refine ih _ (fun q hq => ha q (List.mem_cons_of_mem _ hq)) (fun s hs => ?_)
      rcases List.mem_or_eq_of_mem_set hs with h | h
      · exact hL s h
      · rw [h]; exact ha p (List.mem_cons_self ..)
  exact fun ha => key a D.S (fun p hp => (ha p hp).2) h.2.2.1
theorem DiskAt.noPend {w : World} {d f m : Nat} {v : Value} {D : Dk} (h : DiskAt w d f m v D) : DiskAt (setBlock w d (.cells (dcells f m (.slice none 0 0) D) 103 (0, 0))) d f m (.slice none 0 0) ⟨D.S, [], D.full⟩ := by
  obtain ⟨M, hm, hM⟩ := h.map
  exact ⟨setBlock_same (Array.getElem?_eq_some_iff.1 h.blk).1 _, ⟨M, hm.keeps (Keeps.setBlock (S := (· = d)) (.refl _ _) (fun _ => rfl) _) (fun e => h.dm e.symm), hM⟩, World.ownsRow_nil _ _ _ _,
    ⟨h.ok.1, h.ok.2.1, h.ok.2.2.1, fun p hp => by simp at hp⟩, h.dm, h.df, h.mf, fun k hk => by simp [Value.ownBlock] at hk⟩
set_option maxRecDepth 100000 in
set_option maxHeartbeats 1600000 in
theorem dsync_any (d f m : Nat) (v : Value) (D : Dk) (z : Fz) (w : World) (h : DiskAt w d f m v D) (hz : FzAt w f z) :
    Calls Try.prog 26 #[.pointer (some ⟨d, 0, none⟩)] w fun e w' => e = .returned (.int .i64 (doSync D z).1) ∧ DAfter w w' d f m v (doSync D z).2.1 (doSync D z).2.2 := by
  have HH := Lib.hid h
  have HF := Lib.hid hz
  have c0 : w.cell? ⟨d, 0, none⟩ = some (.pointer (some ⟨f, 0, none⟩)) := (cell_of h.blk 0).trans rfl
  clear h hz
  rcases z.burn_cases with ⟨hb, _⟩ | hb
  · have HE : Hid (doSync D z = (0, D.sync, z.burn.2)) := by unfold Hid doSync; rw [if_pos hb]
    have HB := Lib.hid hb
    clear hb
    go_enter Try.func26, Try.ntmps26
    go_wp2_with (fail)
    refine (fburn_any f z _ HF.out).mono ?_
    rw [HB.out]
    rintro e w1 ⟨rfl, hw1⟩
    have h1 : DiskAt w1 d f m v D := by rw [hw1]; exact HH.out.burn _
    have z1 : FzAt w1 f z.burn.2 := by rw [hw1]; exact HF.out.set (Nat.le_trans (Fz.burn_left z) HF.out.2)
    have k1 : Keeps (Own d f m v) w w1 := by rw [hw1]; exact keeps_burn d f m v _
    obtain ⟨A, cap, rfl⟩ := ownsRow_is h1.row
    have c4 : w1.cell? ⟨d, 4, none⟩ = some (.slice A D.P.length cap) := (cell_of h1.blk 4).trans rfl
    have hpl := row_len h1.row
    unfold maxLen at hpl
    have H1 := Lib.hid h1
    have Z1 := Lib.hid z1
    have K1 := Lib.hid k1
    clear hw1 c0 h1 z1 k1
    go_wp2_with (fail)
    go_loopw [23] (fun v23 wr => ∃ i : Nat, i ≤ D.P.length ∧ v23 = .int .i64 i ∧ Hid (DiskAt wr d f m (.slice A D.P.length cap) ⟨putAll (D.P.take i) D.S, D.P, D.full⟩ ∧ Keeps (· = m) w1 wr)) (fun v23 _ => D.P.length - (intOf v23).toNat)
    case atStart => exact ⟨0, Nat.zero_le _, rfl, H1.out, .refl _ _⟩
    case round =>
      obtain ⟨i, hi, rfl, hrl⟩ := hrel
      by_cases hlt : i < D.P.length
      · obtain ⟨g, rfl, e0, e1⟩ := wcell_at hrl.out.1.row rfl hlt
        have HP := Lib.hid (HH.out.ok.2.2.2 D.P[i] (List.getElem_mem hlt))
        have HT : Hid (putAll (D.P.take (i + 1)) D.S = (putAll (D.P.take i) D.S).set D.P[i].1 D.P[i].2) := by
          unfold Hid
          rw [List.take_succ_eq_append_getElem hlt, putAll_append]
          rfl
        obtain ⟨⟨a, s⟩, hp⟩ : ∃ p, D.P[i] = p := ⟨_, rfl⟩
        rw [hp] at e0 e1 HP HT
        dsimp only at e0 e1 HP HT
        clear hp
        have e0' : wr.cell? (Addr.add ⟨g, 0, none⟩ (i * 2)) = some (.int .i64 (a : Int)) := by rw [add_eq, Nat.zero_add]; exact e0
        have n2 := alloc_new wr (.cells #[.int .i64 a, .string (S s)] 105)
        have b2 := alloc_below wr (.cells #[.int .i64 a, .string (S s)] 105)
        go_wp2_with (fail)
        revert n2 b2
        generalize wr.alloc (.cells #[.int .i64 a, .string (S s)] 105) = w2
        intro n2 b2
        have x0 : w2.cell? ⟨wr.heap.size, 0, none⟩ = some (.int .i64 a) := (cell_of n2 0).trans rfl
        have x1 : w2.cell? ⟨wr.heap.size, 1, none⟩ = some (.string (S s)) := (cell_of n2 1).trans rfl
        have b3 : Below wr.heap.size wr w2.drew := b2.drew
        have H2 := Lib.hid (hrl.out.1.below b3)
        have K2 := Lib.hid (hrl.out.2.trans (Keeps.of_below b3))
        clear n2 b2 b3 e0 e1 e0'
        go_region_with (go_at_call 54; refine (dkeep_any d f m _ _ a s _ H2.out (by rw [putAll_length]; exact HP.out.1) HP.out.2).mono ?_; rintro e w3 ⟨rfl, k3, h3⟩)
        have H3 := Lib.hid h3
        have K3 := Lib.hid (K2.out.trans k3)
        clear h3 k3 x0 x1
        go_wp2_with (fail)
        go_roundw
        case rel => exact ⟨i + 1, by omega, by go_num, by unfold Hid; rw [HT.out]; exact ⟨H3.out, K3.out⟩⟩
        case measure => simp [intOf]; omega
      · obtain rfl : i = D.P.length := by omega
        rw [List.take_length] at hrl
        have hr1 := hrl.out.1
        have g4 := hr1.blk
        have x4 : wr.cell? ⟨d, 4, none⟩ = some (.slice A D.P.length cap) := (cell_of g4 4).trans rfl
        have f4 := free_of g4 4
        have HR := hrl
        clear g4 hr1 hrl hlt hi c4
        go_wp2
        go_ret
        rw [HE.out]
        have h4 := HR.out.1
        have e := setCell_block h4.blk 4 (.slice none 0 0)
        rw [e]
        have k4 : Keeps (Own d f m (.slice A D.P.length cap)) wr (setBlock wr d (.cells ((dcells f m (.slice A D.P.length cap) ⟨putAll D.P D.S, D.P, D.full⟩).setIfInBounds 4 (.slice none 0 0)) 103 (0, 0))) := Keeps.setBlock (S := Own d f m (.slice A D.P.length cap)) (.refl _ _) (fun _ => .inl rfl) _
        have k2 : Keeps (Own d f m (.slice A D.P.length cap)) w1 wr := HR.out.2.mono (fun _ _ hk => .inr (.inr (.inl hk)))
        exact ⟨rfl, .slice none 0 0, h4.noPend, (Z1.out.keeps HR.out.2 (fun e => h4.mf e.symm)).keeps (Keeps.setBlock (S := (· = d)) (.refl _ _) (fun _ => rfl) _) (fun e => h4.df e.symm), (K1.out.trans k2).trans k4, fun k hk => by simp [Value.ownBlock] at hk⟩
  · have HE : Hid (doSync D z = (10, D, z.burn.2)) := by unfold Hid doSync; rw [if_neg (by rw [hb]; decide), hb]
    have HB := Lib.hid hb
    clear hb
    go_enter Try.func26, Try.ntmps26
    go_wp2_with (fail)
    refine (fburn_any f z _ HF.out).mono ?_
    rw [HB.out]
    rintro e w1 ⟨rfl, rfl⟩
    go_wp2
    go_ret
    rw [HE.out]
    exact ⟨rfl, v, HH.out.burn _, HF.out.set (Nat.le_trans (Fz.burn_left z) HF.out.2), keeps_burn d f m v _, fun _ hk => .inl hk⟩
set_option maxHeartbeats 800000 in
theorem ddurable_any (d f m : Nat) (v : Value) (D : Dk) (i : Int) (w : World) (h : DiskAt w d f m v D) :
    Calls Try.prog 21 #[.pointer (some ⟨d, 0, none⟩), .int .i64 i] w fun e w' => e = .returned (.string (S (doDurable D i))) ∧ Below w.heap.size w w' := by
  have HH := Lib.hid h
  clear h
  rcases hasE_cases D i with ⟨he, h0, hi, hc⟩ | ⟨he, hn⟩
  · have HE : Hid (doDurable D i = secAt D.S i.toNat) := by unfold Hid doDurable; rw [if_pos he]
    obtain ⟨n, rfl⟩ : ∃ n : Nat, i = n := ⟨i.toNat, by omega⟩
    rw [Int.toNat_natCast] at hi HE
    have HEE := Lib.hid he
    clear he h0 hc
    go_enter Try.func21, Try.ntmps21
    go_wp2_with (fail)
    refine (dhas_any d f m v D n _ HH.out).mono ?_
    rw [HEE.out]
    rintro e w' ⟨rfl, rfl⟩
    go_wp2_with (fail)
    refine (dkept_any d f m v D n _ HH.out hi).mono ?_
    rintro e w1 ⟨rfl, b1⟩
    go_wp2
    go_ret
    rw [HE.out]
    exact ⟨rfl, b1⟩
  · have HE : Hid (doDurable D i = []) := by unfold Hid doDurable; rw [if_neg (by rw [he]; decide)]
    have HEE := Lib.hid he
    clear he hn
    go_enter Try.func21, Try.ntmps21
    go_wp2_with (fail)
    refine (dhas_any d f m v D i _ HH.out).mono ?_
    rw [HEE.out]
    rintro e w' ⟨rfl, rfl⟩
    go_wp2
    go_ret
    rw [HE.out]
    exact ⟨rfl, .refl _ _⟩
set_option maxHeartbeats 400000 in
theorem dsectors_any (d f m : Nat) (v : Value) (D : Dk) (w : World) (h : DiskAt w d f m v D) :
    Calls Try.prog 35 #[.pointer (some ⟨d, 0, none⟩)] w fun e w' => e = .returned (.int .i64 D.S.length) ∧ w' = w := by
  have c1 : w.cell? ⟨d, 1, none⟩ = some (.int .i64 D.S.length) := (cell_of h.blk 1).trans rfl
  clear h
  go_enter Try.func35, Try.ntmps35
  go_wp2
  go_ret
  exact ⟨rfl, rfl⟩
set_option maxHeartbeats 400000 in
theorem dfull_any (d f m : Nat) (v : Value) (D : Dk) (w : World) (h : DiskAt w d f m v D) :
    Calls Try.prog 34 #[.pointer (some ⟨d, 0, none⟩)] w fun e w' => e = .returned (.bool D.full) ∧ w' = w := by
  have c1 : w.cell? ⟨d, 2, none⟩ = some (.bool D.full) := (cell_of h.blk 2).trans rfl
  clear h
  go_enter Try.func34, Try.ntmps34
  go_wp2
  go_ret
  exact ⟨rfl, rfl⟩
set_option maxHeartbeats 400000 in
theorem dsetfull_any (d f m : Nat) (v : Value) (D : Dk) (b : Bool) (w : World) (h : DiskAt w d f m v D) :
    Calls Try.prog 33 #[.pointer (some ⟨d, 0, none⟩), .bool b] w fun e w' => e = .returned (.tuple #[]) ∧ DiskAt w' d f m v ⟨D.S, D.P, b⟩ ∧ Keeps (· = d) w w' := by
  have c1 : w.cell? ⟨d, 2, none⟩ = some (.bool D.full) := (cell_of h.blk 2).trans rfl
  have f1 := free_of h.blk 2
  have H := Lib.hid h
  clear h
  go_enter Try.func33, Try.ntmps33
  go_wp2
  go_end0
  have e := setCell_block H.out.blk 2 (.bool b)
  rw [e]
  have k : Keeps (· = d) w (setBlock w d (.cells ((dcells f m v D).setIfInBounds 2 (.bool b)) 103 (0, 0))) := Keeps.setBlock (S := (· = d)) (.refl _ _) (fun _ => rfl) _
  obtain ⟨M, hm, hM⟩ := H.out.map
  exact ⟨rfl, ⟨setBlock_same (Array.getElem?_eq_some_iff.1 H.out.blk).1 _, ⟨M, hm.keeps k (fun e => H.out.dm e.symm), hM⟩, row_keeps H.out.row k (fun x hx e => (H.out.vn x hx).1 e), H.out.ok, H.out.dm, H.out.df, H.out.mf, H.out.vn⟩, k⟩
end Go.Proofs.Ytjpelmjocdodcaa
