/- record.Parts, record.Sectors. -/
import Derived.Maps.AppendAt
import Derived.Test.YtjpelmjocdodcaaRecPieces
import Derived.Test.YtjpelmjocdodcaaAppend
import Derived.Test.YtjpelmjocdodcaaDiskRead
namespace Go.Proofs.Ytjpelmjocdodcaa
open Go.RowKit Go.Shelf

attribute [local go_sem] Oper.semAt_some

def rstrs (l : List (List UInt8)) : List Value := l.map fun s => .string (S s)
/-- What Parts returns. -/
def partsOf (n : Int) : Int × Int := if n < 0 then (0, 3) else if 4096 < n then (0, 5) else (npart n.toNat, 0)
theorem parts_val {n : Int} (h0 : 0 ≤ n) (h1 : n ≤ 4096) : max 1 ((n + 44 - 1) / 44) = (npart n.toNat : Nat) := by
  unfold npart
  omega
set_option maxHeartbeats 1000000 in
theorem parts_any (n : Int) (w : World) :
    Calls Try.prog 39 #[.int .i64 n] w fun e w' => e = .returned (.tuple #[.int .i64 (partsOf n).1, .int .i64 (partsOf n).2]) ∧ w' = w := by
  by_cases h0 : n < 0
  · unfold partsOf
    rw [if_pos h0]
    go_enter Try.func39, Try.ntmps39
    go_wp2
    go_ret2
    exact ⟨rfl, rfl⟩
  · by_cases h1 : 4096 < n
    · unfold partsOf
      rw [if_neg h0, if_pos h1]
      go_enter Try.func39, Try.ntmps39
      go_wp2
      go_ret2
      exact ⟨rfl, rfl⟩
    · unfold partsOf
      rw [if_neg h0, if_neg h1]
      have hp := parts_val (n := n) (by omega) (by omega)
      go_enter Try.func39, Try.ntmps39
      go_wp2
      go_ret2
      exact ⟨by rw [← hp]; rfl, rfl⟩
theorem new_at (w : World) (L : List Obj) : (L.foldl World.alloc w).heap.size = w.heap.size + L.length ∧ (∀ i o, L[i]? = some o → (L.foldl World.alloc w).heap[w.heap.size + i]? = some o) ∧ Below w.heap.size w (L.foldl World.alloc w) := by
  induction L generalizing w with
  | nil => exact ⟨rfl, fun i o h => by simp at h, .refl _ _⟩
  | cons o L ih =>
    obtain ⟨h1, h2, h3⟩ := ih (w.alloc o)
    rw [alloc_size] at h1 h2 h3
    refine ⟨by rw [List.foldl_cons, h1, List.length_cons]; omega, fun i u hu => ?_, (alloc_below w o).trans (h3.mono (by omega))⟩
    rw [List.foldl_cons]
    cases i with
    | zero => rw [h3.block _ (by omega)]; obtain rfl := Option.some.inj hu; exact alloc_new w o
    | succ i => rw [show w.heap.size + (i + 1) = w.heap.size + 1 + i by omega]; exact h2 i u hu
theorem wpListIn_append_eq {F : Fence} {n : Nat} {P : Program} {ops : Array Oper} {rest : List Oper} {o : Oper} {a : Act} {w : World} {Q : Exit → Act → World → Prop} (hgd : o.guard = none) (s x : Operand) (t : TypeId)
    (ho : o.op = .call { callee := .builtin .append, args := #[s, x], argTypes := #[t, t] }) (v u : Value) (hs : a.eval s = v) (hx : a.eval x = u) (v' : Value) (w' : World)
    (hrun : (Builtin.append_ #[t, t] o.type #[v, u]).run P w = .ok v' w') (h : wpListIn F n P ops Q rest (a.put o.dst v') w') : wpListIn F n P ops Q (o :: rest) a w := by
  refine wpListIn_plain hgd fun K hK => ?_
  unfold Oper.wpIn
  refine ⟨?_, ?_⟩
  · simp [Oper.about, ho, resolve, Target.leads, Sem.run_pure]
  · rw [Oper.semAt_plain F _ _ (by rw [ho]; intro c hc; cases hc)]
    simp [execOp, ho, resolve, invoke, builtin, hs, hx, hrun, Result.andThen]
    exact hK _ _ h
set_option maxRecDepth 100000 in
set_option maxHeartbeats 4000000 in
theorem sectors_long (boot lsn kind : Int) (t : List UInt8) (ht : 4096 < t.length) (w : World) :
    Calls Try.prog 41 #[.int .i64 boot, .int .i64 lsn, .int .u8 kind, .string (S t)] w fun e w' => e = .returned (.tuple #[.slice none 0 0, .int .i64 5]) ∧ Below w.heap.size w w' := by
  have hp : partsOf t.length = (0, 5) := by unfold partsOf; rw [if_neg (by omega), if_pos (by omega)]
  go_enter Try.func41, Try.ntmps41
  go_wp2_with (go_at_call 39; refine (parts_any _ _).mono ?_; rw [hp]; rintro e w' ⟨rfl, rfl⟩)
  obtain ⟨hs, hn, hb⟩ := new_at w [.cells #[.int .i64 boot] 3, .cells #[.int .i64 lsn] 3, .cells #[.int .u8 kind] 5, .cells #[.slice none 0 0] 25, .cells #[.int .i64 5] 30, .cells #[.int .i64 0] 3]
  simp only [List.foldl_cons, List.foldl_nil] at hs hn hb
  have x3 := (cell_of (hn 3 _ rfl) 0).trans rfl
  have x4 := (cell_of (hn 4 _ rfl) 0).trans rfl
  refine bodyPost_ret (results_cells2 rfl _ _ _ _ (.slice none 0 0) (.int .i64 5) rfl rfl (by simp [loadVar, go_sem, x3]) (by simp [loadVar, go_sem, x4])) rfl ?_
  exact ⟨rfl, hb⟩
/-- Sectors' variables that its loop has captured. -/
structure SB (W : World) (b0 b1 b2 b3 b4 b5 : Nat) (boot lsn kind parts : Int) : Prop where
  x0 : Boxed W b0 3 (.int .i64 boot)
  x1 : Boxed W b1 3 (.int .i64 lsn)
  x2 : Boxed W b2 5 (.int .u8 kind)
  x3 : Boxed W b3 25 (.slice none 0 0)
  x4 : Boxed W b4 30 (.int .i64 0)
  x5 : Boxed W b5 3 (.int .i64 parts)
theorem SB.kept {W W' : World} {row : Option Nat} {b0 b1 b2 b3 b4 b5 : Nat} {boot lsn kind parts : Int} (h : SB W b0 b1 b2 b3 b4 b5 boot lsn kind parts) (hg : W.grownBy W' row)
    (n0 : some b0 ≠ row) (n1 : some b1 ≠ row) (n2 : some b2 ≠ row) (n3 : some b3 ≠ row) (n4 : some b4 ≠ row) (n5 : some b5 ≠ row) : SB W' b0 b1 b2 b3 b4 b5 boot lsn kind parts :=
  ⟨h.x0.kept hg n0, h.x1.kept hg n1, h.x2.kept hg n2, h.x3.kept hg n3, h.x4.kept hg n4, h.x5.kept hg n5⟩
theorem SB.below {W W' : World} {b0 b1 b2 b3 b4 b5 : Nat} {boot lsn kind parts : Int} (h : SB W b0 b1 b2 b3 b4 b5 boot lsn kind parts) (hb : Below W.heap.size W W') : SB W' b0 b1 b2 b3 b4 b5 boot lsn kind parts :=
  ⟨(hb.block _ h.x0.lt).trans h.x0, (hb.block _ h.x1.lt).trans h.x1, (hb.block _ h.x2.lt).trans h.x2, (hb.block _ h.x3.lt).trans h.x3, (hb.block _ h.x4.lt).trans h.x4, (hb.block _ h.x5.lt).trans h.x5⟩
theorem SB.alloc {W : World} {b0 b1 b2 b3 b4 b5 : Nat} {boot lsn kind parts : Int} (h : SB W b0 b1 b2 b3 b4 b5 boot lsn kind parts) (o : Obj) : SB (W.alloc o) b0 b1 b2 b3 b4 b5 boot lsn kind parts :=
  h.kept (World.grownBy_alloc W o none) nofun nofun nofun nofun nofun nofun
theorem SB.set {W : World} {b0 b1 b2 b3 b4 b5 b6 : Nat} {boot lsn kind parts : Int} (h : SB W b0 b1 b2 b3 b4 b5 boot lsn kind parts) (n0 : b0 ≠ b6) (n1 : b1 ≠ b6) (n2 : b2 ≠ b6) (n3 : b3 ≠ b6) (n4 : b4 ≠ b6) (n5 : b5 ≠ b6) (u : Value) : SB (W.setCell ⟨b6, 0, none⟩ u) b0 b1 b2 b3 b4 b5 boot lsn kind parts :=
  ⟨h.x0.other n0 u, h.x1.other n1 u, h.x2.other n2 u, h.x3.other n3 u, h.x4.other n4 u, h.x5.other n5 u⟩
theorem SB.own {β : Type} {b0 b1 b2 b3 b4 b5 : Nat} {boot lsn kind parts : Int}   : Go.Own (fun (_ : β) W => SB W b0 b1 b2 b3 b4 b5 boot lsn kind parts) := fun _ A B row hs hg hr =>
  ⟨boxed_own (β := Unit) b0 _ (fun _ => .int .i64 boot) () A B row hs.x0 hg hr, boxed_own (β := Unit) b1 _ (fun _ => .int .i64 lsn) () A B row hs.x1 hg hr, boxed_own (β := Unit) b2 _ (fun _ => .int .u8 kind) () A B row hs.x2 hg hr,
    boxed_own (β := Unit) b3 _ (fun _ => .slice none 0 0) () A B row hs.x3 hg hr, boxed_own (β := Unit) b4 _ (fun _ => .int .i64 0) () A B row hs.x4 hg hr, boxed_own (β := Unit) b5 _ (fun _ => .int .i64 parts) () A B row hs.x5 hg hr⟩
theorem keepsOthers_below {W W' : World} (h : Below W.heap.size W W') : KeepsOthers W W' := ⟨h.size, fun k _ hk _ => (h.block k (Array.getElem?_eq_some_iff.1 hk).1).trans hk⟩
/-- Encode of a piece that is handed on. -/
def pcE (boot lsn kind parts : Int) (x : Pc) : List UInt8 × Int := fencOf boot lsn x.i parts kind x.d
theorem pcE_at {boot lsn kind : Int} {t : List UInt8} {k : Nat} (g : Nat) (ht : t.length ≤ 4096) (hk : k < npart t.length) :
    pcE boot lsn kind (npart t.length : Nat) (pcAt g t k) = if ROk boot lsn then ((recF boot lsn kind t k).sec, 0) else ([], 2) := fencOf_piece ht hk
theorem pc_done {boot lsn kind : Int} {t : List UInt8} {g : Nat} (ht : t.length ≤ 4096) (h : ∀ x ∈ pcUp g t (npart t.length), (pcE boot lsn kind (npart t.length : Nat) x).2 = 0) :
    (recSecs boot lsn kind t).2 = 0 ∧ (recSecs boot lsn kind t).1.length = npart t.length ∧ (pcUp g t (npart t.length)).map (fun x => Value.string (S (pcE boot lsn kind (npart t.length : Nat) x).1)) = rstrs (recSecs boot lsn kind t).1 := by
  have hp := npart_pos t.length
  have h0 := h (pcAt g t 0) (List.mem_map.2 ⟨0, List.mem_range.2 (by omega), rfl⟩)
  rw [pcE_at g ht (by omega)] at h0
  by_cases hb : ROk boot lsn
  · rw [recSecs_ok ht hb]
    refine ⟨rfl, by simp, ?_⟩
    unfold pcUp rstrs
    rw [List.map_map, List.map_map]
    refine List.map_congr_left fun k hk => ?_
    show Value.string (S (pcE boot lsn kind (npart t.length : Nat) (pcAt g t k)).1) = _
    rw [pcE_at g ht (List.mem_range.1 hk), if_pos hb]
    rfl
  · rw [if_neg hb] at h0
    simp at h0
theorem pc_stop {boot lsn kind : Int} {t : List UInt8} {g k : Nat} (ht : t.length ≤ 4096) (hk : k < npart t.length) {ini : List Pc} {x : Pc} (e : pcUp g t (k + 1) = ini ++ [x]) (h : ¬ (pcE boot lsn kind (npart t.length : Nat) x).2 = 0) :
    recSecs boot lsn kind t = ([], 2) ∧ (pcE boot lsn kind (npart t.length : Nat) x).2 = 2 := by
  rw [pcUp_succ] at e
  obtain ⟨-, e6⟩ := List.append_inj' e rfl
  obtain rfl : pcAt g t k = x := by simpa using e6
  rw [pcE_at g ht hk] at h ⊢
  by_cases hb : ROk boot lsn
  · rw [if_pos hb] at h
    exact absurd rfl h
  · rw [if_neg hb]
    exact ⟨recSecs_bad ht hb, rfl⟩
theorem pc_conv {W : World} {x : Pc} (h : x.Good W) : (convert 83 9 (.slice (some ⟨x.g, x.at_, none⟩) x.d.length x.d.length)).run Try.prog W = .ok (.string (S x.d)) W := by
  obtain ⟨C, fr, h1, h2⟩ := h
  exact run_convert_bytes_back W _ _ 5 ⟨x.g, x.at_, none⟩ x.d.length x.d Try.underlying83 Try.underlying5 Try.underlying9 (fun j hj => by rw [add_eq, cell_of h1]; exact h2 j hj)
theorem brow_below {w w' : World} {base e sz n : Nat} {v : Value} {xs : List Value} (h : w.ownsRow base e sz v n xs) (hb : Below w.heap.size w w') : w'.ownsRow base e sz v n xs := by
  refine ⟨h.1, ?_⟩
  rcases h.2 with h2 | ⟨g, cap, cur, rfl, h3, hg, r⟩
  · exact .inl h2
  · exact .inr ⟨g, cap, cur, rfl, h3, (hb.block g (Array.getElem?_eq_some_iff.1 hg).1).trans hg, r⟩
theorem brow_cells {w : World} {base e sz n : Nat} {v : Value} {xs : List Value} (h : w.ownsRow base e sz v n xs) : ∀ r, v.ownBlock = some r → ∃ (C : Array Value) (fr : Nat × Nat), w.heap[r]? = some (Obj.cells C e fr) := fun r hr => by
  rcases h.2 with ⟨rfl, _⟩ | ⟨g, cap, cur, rfl, h3, hg, _⟩
  · simp [Value.ownBlock] at hr
  · obtain rfl : g = r := by simpa [Value.ownBlock] using hr
    exact ⟨_, _, hg⟩
theorem str_info : (Try.prog.info? 9).map (fun i => (i.zero, i.size, i.bytes)) = some (some (.string ⟨#[]⟩), 1, 16) := by kernel_rfl
set_option maxRecDepth 100000 in
set_option maxHeartbeats 4000000 in
theorem sectors_any0 (boot lsn kind : Int) (hkd : 0 ≤ kind ∧ kind < 256) (t : List UInt8) (ht : t.length ≤ 4096) (w : World) :
    Calls Try.prog 41 #[.int .i64 boot, .int .i64 lsn, .int .u8 kind, .string (S t)] w fun e w' =>
      ∃ v, e = .returned (.tuple #[v, .int .i64 (recSecs boot lsn kind t).2]) ∧ w'.ownsRow w.heap.size 9 1 v (recSecs boot lsn kind t).1.length (rstrs (recSecs boot lsn kind t).1) ∧ Below w.heap.size w w' := by
  have hp : partsOf t.length = (((npart t.length : Nat) : Int), 0) := by unfold partsOf; rw [if_neg (by omega), if_neg (by omega), Int.toNat_natCast]
  refine (callsIn_wide (n := 3)).1 ?_
  refine callsIn_of_wp_marks Try.func41 rfl trivial ?_ rfl
  simp only [Try.ntmps41, List.size_toArray, List.length_cons, List.length_nil, Nat.reduceAdd, Nat.reduceSub, Array.replicate_succ, Array.replicate_zero, List.push_toArray, List.append_toArray, List.nil_append, List.cons_append]
  refine wpIn_wide.2 ?_
  go_wp2_with (first | (go_at_call 39; refine (parts_any _ _).mono ?_; rw [hp]; rintro e w' ⟨rfl, rfl⟩) | fail)
  obtain ⟨hs, hn, hb⟩ := new_at w [.cells #[.int .i64 boot] 3, .cells #[.int .i64 lsn] 3, .cells #[.int .u8 kind] 5, .cells #[.slice none 0 0] 25, .cells #[.int .i64 0] 30, .cells #[.int .i64 (npart t.length : Nat)] 3, .cells #[.slice none 0 0] 25]
  simp only [List.foldl_cons, List.foldl_nil, List.length_cons, List.length_nil] at hs hn hb
  have B0 := hn 0 _ rfl
  have B1 := hn 1 _ rfl
  have B2 := hn 2 _ rfl
  have B3 := hn 3 _ rfl
  have B4 := hn 4 _ rfl
  have B5 := hn 5 _ rfl
  have B6 := hn 6 _ rfl
  obtain ⟨W, hW⟩ : ∃ W, ((((((w.alloc (.cells #[.int .i64 boot] 3)).alloc (.cells #[.int .i64 lsn] 3)).alloc (.cells #[.int .u8 kind] 5)).alloc (.cells #[.slice none 0 0] 25)).alloc (.cells #[.int .i64 0] 30)).alloc (.cells #[.int .i64 (npart t.length : Nat)] 3)).alloc (.cells #[.slice none 0 0] 25) = W := ⟨_, rfl⟩
  rw [hW] at hs hb B0 B1 B2 B3 B4 B5 B6
  clear hn
  rw [hW]
  clear hW hp
  refine (pieces_in t W).mono ?_
  rintro e w4 ⟨rfl, h4⟩
  have n7 := alloc_new W (.cells #[.string (S t)] 9)
  have b7 := alloc_below W (.cells #[.string (S t)] 9)
  have s7 := alloc_size W (.cells #[.string (S t)] 9)
  rw [← h4] at n7 b7 s7
  clear h4
  go_wp2_with (fail)
  have c7 := (cell_of n7 0).trans rfl
  have hs4 : w4.heap.size = w.heap.size + 8 := by rw [s7, hs]
  have hSB : SB W w.heap.size (w.heap.size + 1) (w.heap.size + 1 + 1) (w.heap.size + 1 + 1 + 1) (w.heap.size + 1 + 1 + 1 + 1) (w.heap.size + 1 + 1 + 1 + 1 + 1) boot lsn kind (npart t.length : Nat) := ⟨B0, B1, B2, B3, B4, B5⟩
  have hSB4 := Lib.hid (hSB.below b7)
  have hB6 := Lib.hid (show Boxed w4 (w.heap.size + 1 + 1 + 1 + 1 + 1 + 1) 25 (.slice none 0 0) from (b7.block _ (by rw [hs]; omega)).trans B6)
  have HB4 := Lib.hid (below_step b7 hb (Nat.le_refl _))
  have HS4 := Lib.hid hs4
  have C7 : Hid (w4.cell? ⟨w.heap.size + 7, 0, none⟩ = some (.string (S t))) := by rw [hs] at c7; exact c7
  clear B0 B1 B2 B3 B4 B5 B6 hSB b7 hb n7 s7 c7 hs4 hs
  refine (wpIn_wide (n := 3)).1 ?_
  refine wpIn_seq_good (α := Pc) (gf := 84) (lb := #[.pointer (some ⟨w.heap.size + 7, 0, none⟩)]) rfl (enters_of Try.func84 (by kernel_rfl) rfl)
    (encs := Pc.encs) (fun _ => rfl) (Good := Pc.Good) (T := 5) (fun x A B => Pc.Good.keep x A B) (R := fun ys => ∃ g, ys = pcUp g t (npart t.length)) (Rp := fun pre => ∃ g k, k < npart t.length ∧ pre = pcUp g t (k + 1)) (N := npart t.length)
    (fun l J Jx W' hW' hJ _ hY h0 => pieces1_in l (w.heap.size + 7) t ht J Jx W' hJ hY ((hW'.cell (p := ⟨w.heap.size + 7, 0, none⟩) (by rw [HS4.out]; show w.heap.size + 7 < _; omega)).trans C7.out) h0)
    (fun pre W' => ((∀ x ∈ pre, (pcE boot lsn kind (npart t.length : Nat) x).2 = 0) ∧ SB W' w.heap.size (w.heap.size + 1) (w.heap.size + 1 + 1) (w.heap.size + 1 + 1 + 1) (w.heap.size + 1 + 1 + 1 + 1) (w.heap.size + 1 + 1 + 1 + 1 + 1) boot lsn kind (npart t.length : Nat) ∧
      ∃ v, Boxed W' (w.heap.size + 1 + 1 + 1 + 1 + 1 + 1) 25 v ∧ W'.ownsRow w.heap.size 9 1 v pre.length (pre.map fun x => .string (S (pcE boot lsn kind (npart t.length : Nat) x).1)) ∧ True) ∧ Below w.heap.size w W')
    (fun c pre W' => (c = .ret ∧ ∃ ini x, pre = ini ++ [x] ∧ ¬ (pcE boot lsn kind (npart t.length : Nat) x).2 = 0 ∧ W'.cell? ⟨w.heap.size + 1 + 1 + 1, 0, none⟩ = some (.slice none 0 0) ∧ W'.cell? ⟨w.heap.size + 1 + 1 + 1 + 1, 0, none⟩ = some (.int .i64 (pcE boot lsn kind (npart t.length : Nat) x).2)) ∧ Below w.heap.size w W')
    (OwnFrom.and (Go.Own.from (fun s A B row hs hg hr => ⟨hs.1, SB.own (β := Unit) () A B row hs.2.1 hg hr, holdsRow_own w.heap.size _ _ 9 1 (fun pre : List Pc => pre.length) (fun pre => pre.map fun x => .string (S (pcE boot lsn kind (npart t.length : Nat) x).1)) (fun _ _ => True) s A B row hs.2.2 hg hr⟩) _) (ownFrom_below (Nat.le_refl _) (by rw [HS4.out]; omega)))
    (fun c => OwnFrom.and (Go.Own.from (fun s A B row hs hg hr => by obtain ⟨hc, ini, x, e1, e2, e3, e4⟩ := hs; exact ⟨hc, ini, x, e1, e2, cell_kept e3 hg hr, cell_kept e4 hg hr⟩) _) (ownFrom_below (Nat.le_refl _) (by rw [HS4.out]; omega)))
    ⟨⟨by simp, hSB4.out, _, hB6.out, World.ownsRow_nil _ _ _ _, trivial⟩, HB4.out⟩
    (fun x => { tmps := #[.int .i64 boot, .int .i64 lsn, .int .u8 kind, .string (S t), .pointer (some ⟨w.heap.size, 0, none⟩), .pointer (some ⟨w.heap.size + 1, 0, none⟩), .pointer (some ⟨w.heap.size + 1 + 1, 0, none⟩), undef, .pointer (some ⟨w.heap.size + 1 + 1 + 1, 0, none⟩), .pointer (some ⟨w.heap.size + 1 + 1 + 1 + 1, 0, none⟩),
      .pointer (some ⟨w.heap.size + 1 + 1 + 1 + 1 + 1, 0, none⟩), .int .i64 0, .pointer (some ⟨w.heap.size + 1 + 1 + 1 + 1 + 1 + 1, 0, none⟩), .int .i64 x.i, .slice (some ⟨x.g, x.at_, none⟩) x.d.length x.d.length, undef, undef,
      .tuple #[.int .i64 (npart t.length : Nat), .int .i64 0], .string (S t), .int .i64 t.length, .tuple #[.int .i64 (npart t.length : Nat), .int .i64 0], .int .i64 (npart t.length : Nat), .int .i64 0, .int .i64 0, .bool false, undef, .string (S t), .func (.func 84) #[] #[.pointer (some ⟨w.heap.size + 7, 0, none⟩)],
      .int .i64 x.i, .slice (some ⟨x.g, x.at_, none⟩) x.d.length x.d.length, undef, undef, undef, undef, undef, undef, undef, undef, undef, undef, undef, undef, undef, undef, undef, undef, undef, undef, undef, undef], defers := [] }) ?assign ?body ?done ?stop
  case assign =>
    rintro l ⟨i, g, a, d⟩ W' K hK
    simp only [Pc.encs]
    gi_wp2
    exact hK
  case body =>
    rintro l pre x W' ⟨⟨hall, hsb, v, hv, hrow, -⟩, hB⟩ hgood hlen
    have hn94 := npart_le ht
    have hconv := pc_conv hgood
    obtain ⟨i, g, a, d⟩ := x
    dsimp only at hconv ⊢
    obtain ⟨⟨sx, er⟩, hx⟩ : ∃ p, pcE boot lsn kind (npart t.length : Nat) ⟨i, g, a, d⟩ = p := ⟨_, rfl⟩
    have hx' : fencOf boot lsn i (npart t.length : Nat) kind d = (sx, er) := hx
    have hE := fEncode_any boot lsn i (npart t.length : Nat) kind d W' hkd
    unfold fval at hE
    rw [hx'] at hE
    dsimp only at hE
    have c0 := hsb.x0.cell
    have c1 := hsb.x1.cell
    have c2 := hsb.x2.cell
    have c5 := hsb.x5.cell
    have HX := Lib.hid hx
    have HALL := Lib.hid hall
    have HB := Lib.hid hB
    have HSB := Lib.hid hsb
    have HROW := Lib.hid hrow
    clear hx hx' hall hB hsb hgood hrow
    gi_wp2_with (fail)
    refine ⟨trivial, (CallsIn.inRound l (callsIn_wide.2 hE)).mono ?_⟩
    rintro e w3 ⟨rfl, b3⟩
    by_cases her : er = 0
    · subst her
      have hv3 : Boxed w3 (w.heap.size + 1 + 1 + 1 + 1 + 1 + 1) 25 v := (b3.block _ hv.lt).trans hv
      have cv := hv3.cell
      have hb3 := HB.out.size
      have hrow3 := brow_below HROW.out b3
      have n8 := cell_one_new w3 (.string (S sx)) 9
      obtain ⟨i0, hi, hz0, hz1, hz2⟩ := info_parts str_info
      obtain ⟨v', w5, hrun, hown, hgr, hnil⟩ := run_append_own (P := Try.prog) (w := w3.alloc (.cells #[.string (S sx)] 9)) w.heap.size 25 25 9 i0 (.string ⟨#[]⟩) 1 16 Try.underlying25 hi hz0 hz1 hz2 rfl (by decide) v pre.length _ (hrow3.alloc _) ⟨w3.heap.size, 0, none⟩ 1 1 [.string (S sx)] rfl n8 (by intro u hu; simp at hu; subst hu; rfl) (by unfold maxLen; omega) (by omega) (by have := b3.size; rw [alloc_size]; omega)
      obtain ⟨A', cap', rfl⟩ := ownsRow_is hown
      have hbb := hv3.appended (by decide) hrow3 (by have := b3.size; omega) (by omega) hown hgr
      obtain ⟨hv1, hv2, hr2, hk2, hb2⟩ := hbb
      have cv1 := hv1.cell
      have fv1 := hv1.frozen
      have HRUN := Lib.hid hrun
      clear hrun
      gi_wp2_with (first | (gi_at_builtin; refine wpListIn_append_eq rfl _ _ 25 rfl _ _ rfl rfl _ _ HRUN.out ?_) | fail)
      have hsb3 := HSB.out.below b3
      have hsz := HB.out.size
      refine ⟨((keepsOthers_below b3).trans hk2).from _, (((KeepT.below b3).trans (KeepT.below (alloc_below w3 _))).trans (KeepT.grown hgr (brow_cells (hrow3.alloc _)) (by decide))).trans (KeepT.setCell hv1 (by decide) 0 _),
        ⟨fun y hy => ?_, ((hsb3.alloc _).kept hgr (hsb3.x0.not_row (by decide) hrow3) (hsb3.x1.not_row (by decide) hrow3) (hsb3.x2.not_row (by decide) hrow3) (hsb3.x3.not_row (by decide) hrow3) (hsb3.x4.not_row (by decide) hrow3) (hsb3.x5.not_row (by decide) hrow3)).set (by omega) (by omega) (by omega) (by omega) (by omega) (by omega) _, _, hv2, ?_, trivial⟩, (HB.out.trans (b3.mono hsz)).trans (hb2.mono (Nat.le_refl _))⟩
      · rcases List.mem_append.1 hy with h | h
        · exact HALL.out y h
        · obtain rfl := List.mem_singleton.1 h
          rw [HX.out]
      · rw [List.length_append, List.map_append, List.map_cons, List.map_nil, HX.out]
        exact hr2
    · have hsb3 := HSB.out.below b3
      have c3 := hsb3.x3.cell
      have f3 := hsb3.x3.frozen
      have c4 := hsb3.x4.cell
      have f4 := hsb3.x4.frozen
      gi_wp2
      have x5 : ((w3.setCell ⟨w.heap.size + 1 + 1 + 1, 0, none⟩ (.slice none 0 0)).setCell ⟨w.heap.size + 1 + 1 + 1 + 1, 0, none⟩ (.int .i64 er)).cell? ⟨w.heap.size + 1 + 1 + 1, 0, none⟩ = some (.slice none 0 0) := by go_simp
      have x6 : ((w3.setCell ⟨w.heap.size + 1 + 1 + 1, 0, none⟩ (.slice none 0 0)).setCell ⟨w.heap.size + 1 + 1 + 1 + 1, 0, none⟩ (.int .i64 er)).cell? ⟨w.heap.size + 1 + 1 + 1 + 1, 0, none⟩ = some (.int .i64 er) := by go_simp
      have hsz := HB.out.size
      exact ⟨((((keepsOthers_below b3).trans (KeepsOthers.setCell _ _ _)).trans (KeepsOthers.setCell _ _ _)).from _), ⟨rfl, pre, _, rfl, by rw [HX.out]; exact her, x5, by rw [HX.out]; exact x6⟩, ((HB.out.trans (b3.mono hsz)).setCell (by simp; omega) _).setCell (by simp; omega) _⟩
  case done =>
    rintro D xs W' hD ⟨g, rfl⟩ ⟨⟨hall, hsb, v, hv, hrow, -⟩, hB⟩ hK
    obtain ⟨e1, e2, e3⟩ := pc_done ht hall
    rw [e3, pcUp_length, ← e2] at hrow
    have E1 := Lib.hid e1
    obtain ⟨L, hL⟩ : ∃ L, (recSecs boot lsn kind t).1 = L := ⟨_, rfl⟩
    rw [hL] at hrow
    have HL := Lib.hid hL
    clear hL
    have c6 := hv.cell
    have c3 := hsb.x3.cell
    have f3 := hsb.x3.frozen
    have c4 := hsb.x4.cell
    have f4 := hsb.x4.frozen
    have n3 := hsb.x3.not_row (by decide) hrow
    have n4 := hsb.x4.not_row (by decide) hrow
    have HROW := Lib.hid hrow
    have HB := Lib.hid hB
    have HK := Lib.hid hK
    have HV3 := Lib.hid hsb.x3
    have HV4 := Lib.hid hsb.x4
    obtain ⟨A', cap', hv'⟩ := ownsRow_is hrow
    clear hrow hB hK hall hsb e1 e2 e3
    subst hv'
    have x5 : ((W'.setCell ⟨w.heap.size + 1 + 1 + 1, 0, none⟩ (.slice A' L.length cap')).setCell ⟨w.heap.size + 1 + 1 + 1 + 1, 0, none⟩ (.int .i64 0)).cell? ⟨w.heap.size + 1 + 1 + 1, 0, none⟩ = some (.slice A' L.length cap') := by go_simp
    have x6 : ((W'.setCell ⟨w.heap.size + 1 + 1 + 1, 0, none⟩ (.slice A' L.length cap')).setCell ⟨w.heap.size + 1 + 1 + 1 + 1, 0, none⟩ (.int .i64 0)).cell? ⟨w.heap.size + 1 + 1 + 1 + 1, 0, none⟩ = some (.int .i64 0) := by go_simp
    have g1 := grownBy_setCell' W' (w.heap.size + 1 + 1 + 1) (.slice A' L.length cap')
    have g2 := grownBy_setCell' (W'.setCell ⟨w.heap.size + 1 + 1 + 1, 0, none⟩ (.slice A' L.length cap')) (w.heap.size + 1 + 1 + 1 + 1) (.int .i64 0)
    have HROW2 := Lib.hid ((HROW.out.kept g1 (.inr n3.symm)).kept g2 (.inr n4.symm))
    have HK2 := Lib.hid (((KeepsOthers.setCell W' ⟨w.heap.size + 1 + 1 + 1, 0, none⟩ (.slice A' L.length cap')).trans (KeepsOthers.setCell _ ⟨w.heap.size + 1 + 1 + 1 + 1, 0, none⟩ (.int .i64 0))).same D _ HK.out rfl)
    have HB7 : Hid (Below w.heap.size w ((W'.setCell ⟨w.heap.size + 1 + 1 + 1, 0, none⟩ (.slice A' L.length cap')).setCell ⟨w.heap.size + 1 + 1 + 1 + 1, 0, none⟩ (.int .i64 0))) := (HB.out.setCell (by show _ ≤ w.heap.size + 1 + 1 + 1; omega) _).setCell (by show _ ≤ w.heap.size + 1 + 1 + 1 + 1; omega) _
    clear g1 g2 n3 n4 HV3 HV4
    have hD8 : w.heap.size ≤ D := by have := HS4.out; omega
    gi_wp2
    go_wp2
    rw [HL.out, E1.out]
    refine ⟨by simp, .inl ⟨_, _, rfl, run_takeDeferred HK2.out, ?_⟩⟩
    have z1 := cell_kept x5 (grownBy_putObj' _ D (.deferred none)) (fun r e => by cases e; exact ⟨_, HK2.out, rfl⟩)
    have z2 := cell_kept x6 (grownBy_putObj' _ D (.deferred none)) (fun r e => by cases e; exact ⟨_, HK2.out, rfl⟩)
    exact ⟨_, results_cells2 rfl _ _ _ _ (.slice A' L.length cap') (.int .i64 0) rfl rfl (by simp [loadVar, go_sem, z1]) (by simp [loadVar, go_sem, z2]), _, rfl, ownsRow_putObj HROW2.out _ HK2.out rfl, HB7.out.trans (belowK_b (w := w) (Nat.le_refl _) _ D _ _ hD8 HK2.out rfl rfl)⟩
  case stop =>
    rintro D c pre W' hD ⟨g, k, hk, rfl⟩ ⟨⟨rfl, ini, x, e1, e2, e3, e4⟩, hB⟩ hK
    obtain ⟨r1, r2⟩ := pc_stop ht hk e1 e2
    have R1 := Lib.hid r1
    rw [r2] at e4
    clear r1 r2
    gi_wp2
    rw [R1.out]
    refine ⟨by simp, .inl ⟨_, _, rfl, run_takeDeferred hK, ?_⟩⟩
    have z1 := cell_kept e3 (grownBy_putObj' _ D (.deferred none)) (fun r e => by cases e; exact ⟨_, hK, rfl⟩)
    have z2 := cell_kept e4 (grownBy_putObj' _ D (.deferred none)) (fun r e => by cases e; exact ⟨_, hK, rfl⟩)
    exact ⟨_, results_cells2 rfl _ _ _ _ (.slice none 0 0) (.int .i64 2) rfl rfl (by simp [loadVar, go_sem, z1]) (by simp [loadVar, go_sem, z2]), _, rfl, World.ownsRow_nil _ _ _ _, hB.trans (belowK_b (w := w) (Nat.le_refl _) _ D _ _ (by rw [HS4.out] at hD; omega) hK rfl rfl)⟩
theorem brow0 {w : World} {base e sz n : Nat} {v : Value} {xs : List Value} (h : w.ownsRow base e sz v n xs) : w.ownsRow 0 e sz v n xs ∧ ∀ k, v.ownBlock = some k → base ≤ k := by
  refine ⟨⟨h.1, ?_⟩, fun k hk => ?_⟩
  · rcases h.2 with h2 | ⟨g, cap, cur, rfl, h3, r⟩
    · exact .inl h2
    · exact .inr ⟨g, cap, cur, rfl, Nat.zero_le _, r⟩
  · rcases h.2 with ⟨rfl, _⟩ | ⟨g, cap, cur, rfl, h3, r⟩
    · simp [Value.ownBlock] at hk
    · obtain rfl : g = k := by simpa [Value.ownBlock] using hk
      exact h3
/-- Sectors: a row that nobody else has, and the error. -/
def SecsR (w : World) (L : List (List UInt8)) (er : Int) (e : Ending) (w' : World) : Prop :=
  ∃ A cap, e = .returned (.tuple #[.slice A L.length cap, .int .i64 er]) ∧ w'.ownsRow 0 9 1 (.slice A L.length cap) L.length (rstrs L) ∧ Below w.heap.size w w' ∧ ∀ k, (Value.slice A L.length cap).ownBlock = some k → w.heap.size ≤ k
theorem sectors_any (boot lsn kind : Int) (hkd : 0 ≤ kind ∧ kind < 256) (t : List UInt8) (ht : t.length ≤ 1000000) (w : World) :
    Calls Try.prog 41 #[.int .i64 boot, .int .i64 lsn, .int .u8 kind, .string (S t)] w (SecsR w (recSecs boot lsn kind t).1 (recSecs boot lsn kind t).2) := by
  by_cases h : 4096 < t.length
  · refine (sectors_long boot lsn kind t h w).mono ?_
    rintro e w' ⟨rfl, hb⟩
    rw [recSecs_long h]
    exact ⟨none, 0, rfl, World.ownsRow_nil _ _ _ _, hb, fun k hk => by simp [Value.ownBlock] at hk⟩
  · refine (sectors_any0 boot lsn kind hkd t (by omega) w).mono ?_
    rintro e w' ⟨v, rfl, hr, hb⟩
    obtain ⟨A, cap, rfl⟩ := ownsRow_is hr
    exact ⟨A, cap, rfl, (brow0 hr).1, hb, (brow0 hr).2⟩
end Go.Proofs.Ytjpelmjocdodcaa
