/- block.Split: what each call returns. -/
import Derived.Test.YtgnhpbolmfbngaaSplit
namespace Go.Proofs.Ytgnhpbolmfbngaa
open Go.RowKit Go.ChangeMaps

theorem icells_at : ∀ (L : List IB) (i j : Nat) (h : i < L.length), j < 5 → (icells L)[i * 5 + j]? = (L[i]).cells[j]?
  | [], i, _, h, _ => by simp at h
  | b :: L, 0, j, _, hj => by
    show (b.cells ++ icells L)[0 * 5 + j]? = b.cells[j]?
    rw [Nat.zero_mul, Nat.zero_add, List.getElem?_append_left (by show j < 5; exact hj)]
  | b :: L, i + 1, j, h, hj => by
    show (b.cells ++ icells L)[(i + 1) * 5 + j]? = _
    rw [List.getElem?_append_right (by show 5 ≤ _; omega), show (i + 1) * 5 + j - b.cells.length = i * 5 + j by show (i + 1) * 5 + j - 5 = _; omega]
    exact icells_at L i j (by simpa using h) hj
/-- The cells of a block of a row. -/
theorem irow_at {w : World} {v : Value} {L : List IB} {n : Nat} (h : w.ownsRow 0 31 5 v n (icells L)) {i : Nat} {b : IB} (hb : L[i]? = some b) :
    ∃ g cap, v = .slice (some ⟨g, 0, none⟩) n cap ∧ w.cell? (Addr.add ⟨g, 0, none⟩ (i * 5)) = some (.int .i64 b.life) ∧ w.cell? ⟨g, i * 5, none⟩ = some (.int .i64 b.life) ∧ w.cell? ⟨g, i * 5 + 1, none⟩ = some (.int .i64 b.boot) ∧ w.cell? ⟨g, i * 5 + 2, none⟩ = some (.int .i64 b.n) ∧ w.cell? ⟨g, i * 5 + 3, none⟩ = some (.int .i64 b.off) ∧ w.cell? ⟨g, i * 5 + 4, none⟩ = some (.string (S b.d)) := by
  obtain ⟨hi, rfl⟩ := List.getElem?_eq_some_iff.1 hb
  have hlen := h.1
  rcases h.2 with ⟨_, rfl⟩ | ⟨g, cap, cur, rfl, hb0, hg, r⟩
  · rw [icells_length] at hlen
    omega
  · have hc : ∀ j, j < 5 → ∀ u, (L[i]).cells[j]? = some u → w.cell? ⟨g, i * 5 + j, none⟩ = some u := fun j hj u hu => by
      have h1 := h.cells (g := g) rfl (i * 5 + j) u (by rw [icells_at L i j hi hj]; exact hu)
      rw [add_eq, Nat.zero_add] at h1
      exact h1
    refine ⟨g, cap, rfl, ?_, hc 0 (by omega) _ rfl, hc 1 (by omega) _ rfl, hc 2 (by omega) _ rfl, hc 3 (by omega) _ rfl, hc 4 (by omega) _ rfl⟩
    rw [add_eq, Nat.zero_add]
    exact hc 0 (by omega) _ rfl
def IB.err (b : IB) : Int := (encOf b.life b.boot b.n b.off b.d).2
theorem err_cases (b : IB) (h : b.d.length ≤ 36) : b.err = 0 ∨ b.err = 2 := by
  unfold IB.err
  rcases encOf_cases b.life b.boot b.n b.off b.d with ⟨_, _, _, he⟩ | ⟨hl, _⟩ | ⟨_, _, he⟩
  · rw [he]; exact .inl rfl
  · omega
  · rw [he]; exact .inr rfl
theorem splitL_at (life boot n off : Int) (t : List UInt8) {K i : Nat} (h : i < K) : (splitL life boot n off t K)[i]? = some (splitB life boot n off t i) := by
  unfold splitL
  rw [List.getElem?_map, List.getElem?_range h]
  rfl
/-- What Split hands back. -/
def SplitR (w : World) (life boot n off : Int) (t : List UInt8) (e : Ending) (w' : World) : Prop :=
  (∃ v, (∀ k, k < npieces t → (splitB life boot n off t k).err = 0) ∧ e = .returned (.tuple #[v, .int .i64 0]) ∧ w'.ownsRow 0 31 5 v (npieces t) (icells (splitL life boot n off t (npieces t))) ∧ Below w.heap.size w w' ∧ ∀ k, v.ownBlock = some k → w.heap.size ≤ k) ∨
  ((∃ k, k < npieces t ∧ (splitB life boot n off t k).err = 2) ∧ e = .returned (.tuple #[.slice none 0 0, .int .i64 2]) ∧ Below w.heap.size w w')
set_option maxRecDepth 100000 in
set_option maxHeartbeats 4000000 in
theorem split_any (life boot n off : Int) (t : List UInt8) (ht : t.length ≤ 256) (w : World) :
    Calls Try.prog 13 #[.int .i64 life, .int .i64 boot, .int .i64 n, .int .i64 off, .string (S t)] w (SplitR w life boot n off t) := by
  obtain ⟨n0, n1, n2, n3, n4, n5⟩ := four_new w (.cells #[.int .i64 life] 3) (.cells #[.int .i64 boot] 3) (.cells #[.int .i64 n] 3) (.cells #[.int .i64 off] 3)
  have hti : ¬ (256 : Int) < (t.length : Int) := by omega
  go_enter Try.func13, Try.ntmps13
  go_wp2_with (fail)
  generalize (((w.alloc (.cells #[.int .i64 life] 3)).alloc (.cells #[.int .i64 boot] 3)).alloc (.cells #[.int .i64 n] 3)).alloc (.cells #[.int .i64 off] 3) = W at n0 n1 n2 n3 n4 n5 ⊢
  have HC : Hid (Caps W w.heap.size (w.heap.size + 1) (w.heap.size + 1 + 1) (w.heap.size + 1 + 1 + 1) life boot n off) := ⟨(cell_of n0 0).trans rfl, (cell_of n1 0).trans rfl, (cell_of n2 0).trans rfl, (cell_of n3 0).trans rfl⟩
  have HB := Lib.hid n5
  clear n0 n1 n2 n3 n4 n5
  refine (pieces_any _ _ _ _ life boot n off t W HC.out ht).mono ?_
  rintro e w1 ⟨v, rfl, hr, hb, hn⟩
  obtain ⟨K, hK⟩ : ∃ K, npieces t = K := ⟨_, rfl⟩
  rw [hK] at hr
  have hK8 : K ≤ 8 := by rw [← hK]; unfold npieces; omega
  obtain ⟨A, cap, rfl⟩ := ownsRow_is hr
  have HR := Lib.hid hr
  have HB1 := Lib.hid (below_step hb HB.out (Nat.le_refl _))
  have HN := Lib.hid (fun k hk => Nat.le_trans HB.out.size (hn k hk))
  have HK := Lib.hid hK
  have hKi : (K : Int) ≤ 8 := by omega
  clear hr hb hn hK HC
  go_wp2_with (fail)
  go_loopw [14, 15, 16, 25] (fun _ _ _ v25 wr => ∃ i : Nat, i ≤ K ∧ v25 = .int .i64 i ∧ Hid (∀ k, k < i → (splitB life boot n off t k).err = 0) ∧ Hid (Below w1.heap.size w1 wr)) (fun _ _ _ v25 _ => K - (intOf v25).toNat)
  case atStart => exact ⟨0, Nat.zero_le _, rfl, fun k hk => absurd hk (by omega), .refl _ _⟩
  case round =>
    obtain ⟨i, hi, rfl, hE, hB2⟩ := hrel
    by_cases hlt : i < K
    · have hR2 := row_keeps (S := fun _ => False) HR.out (.of_below hB2.out) (fun _ _ => id)
      obtain ⟨g, cap2, hv, z0, z0', z1, z2, z3, z4⟩ := irow_at hR2 (splitL_at life boot n off t hlt)
      obtain ⟨rfl, -, rfl⟩ : A = some ⟨g, 0, none⟩ ∧ K = K ∧ cap = cap2 := by injection hv with a b c; exact ⟨a, rfl, c⟩
      obtain ⟨b, hbb⟩ : ∃ b, splitB life boot n off t i = b := ⟨_, rfl⟩
      have hb36 : b.d.length ≤ 36 := by rw [← hbb]; exact pieceAt_len t i
      rw [hbb] at z0 z0' z1 z2 z3 z4
      have HBB := Lib.hid hbb
      have he := err_cases b hb36
      clear hR2 hv hbb hb36
      obtain ⟨⟨x, er⟩, hx⟩ : ∃ p, encOf b.life b.boot b.n b.off b.d = p := ⟨_, rfl⟩
      have hee : b.err = er := by unfold IB.err; rw [hx]
      rw [hee] at he
      have HEE := Lib.hid hee
      have HX := Lib.hid hx
      clear hee hx
      go_wp2_with (fail)
      have b7 := alloc_below wr (.cells #[.int .i64 b.life, .int .i64 b.boot, .int .i64 b.n, .int .i64 b.off, .string (S b.d)] 31)
      have HB7 := Lib.hid (below_step b7 hB2.out (Nat.le_refl _))
      clear b7 z0 z0' z1 z2 z3 z4
      generalize wr.alloc (.cells #[.int .i64 b.life, .int .i64 b.boot, .int .i64 b.n, .int .i64 b.off, .string (S b.d)] 31) = X at HB7 ⊢
      refine (bEncode_any b.life b.boot b.n b.off b.d X).mono ?_
      rw [HX.out]
      rintro e w3 ⟨rfl, b3⟩
      have HB3 := Lib.hid (below_step b3 HB7.out (Nat.le_refl _))
      clear b3 HB7 hB2
      rcases he with rfl | rfl
      · go_wp2_with (fail)
        go_roundw
        case rel => exact ⟨i + 1, by omega, by go_num, fun k hk => by
          by_cases hki : k = i
          · subst hki
            rw [HBB.out]
            exact HEE.out
          · exact hE.out k (by omega), HB3⟩
        case measure => simp [intOf]; omega
      · go_wp2_with (fail)
        go_ret2
        exact .inr ⟨⟨i, by rw [HK.out]; exact hlt, by rw [HBB.out]; exact HEE.out⟩, rfl, below_step HB3.out HB1.out (Nat.le_refl _)⟩
    · obtain rfl : K = i := by omega
      go_wp2_with (fail)
      go_ret2
      refine .inl ⟨_, fun k hk => hE.out k (by rw [← HK.out]; exact hk), rfl, ?_, below_step hB2.out HB1.out (Nat.le_refl _), HN.out⟩
      rw [HK.out]
      exact row_keeps (S := fun _ => False) HR.out (.of_below hB2.out) (fun _ _ => id)
end Go.Proofs.Ytgnhpbolmfbngaa
