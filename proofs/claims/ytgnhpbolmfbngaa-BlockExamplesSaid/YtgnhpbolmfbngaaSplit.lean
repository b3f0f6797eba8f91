/- block.Split: its pieces. -/
import Derived.Test.YtgnhpbolmfbngaaGBOne
import Derived.Test.YtgnhpbolmfbngaaDiskNew
namespace Go.Proofs.Ytgnhpbolmfbngaa
open Go.RowKit Go.ChangeMaps

/-- A block with any numbers. -/
structure IB where
  life : Int
  boot : Int
  n : Int
  off : Int
  d : List UInt8
def IB.val (b : IB) : Value := bval b.life b.boot b.n b.off b.d
def IB.cells (b : IB) : List Value := [.int .i64 b.life, .int .i64 b.boot, .int .i64 b.n, .int .i64 b.off, .string (S b.d)]
def icells (l : List IB) : List Value := l.flatMap IB.cells
theorem icells_length (l : List IB) : (icells l).length = l.length * 5 := by
  induction l with
  | nil => rfl
  | cons b l ih => unfold icells at ih ⊢; rw [List.flatMap_cons, List.length_append, ih, List.length_cons]; simp [IB.cells]; omega
theorem icells_snoc (l : List IB) (b : IB) : icells (l ++ [b]) = icells l ++ b.cells := by unfold icells; rw [List.flatMap_append]; simp
def pieceAt (t : List UInt8) (k : Nat) : List UInt8 := (t.take (36 * k + 36)).drop (36 * k)
theorem pieceAt_len (t : List UInt8) (k : Nat) : (pieceAt t k).length ≤ 36 := by unfold pieceAt; rw [List.length_drop, List.length_take]; omega
/-- The k-th block of a text. -/
def splitB (life boot n off : Int) (t : List UInt8) (k : Nat) : IB := ⟨life, boot, wrap64 (n + (k : Int)), wrap64 (off + ((36 * k : Nat) : Int)), pieceAt t k⟩
def splitL (life boot n off : Int) (t : List UInt8) (K : Nat) : List IB := (List.range K).map (splitB life boot n off t)
theorem splitL_length (life boot n off : Int) (t : List UInt8) (K : Nat) : (splitL life boot n off t K).length = K := by unfold splitL; rw [List.length_map, List.length_range]
theorem splitL_succ (life boot n off : Int) (t : List UInt8) (K : Nat) : splitL life boot n off t (K + 1) = splitL life boot n off t K ++ [splitB life boot n off t K] := by unfold splitL; rw [List.range_succ, List.map_append]; rfl
/-- How many blocks a text has. -/
def npieces (t : List UInt8) : Nat := (t.length + 35) / 36
theorem results_one {P : Program} {fn : Func} {t : Tmp} {T : TypeId} (h : fn.results = #[.cell t T]) (tmps : Array Value) (w : World) (b : Nat) (cs : Array Value) (ty : TypeId) (fr : Nat × Nat) (hx : tmps.getD t undef = .pointer (some ⟨b, 0, none⟩))
    (hb : w.heap[b]? = some (.cells cs ty fr)) (d : TypeDesc) (hu : P.underlying T = some d) (hd : (match d with | .struct _ | .array _ _ => true | _ => false) = true) (hi : (P.info? T).map (·.size) = some cs.size) :
    (results fn tmps).run P w = .ok (.agg cs) w := by
  have hl : (loadVar T ⟨b, 0, none⟩).run P w = .ok (.agg cs) w := run_loadVar_row (P := P) w b ty T cs fr d hb hu hd hi
  have hx' : tmps[t]?.getD undef = .pointer (some ⟨b, 0, none⟩) := by simpa using hx
  simp [results, h, hx', asAddr, hl]
/-- The variables that Split's literal has captured. -/
def Caps (w : World) (b0 b1 b2 b3 : Nat) (life boot n off : Int) : Prop :=
  w.cell? ⟨b0, 0, none⟩ = some (.int .i64 life) ∧ w.cell? ⟨b1, 0, none⟩ = some (.int .i64 boot) ∧ w.cell? ⟨b2, 0, none⟩ = some (.int .i64 n) ∧ w.cell? ⟨b3, 0, none⟩ = some (.int .i64 off)
theorem Caps.below {w w' : World} {b0 b1 b2 b3 : Nat} {life boot n off : Int} (h : Caps w b0 b1 b2 b3 life boot n off) (b : Below w.heap.size w w') : Caps w' b0 b1 b2 b3 life boot n off :=
  ⟨below_cell b h.1, below_cell b h.2.1, below_cell b h.2.2.1, below_cell b h.2.2.2⟩
set_option maxRecDepth 100000 in
set_option maxHeartbeats 1000000 in
theorem split1_any (b0 b1 b2 b3 : Nat) (life boot n off : Int) (a k : Nat) (hak : a = 36 * k) (ha : a ≤ 1000) (s : List UInt8) (w : World) (h : Caps w b0 b1 b2 b3 life boot n off) :
    Calls Try.prog 44 #[.int .i64 a, .string (S s), .pointer (some ⟨b0, 0, none⟩), .pointer (some ⟨b1, 0, none⟩), .pointer (some ⟨b2, 0, none⟩), .pointer (some ⟨b3, 0, none⟩)] w fun e w' =>
      e = .returned (bval life boot (wrap64 (n + (k : Int))) (wrap64 (off + (a : Int))) s) ∧ Below w.heap.size w w' := by
  have hq : (a : Int) / 36 = (k : Int) := by omega
  have m2 := alloc_below w (.cells #[.int .i64 0, .int .i64 0, .int .i64 0, .int .i64 0, .string ⟨#[]⟩] 31)
  obtain ⟨h0, h1, h2, h3⟩ := h.below m2
  clear m2 h hak
  go_enter Try.func44, Try.ntmps44
  go_wp2_with (fail)
  exact bodyPost_ret (results_one rfl _ _ w.heap.size _ 31 (0, 0) rfl (alloc_new w _) _ Try.underlying31 rfl (by kernel_rfl)) rfl ⟨rfl, alloc_below w _⟩
set_option maxRecDepth 100000 in
set_option maxHeartbeats 2000000 in
theorem pieces_any (b0 b1 b2 b3 : Nat) (life boot n off : Int) (t : List UInt8) (w : World) (h : Caps w b0 b1 b2 b3 life boot n off) (ht : t.length ≤ 256) :
    Calls Try.prog 43 #[.string (S t), .func (.func 44) #[] #[.pointer (some ⟨b0, 0, none⟩), .pointer (some ⟨b1, 0, none⟩), .pointer (some ⟨b2, 0, none⟩), .pointer (some ⟨b3, 0, none⟩)]] w fun e w' =>
      ∃ v, e = .returned v ∧ w'.ownsRow 0 31 5 v (npieces t) (icells (splitL life boot n off t (npieces t))) ∧ Below w.heap.size w w' ∧ ∀ k, v.ownBlock = some k → w.heap.size ≤ k := by
  have HC := Lib.hid h
  clear h
  have htl : (t.length : Int) ≤ 256 := by omega
  go_enter Try.func43, Try.ntmps43
  go_wp2_with (fail)
  go_loopw [5, 6] (fun v5 v6 wr => ∃ k a : Nat, a = 36 * k ∧ k ≤ npieces t ∧ v6 = .int .i64 a ∧ Hid (wr.ownsRow 0 31 5 v5 k (icells (splitL life boot n off t k))) ∧ Hid (Below w.heap.size w wr) ∧ Hid (∀ j, v5.ownBlock = some j → w.heap.size ≤ j)) (fun _ v6 _ => 36 * npieces t - (intOf v6).toNat)
  case atStart => exact ⟨0, 0, rfl, Nat.zero_le _, rfl, World.ownsRow_nil _ _ _ _, .refl _ _, fun j hj => by simp [Value.ownBlock] at hj⟩
  case round =>
    obtain ⟨k, a, hak, hk, rfl, hR, hB, hN⟩ := hrel
    by_cases hlt : a < t.length
    · have hkK : k < npieces t := by unfold npieces; omega
      have HK := Lib.hid hkK
      have hai : (a : Int) ≤ 256 := by omega
      obtain ⟨e, he⟩ : ∃ e : Nat, min (a + 36) t.length = e := ⟨_, rfl⟩
      have hmin : min ((a : Int) + 36) (t.length : Int) = (e : Int) := by omega
      have hae : a ≤ e := by omega
      have hel : e ≤ t.length := by omega
      have hx : (S t).extract a e = S (pieceAt t k) := by
        rw [S_extract]
        congr 1
        unfold pieceAt
        rw [← hak]
        by_cases hc : a + 36 ≤ t.length
        · rw [show e = a + 36 by omega]
        · rw [show e = t.length by omega, List.take_of_length_le (Nat.le_refl _), List.take_of_length_le (by omega)]
      have HAK := Lib.hid hak
      clear hkK he hak
      go_wp2_with (fail)
      refine (split1_any b0 b1 b2 b3 life boot n off a k HAK.out (by omega) (pieceAt t k) wr (HC.out.below hB.out)).mono ?_
      unfold bval
      rintro e2 w2 ⟨rfl, bb⟩
      have hEQ : Hid (icells (splitL life boot n off t (k + 1)) = icells (splitL life boot n off t k) ++ [.int .i64 life, .int .i64 boot, .int .i64 (wrap64 (n + (k : Int))), .int .i64 (wrap64 (off + (a : Int))), .string (S (pieceAt t k))]) := by
        unfold Hid
        rw [splitL_succ, icells_snoc, HAK.out]
        rfl
      have n7 := alloc_new w2 (.cells #[.int .i64 life, .int .i64 boot, .int .i64 (wrap64 (n + (k : Int))), .int .i64 (wrap64 (off + (a : Int))), .string (S (pieceAt t k))] 31)
      have b7 := alloc_below w2 (.cells #[.int .i64 life, .int .i64 boot, .int .i64 (wrap64 (n + (k : Int))), .int .i64 (wrap64 (off + (a : Int))), .string (S (pieceAt t k))] 31)
      have b67 : Below _ _ (w2.alloc (.cells #[.int .i64 life, .int .i64 boot, .int .i64 (wrap64 (n + (k : Int))), .int .i64 (wrap64 (off + (a : Int))), .string (S (pieceAt t k))] 31)) := below_step b7 bb (Nat.le_refl _)
      have ho7 := row_keeps (S := fun _ => False) hR.out (.of_below b67) (fun _ _ => id)
      have hk8 : k ≤ 8 := by have := HK.out; unfold npieces at this; omega
      obtain ⟨v', w8, hrun, hown, hgr, hat⟩ := append_run (P := Try.prog) _ 23 23 31 (.agg #[.int .i64 0, .int .i64 0, .int .i64 0, .int .i64 0, .string ⟨#[]⟩]) 5 48 Try.underlying23 (by kernel_rfl) rfl (by decide) u5 k _ ho7
        ⟨w2.heap.size, 0, none⟩ 1 1 [.int .i64 life, .int .i64 boot, .int .i64 (wrap64 (n + (k : Int))), .int .i64 (wrap64 (off + (a : Int))), .string (S (pieceAt t k))] rfl (fun j u hu => by rw [cell_at n7, Nat.zero_add]; simpa using hu) (fun u hu => by simp at hu; rcases hu with rfl | rfl | rfl | rfl | rfl <;> rfl) (by unfold maxLen; omega) (by omega)
      obtain ⟨A', cap', rfl⟩ := ownsRow_is hown
      have HB8 := Lib.hid (grown_below (below_step b67 hB.out (Nat.le_refl _)) hgr (Nat.le_trans hB.out.size b67.size) hN.out)
      have HF8 : Hid (∀ j, (Value.slice A' (k + 1) cap').ownBlock = some j → w.heap.size ≤ j) := fun j hj => by
        rcases hat with hat | hat
        · exact hN.out j (hat.symm.trans hj)
        · rw [hat] at hj
          injection hj with hj
          have h1 := hB.out.size
          have h2 := b67.size
          omega
      have HO8 : Hid (w8.ownsRow 0 31 5 (.slice A' (k + 1) cap') (k + 1) (icells (splitL life boot n off t (k + 1)))) := by
        unfold Hid
        rw [hEQ.out]
        exact hown
      have HRUN := Lib.hid hrun
      clear hrun n7 b7 hgr hat hown b67 bb ho7 hEQ
      go_wp2_with (at_builtin; refine wpList_append_eq rfl (.tmp 13) (.tmp 25) 23 rfl _ _ rfl rfl _ _ HRUN.out ?_)
      go_roundw
      case rel => exact ⟨k + 1, a + 36, by have := HAK.out; omega, HK.out, by go_num, HO8, HB8, HF8⟩
      case measure => simp [intOf]; have := HAK.out; have := HK.out; omega
    · obtain rfl : k = npieces t := by unfold npieces at hk ⊢; omega
      go_wp2
      go_ret
      exact ⟨_, rfl, hR.out, hB.out, hN.out⟩
end Go.Proofs.Ytgnhpbolmfbngaa
