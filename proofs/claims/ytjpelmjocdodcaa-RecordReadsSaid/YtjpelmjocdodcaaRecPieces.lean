/- record.pieces. -/
import Derived.Laws.IdiomStrings
import Derived.Test.YtjpelmjocdodcaaSeqGood
import Derived.Test.YtjpelmjocdodcaaRecLaw
import Derived.Test.YtjpelmjocdodcaaBackward
namespace Go.Proofs.Ytjpelmjocdodcaa
open Go.RowKit Go.Shelf

attribute [local go_sem] Oper.semAt_some

/-- A piece as it is handed on: its number, and bytes that lie in a block from a cell on. -/
structure Pc where
  i : Nat
  g : Nat
  at_ : Nat
  d : List UInt8
def Pc.encs (x : Pc) : Array Value := #[.int .i64 x.i, .slice (some ⟨x.g, x.at_, none⟩) x.d.length x.d.length]
def Pc.Good (x : Pc) (W : World) : Prop := ∃ C fr, W.heap[x.g]? = some (Obj.cells C 5 fr) ∧ ∀ (j : Nat) (hj : j < x.d.length), C[x.at_ + j]? = some (.int .u8 ((x.d[j]).toNat : Int))
theorem Pc.Good.keep (x : Pc) (W W' : World) (h : x.Good W) (k : KeepT 5 W W') : x.Good W' := by
  obtain ⟨C, fr, h1, h2⟩ := h
  exact ⟨C, fr, k _ _ _ h1, h2⟩
def pcAt (g : Nat) (t : List UInt8) (k : Nat) : Pc := ⟨k, g, 44 * k, rpiece t k⟩
def pcUp (g : Nat) (t : List UInt8) (k : Nat) : List Pc := (List.range k).map (pcAt g t)
theorem pcUp_length (g : Nat) (t : List UInt8) (k : Nat) : (pcUp g t k).length = k := by simp [pcUp]
theorem pcUp_succ (g : Nat) (t : List UInt8) (k : Nat) : pcUp g t (k + 1) = pcUp g t k ++ [pcAt g t k] := by simp [pcUp, List.range_succ]
theorem pcGood {W : World} {g cap : Nat} {fr : Nat × Nat} {t : List UInt8} (h : W.heap[g]? = some (Obj.cells (bytesRow (S t) cap) 5 fr)) (k : Nat) : (pcAt g t k).Good W := by
  refine ⟨_, _, h, fun j hj => ?_⟩
  have hl : 44 * k + j < t.length := by
    have h1 : (pcAt g t k).d.length = (rpiece t k).length := rfl
    rw [h1, rpiece_len] at hj
    omega
  show (bytesRow (S t) cap)[44 * k + j]? = some (.int .u8 (((rpiece t k)[j]).toNat : Int))
  rw [rpiece_sub hj hl]
  unfold bytesRow
  rw [Array.getElem?_append_left (by simpa [S] using hl)]
  simp [S, hl]
set_option maxHeartbeats 1000000 in
theorem pieces_in (t : List UInt8) (w : World) :
    Calls Try.prog 67 #[.string (S t)] w fun e w' => e = .returned (.func (.func 84) #[] #[.pointer (some ⟨w.heap.size, 0, none⟩)]) ∧ w' = w.alloc (.cells #[.string (S t)] 9) := by
  go_enter Try.func67, Try.ntmps67
  go_wp2
  go_ret
  exact ⟨rfl, rfl⟩
set_option maxRecDepth 100000 in
set_option maxHeartbeats 4000000 in
theorem pieces1_in (l Bs : Nat) (t : List UInt8) (ht : t.length ≤ 4096) (J Jx : List Pc → World → Prop) (W : World) (hJ : AbidesFrom W.heap.size J)
    (hY : ∀ pre x W1, J pre W1 → x.Good W1 → pre.length < npart t.length → YieldAt Fence.wide (3 - 1 - 1) Try.prog l x.encs W1 fun e W' =>
      (e = .returned (.bool true) ∧ J (pre ++ [x]) W' ∧ KeepT 5 W1 W') ∨ (e = .returned (.bool false) ∧ Jx (pre ++ [x]) W'))
    (hBs : W.cell? ⟨Bs, 0, none⟩ = some (.string (S t))) (h0 : J [] W) :
    CallsIn Fence.wide (3 - 1) Try.prog 84 #[.func (.yield l) #[] #[], .pointer (some ⟨Bs, 0, none⟩)] W fun e W' => (∃ v, e = .returned v) ∧
      ((∃ ys, (∃ g, ys = pcUp g t (npart t.length)) ∧ J ys W') ∨ (∃ pre, (∃ g k, k < npart t.length ∧ pre = pcUp g t (k + 1)) ∧ Jx pre W')) := by
  refine callsIn_of_wp Try.func84 rfl trivial ?_ rfl
  simp only [Try.ntmps84, List.size_toArray, List.length_cons, List.length_nil, Nat.reduceAdd, Nat.reduceSub, Array.replicate_succ, Array.replicate_zero, List.push_toArray, List.append_toArray, List.nil_append, List.cons_append]
  have hconv := run_bytes_of_string (P := Try.prog) W 9 83 5 (S t) Try.underlying9 Try.underlying83 Try.underlying5
  gi_wp2
  clear hconv
  have hcap : t.length ≤ grownCap W t.length 0 5 := grownCap_ge _ _ _ _
  generalize grownCap W t.length 0 5 = cap at hcap ⊢
  generalize ((bytesRow (S t) cap).size, (bytesRow (S t) cap).size + 1) = fr
  obtain ⟨W1, hW1⟩ : ∃ W1, (W.alloc (Obj.cells (bytesRow (S t) cap) 5 fr)).drew = W1 := ⟨_, rfl⟩
  have n7 : W1.heap[W.heap.size]? = some (Obj.cells (bytesRow (S t) cap) 5 fr) := by rw [← hW1]; exact alloc_new W _
  have hJ1 : J [] W1 := by
    rw [← hW1]
    exact hJ [] _ _ none (hJ [] _ _ none h0 (World.grownBy_alloc W _ none) nofun) ⟨rfl, rfl, rfl, Nat.le_refl _, fun _ _ _ => rfl⟩ nofun
  rw [hW1]
  generalize hg : W.heap.size = g at n7
  have HJ := Lib.hid hJ1
  have HN := Lib.hid n7
  clear hg hW1 n7 hJ1 h0 hBs hJ
  gi_loopw [4, 5] (fun i a wr => ∃ k : Nat, k ≤ npart t.length ∧ i = .int .i64 k ∧ a = .int .i64 (44 * k : Nat) ∧ Hid (J (pcUp g t k) wr) ∧ Hid (KeepT 5 W1 wr))
    (fun i _ _ => npart t.length - (intOf i).toNat)
  case atStart => exact ⟨0, Nat.zero_le _, rfl, rfl, HJ.out, KeepT.refl _ _⟩
  case round =>
    obtain ⟨k, hk, rfl, rfl, hJs, hK⟩ := hrel
    have hn94 := npart_le ht
    by_cases hlt : k < npart t.length
    · obtain ⟨e, he⟩ : ∃ e : Nat, min (44 * k + 44) t.length = e := ⟨_, rfl⟩
      have hmin : min (((44 * k : Nat) : Int) + 44) (t.length : Int) = (e : Int) := by omega
      have hpl := rpiece_len t k
      rw [he] at hpl
      have h44 : 44 * k ≤ t.length := by unfold npart at hlt; omega
      have hae : 44 * k ≤ e := by omega
      have hel : e ≤ t.length := by omega
      have hec : e ≤ cap := by omega
      have hgood := pcGood (hK.out _ _ _ HN.out) k
      obtain ⟨fn, tmps, assign, body, hy, hR⟩ := hY _ (pcAt g t k) wr hJs.out hgood (by rw [pcUp_length]; exact hlt)
      unfold Pc.encs pcAt at hy
      dsimp only at hy
      rw [hpl] at hy
      have HR := Lib.hid hR
      clear hR hgood he
      have hcc : (if (k:Int) = 0 then true else decide ((44 * (k:Int)) < (t.length:Int))) = true := by unfold npart at hlt; split <;> simp <;> omega
      obtain ⟨a, ha⟩ : ∃ a : Nat, 44 * k = a := ⟨_, rfl⟩
      rw [ha] at hy hmin hae h44 hpl ⊢
      have hk94 : (k:Int) < 94 := by omega
      have HK := Lib.hid hk
      have HA := Lib.hid ha
      clear hk ha hpl hn94
      by_cases hk0 : k = 0
      · subst hk0
        have ha0 : a = 0 := by have := HA.out; omega
        subst ha0
        have hmin0 : min (44:Int) (t.length : Int) = (e : Int) := by omega
        rw [show ((0:Nat):Int) = 0 from rfl, Nat.sub_zero] at hy
        clear hmin hcc
        by_cases he0 : e = 0
        · subst he0
          gi_wp2
          refine HR.out.mono ?_
          rintro e3 W3 (⟨rfl, hJ3, hk3⟩ | ⟨rfl, hJx3⟩)
          · gi_wp2
            go_roundw
            case rel => exact ⟨0 + 1, hlt, by go_num, by have := HA.out; first | (go_num; done) | (go_num; omega) | omega, by unfold Hid; rw [pcUp_succ]; exact hJ3, hK.out.trans hk3⟩
            case measure => simp [intOf]; omega
          · gi_wp2
            refine bodyPost_ret (results_none rfl _ _ _) rfl ?_
            exact ⟨⟨_, rfl⟩, .inr ⟨_, ⟨g, 0, hlt, (pcUp_succ g t 0).symm⟩, hJx3⟩⟩
        · gi_wp2
          refine HR.out.mono ?_
          rintro e3 W3 (⟨rfl, hJ3, hk3⟩ | ⟨rfl, hJx3⟩)
          · gi_wp2
            go_roundw
            case rel => exact ⟨0 + 1, hlt, by go_num, by have := HA.out; first | (go_num; done) | (go_num; omega) | omega, by unfold Hid; rw [pcUp_succ]; exact hJ3, hK.out.trans hk3⟩
            case measure => simp [intOf]; omega
          · gi_wp2
            refine bodyPost_ret (results_none rfl _ _ _) rfl ?_
            exact ⟨⟨_, rfl⟩, .inr ⟨_, ⟨g, 0, hlt, (pcUp_succ g t 0).symm⟩, hJx3⟩⟩
      · have hal : a < t.length := by have := HA.out; unfold npart at hlt; omega
        have hne : ¬ e = a := by omega
        gi_wp2
        refine HR.out.mono ?_
        rintro e3 W3 (⟨rfl, hJ3, hk3⟩ | ⟨rfl, hJx3⟩)
        · gi_wp2
          go_roundw
          case rel => exact ⟨k + 1, hlt, by go_num, by have := HA.out; first | (go_num; done) | (go_num; omega) | omega, by unfold Hid; rw [pcUp_succ]; exact hJ3, hK.out.trans hk3⟩
          case measure => simp [intOf]; omega
        · gi_wp2
          refine bodyPost_ret (results_none rfl _ _ _) rfl ?_
          exact ⟨⟨_, rfl⟩, .inr ⟨_, ⟨g, k, hlt, (pcUp_succ g t k).symm⟩, hJx3⟩⟩
    · obtain rfl : k = npart t.length := by omega
      have hnp := npart_pos t.length
      have hge : ¬ (44 * npart t.length < t.length) := by unfold npart; omega
      have HJs := Lib.hid hJs.out
      clear hJs
      obtain ⟨n, hn⟩ : ∃ n, npart t.length = n := ⟨_, rfl⟩
      rw [hn] at hnp hge ⊢
      have HNN := Lib.hid hn
      clear hn
      obtain ⟨a, ha⟩ : ∃ a : Nat, 44 * n = a := ⟨_, rfl⟩
      rw [ha] at hge ⊢
      clear ha
      have hn0 : ¬ n = 0 := by omega
      gi_wp2
      go_end0
      exact ⟨⟨_, rfl⟩, .inl ⟨_, ⟨g, rfl⟩, HJs.out⟩⟩
end Go.Proofs.Ytjpelmjocdodcaa
