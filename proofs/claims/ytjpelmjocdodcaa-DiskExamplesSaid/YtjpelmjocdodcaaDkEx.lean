/- DiskExamples: each call on the disk of the examples; the plain part. -/
import Derived.Test.YtjpelmjocdodcaaCopy
import Derived.Test.YtjpelmjocdodcaaHall
namespace Go.Proofs.Ytjpelmjocdodcaa
open Go.RowKit Go.ChangeMaps
set_option linter.unusedVariables false

def exA : List UInt8 := List.replicate 80 97
def exB : List UInt8 := List.replicate 80 98
def ex0 : Dk := Dk.new 2
def ex1 : Dk := ⟨[Z80, Z80], [(0, exA)], false⟩
def ex2 : Dk := ⟨[Z80, Z80], [(0, exA), (1, exB)], false⟩
def ex3 : Dk := ⟨[Z80, Z80], [(0, exA), (1, exB), (0, exB)], false⟩
def ex4 : Dk := ⟨[exB, exB], [], false⟩
def ex5 : Dk := ⟨[exB, exB], [], true⟩
def exQ : List UInt8 := [98, 98, 98] ++ exA.drop 3
def exR : List UInt8 := exB.take 79 ++ [0]
def exp : Dk := ⟨[exA, Z80], [], false⟩
def exq : Dk := ⟨[exQ, Z80], [], false⟩
def exr : Dk := ⟨[Z80, exR], [], false⟩
theorem ex_w1 : doWrite ex0 .idle 0 exA = (0, ex1, .idle) := by kernel_rfl
theorem ex_w2 : doWrite ex1 .idle 1 exB = (0, ex2, .idle) := by kernel_rfl
theorem ex_w3 : doWrite ex2 .idle 0 exB = (0, ex3, .idle) := by kernel_rfl
theorem ex_d3 : doDurable ex3 0 = Z80 := by kernel_rfl
theorem ex_r3 : doRead ex3 .idle 0 = (exB, 0) := by kernel_rfl
theorem ex_p : ex3.crash 1 (-1) 0 = exp := by kernel_rfl
theorem ex_q : ex3.crash 1 2 3 = exq := by kernel_rfl
theorem ex_r : ex3.crash 0 1 (-1) = exr := by kernel_rfl
theorem ex_s : doSync ex3 .idle = (0, ex4, .idle) := by kernel_rfl
theorem ex_c4 : ex4.crash 0 0 0 = ex4 := by kernel_rfl
theorem ex_r4 : doRead ex4 .idle (-1) = ([], 3) := by kernel_rfl
theorem ex_d4 : doDurable ex4 0 = exB := by kernel_rfl
theorem ex_w4 : doWrite ex4 .idle 2 exA = (3, ex4, .idle) := by kernel_rfl
theorem ex_w5 : doWrite ex4 .idle 0 [120] = (2, ex4, .idle) := by kernel_rfl
theorem ex_a : Fz.idle.arm 0 = (0, .armed 0) := by kernel_rfl
theorem ex_w6 : doWrite ex4 (.armed 0) 0 exA = (10, ex4, .blown) := by kernel_rfl
theorem ex_s6 : doSync ex4 .blown = (10, ex4, .blown) := by kernel_rfl
theorem ex_w7 : doWrite ex4 .blown 9 exA = (3, ex4, .blown) := by kernel_rfl
theorem ex_r7 : doRead ex4 .blown 0 = ([], 10) := by kernel_rfl
theorem ex_d5 : doDurable ex5 0 = exB := by kernel_rfl
theorem ex_dp0 : doDurable exp 0 = exA := by kernel_rfl
theorem ex_dp1 : doDurable exp 1 = Z80 := by kernel_rfl
theorem ex_dq0 : doDurable exq 0 = exQ := by kernel_rfl
theorem ex_dr1 : doDurable exr 1 = exR := by kernel_rfl

section
variable {w0 W : World} {x d f m : Nat} {v : Value} {r g sb : Nat} {pv : Value} {D : Dk} {z : Fz} {E : Dk} {y : Fz}
theorem bx_write (h : BothAt w0 W x d f m v r g sb pv D z E y) (hP : D.P.length ≤ 1000) {i : Int} {s : List UInt8} {c : Int} {D' : Dk} {z' : Fz} (e : doWrite D z i s = (c, D', z')) :
    Calls Try.prog 19 #[.pointer (some ⟨d, 0, none⟩), .int .i64 i, .string (S s)] W fun e w' => e = .returned (.int .i64 c) ∧ ∃ v', BothAt w0 w' x d f m v' r g sb pv D' z' E y := by
  refine (dwrite_any d f m v D z i s W h.lab.disk h.lab.fuse (by omega)).mono ?_
  rw [e]
  rintro e w' ⟨rfl, a⟩
  exact ⟨rfl, h.dafter a⟩
theorem bx_sync (h : BothAt w0 W x d f m v r g sb pv D z E y) {c : Int} {D' : Dk} {z' : Fz} (e : doSync D z = (c, D', z')) :
    Calls Try.prog 26 #[.pointer (some ⟨d, 0, none⟩)] W fun e w' => e = .returned (.int .i64 c) ∧ ∃ v', BothAt w0 w' x d f m v' r g sb pv D' z' E y := by
  refine (dsync_any d f m v D z W h.lab.disk h.lab.fuse).mono ?_
  rw [e]
  rintro e w' ⟨rfl, a⟩
  exact ⟨rfl, h.dafter a⟩
theorem bx_read (h : BothAt w0 W x d f m v r g sb pv D z E y) {i : Int} {s : List UInt8} {c : Int} (e : doRead D z i = (s, c)) :
    Calls Try.prog 22 #[.pointer (some ⟨d, 0, none⟩), .int .i64 i] W fun e w' => e = .returned (.tuple #[.string (S s), .int .i64 c]) ∧ BothAt w0 w' x d f m v r g sb pv D z E y := by
  refine (dread_any d f m v D z i W h.lab.disk h.lab.fuse).mono ?_
  rw [e]
  rintro e w' ⟨rfl, b⟩
  exact ⟨rfl, h.below b⟩
theorem bx_dur (h : BothAt w0 W x d f m v r g sb pv D z E y) {i : Int} {s : List UInt8} (e : doDurable D i = s) :
    Calls Try.prog 21 #[.pointer (some ⟨d, 0, none⟩), .int .i64 i] W fun e w' => e = .returned (.string (S s)) ∧ BothAt w0 w' x d f m v r g sb pv D z E y := by
  refine (ddurable_any d f m v D i W h.lab.disk).mono ?_
  rw [e]
  rintro e w' ⟨rfl, b⟩
  exact ⟨rfl, h.below b⟩
theorem bx_pend (h : BothAt w0 W x d f m v r g sb pv D z E y) (hP : D.P.length ≤ 1000) {l : List Int} (e : pendNs D.P = l) :
    Calls Try.prog 18 #[.pointer (some ⟨d, 0, none⟩)] W fun e w' => ∃ A cap, e = .returned (.slice A l.length cap) ∧ w'.ownsRow 0 3 1 (.slice A l.length cap) l.length (intsOf l) ∧ BothAt w0 w' x d f m v r g sb pv D z E y := by
  refine (dpending_any d f m v D W h.lab.disk (by omega)).mono ?_
  rw [e]
  rintro e w' ⟨u, rfl, o, -, b⟩
  obtain ⟨A, cap, rfl⟩ := ownsRow_is o
  exact ⟨A, cap, rfl, o, h.below b⟩
theorem bx_crash (h : BothAt w0 W x d f m v r g sb pv D z E y) {k t b : Int} {D' : Dk} (e : D.crash k t b = D') :
    Calls Try.prog 23 #[.pointer (some ⟨d, 0, none⟩), .agg #[.int .u64 k, .int .i64 t, .int .i64 b]] W fun e w' => e = .returned (.tuple #[]) ∧ BothAt w0 w' x d f m (.slice none 0 0) r g sb pv D' z E y := by
  refine (dcrash_any d f m v D k t b W h.lab.disk).mono ?_
  rw [e]
  rintro e w' ⟨rfl, hd, hk⟩
  exact ⟨rfl, h.dcrash hd hk⟩
theorem bx_arm (h : BothAt w0 W x d f m v r g sb pv D z E y) {k c : Int} {z' : Fz} (e : z.arm k = (c, z')) (hz : z'.left ≤ 9223372036854775807) :
    Calls Try.prog 32 #[.pointer (some ⟨f, 0, none⟩), .int .i64 k] W fun e w' => e = .returned (.int .i64 c) ∧ BothAt w0 w' x d f m v r g sb pv D z' E y := by
  refine (farm_any f z k W h.lab.fuse).mono ?_
  rw [e]
  rintro e w' ⟨rfl, rfl⟩
  exact ⟨rfl, h.dfuse hz⟩
theorem bx_setfull (h : BothAt w0 W x d f m v r g sb pv D z E y) (b : Bool) {D' : Dk} (e : (⟨D.S, D.P, b⟩ : Dk) = D') :
    Calls Try.prog 33 #[.pointer (some ⟨d, 0, none⟩), .bool b] W fun e w' => e = .returned (.tuple #[]) ∧ BothAt w0 w' x d f m v r g sb pv D' z E y := by
  refine (dsetfull_any d f m v D b W h.lab.disk).mono ?_
  rintro e1 w' ⟨rfl, h4, k4⟩
  subst e
  exact ⟨rfl, h.dchange ⟨h4, h.lab.fuse.keeps k4 (fun e => h.lab.disk.df e.symm)⟩ k4 (fun _ h => .inl h) (fun _ hk => .inl hk)⟩
end
/-- A copy more, with a new fuse. -/
theorem bx_copy {w0 w3 W : World} {x d f m : Nat} {v : Value} {r g sb : Nat} {pv : Value} {D : Dk} {z : Fz} {E : Dk} {y : Fz} (h : BothAt w0 w3 x d f m v r g sb pv D z E y) (hP : D.P.length ≤ 1000) {ds : List DS} (hh : Hall w3 W ds []) :
    Calls Try.prog 31 #[.pointer (some ⟨d, 0, none⟩), .pointer (some ⟨W.heap.size, 0, none⟩)] (W.alloc Fz.idle.obj) fun e w' => ∃ d' f' m' v', e = .returned (.pointer (some ⟨d', 0, none⟩)) ∧ Hall w3 w' (⟨d', f', m', v', D, .idle⟩ :: ds) [] := by
  have b1 := alloc_below W Fz.idle.obj
  have hb := h.below (below_step b1 hh.bel (Nat.le_refl _))
  have hlt : W.heap.size < (W.alloc Fz.idle.obj).heap.size := by rw [alloc_size]; omega
  refine (dcopy_any d f m v D W.heap.size (W.alloc Fz.idle.obj) hb.lab.disk (by omega) hlt).mono ?_
  rintro e w' ⟨d', m', v', rfl, hd, b2, hf⟩
  have hz : FzAt (W.alloc Fz.idle.obj) W.heap.size .idle := ⟨alloc_new W _, by decide⟩
  refine ⟨d', W.heap.size, m', v', rfl, hh.addDisk (s := ⟨d', W.heap.size, m', v', D, .idle⟩) ⟨hd, hz.below b2⟩ (fun k hk => ?_) (below_step b2 b1 (Nat.le_refl _))⟩
  rcases hk with e | e | e | e
  · have := hf k (.inl e); omega
  · have e' : k = W.heap.size := e; omega
  · have := hf k (.inr (.inl e)); omega
  · have := hf k (.inr (.inr e)); omega
theorem hx_crash {w3 W : World} {ds : List DS} (hh : Hall w3 W ds []) (i : Nat) {d f m : Nat} {v : Value} {D : Dk} {z : Fz} (hs : ds[i]? = some ⟨d, f, m, v, D, z⟩) {k t b : Int} {D' : Dk} (e : D.crash k t b = D') :
    Calls Try.prog 23 #[.pointer (some ⟨d, 0, none⟩), .agg #[.int .u64 k, .int .i64 t, .int .i64 b]] W fun e w' => e = .returned (.tuple #[]) ∧ Hall w3 w' (ds.set i ⟨d, f, m, .slice none 0 0, D', z⟩) [] := by
  refine (dcrash_any d f m v D k t b W (hh.lab i _ hs).disk).mono ?_
  rw [e]
  rintro e w' ⟨rfl, hd, hk⟩
  exact ⟨rfl, hh.crash i hs hd hk⟩
theorem hx_dur {w3 W : World} {ds : List DS} (hh : Hall w3 W ds []) (i : Nat) {d f m : Nat} {v : Value} {D : Dk} {z : Fz} (hs : ds[i]? = some ⟨d, f, m, v, D, z⟩) {j : Int} {s : List UInt8} (e : doDurable D j = s) :
    Calls Try.prog 21 #[.pointer (some ⟨d, 0, none⟩), .int .i64 j] W fun e w' => e = .returned (.string (S s)) ∧ Below W.heap.size W w' := by
  refine (ddurable_any d f m v D j W (hh.lab i _ hs).disk).mono ?_
  rw [e]
  exact fun _ _ h => h
theorem hx_pend {w3 W : World} {ds : List DS} (hh : Hall w3 W ds []) (i : Nat) {d f m : Nat} {v : Value} {D : Dk} {z : Fz} (hs : ds[i]? = some ⟨d, f, m, v, D, z⟩) (hP : D.P.length ≤ 1000) {l : List Int} (e : pendNs D.P = l) :
    Calls Try.prog 18 #[.pointer (some ⟨d, 0, none⟩)] W fun e w' => ∃ A cap, e = .returned (.slice A l.length cap) ∧ Below W.heap.size W w' := by
  refine (dpending_any d f m v D W (hh.lab i _ hs).disk (by omega)).mono ?_
  rw [e]
  rintro e w' ⟨u, rfl, o, -, b⟩
  obtain ⟨A, cap, rfl⟩ := ownsRow_is o
  exact ⟨A, cap, rfl, b⟩
end Go.Proofs.Ytjpelmjocdodcaa
