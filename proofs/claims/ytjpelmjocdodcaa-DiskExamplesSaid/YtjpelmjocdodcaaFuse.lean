/- Package fuse: what each call does. -/
import Derived.Test.YtjpelmjocdodcaaAddr
import Derived.Test.YtjpelmjocdodcaaDiskPure
import Derived.Test.YtjpelmjocdodcaaProg
import Derived.LoopTactic
import Derived.Laws.EntriesVeiled
namespace Go.Proofs.Ytjpelmjocdodcaa
open Go.RowKit Go.ChangeMaps

def Fz.next : Fz → Nat
  | .idle => 77
  | .armed 0 => 75
  | .armed (_ + 1) => 76
  | .blown => 75
def Fz.cells (z : Fz) : Array Value := #[.int .i64 z.st, .int .i64 z.left, .func (.func z.next) #[] #[]]
/-- Block f is the fuse z. -/
def FzAt (w : World) (f : Nat) (z : Fz) : Prop := w.heap[f]? = some (.cells z.cells 112 (0, 0)) ∧ z.left ≤ 9223372036854775807
def Fz.obj (z : Fz) : Obj := .cells z.cells 112 (0, 0)

theorem setBlock_self {w : World} {b : Nat} {o : Obj} (h : w.heap[b]? = some o) : setBlock w b o = w := by
  obtain ⟨hlt, he⟩ := Array.getElem?_eq_some_iff.1 h
  unfold setBlock
  have : w.heap.setIfInBounds b o = w.heap := by
    apply Array.ext
    · simp
    · intro i h1 h2
      rw [Array.getElem_setIfInBounds]
      split
      · rename_i hi; subst hi; exact he.symm
      · rfl
  rw [this]
theorem three_set {w : World} {b : Nat} {v0 v1 v2 : Value} {t : TypeId} (h : w.heap[b]? = some (.cells #[v0, v1, v2] t (0, 0))) (a0 a1 a2 : Value) :
    ((w.setCell ⟨b, 0, none⟩ a0).setCell ⟨b, 1, none⟩ a1).setCell ⟨b, 2, none⟩ a2 = setBlock w b (.cells #[a0, a1, a2] t (0, 0)) := by
  have hlt := (Array.getElem?_eq_some_iff.1 h).1
  rw [setCell_block h, setCell_block (setBlock_same hlt _), setBlock_twice, setCell_block (setBlock_same hlt _), setBlock_twice]
  rfl
set_option maxHeartbeats 800000 in
theorem fset_any (z : Fz) (f : Nat) {v0 v1 v2 : Value} (w : World) (h : w.heap[f]? = some (.cells #[v0, v1, v2] 112 (0, 0))) :
    Calls Try.prog 55 #[.pointer (some ⟨f, 0, none⟩), .int .i64 z.st, .int .i64 z.left] w fun e w' => e = .returned (.tuple #[]) ∧ w' = setBlock w f z.obj := by
  have c0 := (cell_of h 0).trans rfl
  have c1 := (cell_of h 1).trans rfl
  have c2 := (cell_of h 2).trans rfl
  have f0 := free_of h 0
  have f1 := free_of h 1
  have f2 := free_of h 2
  have HE := Lib.hid (three_set h)
  clear h
  rcases z with _ | ⟨_ | k⟩ | _
  case idle =>
    unfold Fz.st Fz.left
    go_enter Try.func55, Try.ntmps55
    go_wp2
    go_end0
    exact ⟨rfl, HE.out _ _ _⟩
  case armed.zero =>
    unfold Fz.st Fz.left
    go_enter Try.func55, Try.ntmps55
    go_wp2
    go_end0
    exact ⟨rfl, HE.out _ _ _⟩
  case armed.succ =>
    have hk : (((k + 1 : Nat) : Int) == 0) = false := by rw [beq_eq_false_iff_ne]; omega
    unfold Fz.st Fz.left
    dsimp only
    go_enter Try.func55, Try.ntmps55
    go_wp2
    go_end0
    exact ⟨rfl, HE.out _ _ _⟩
  case blown =>
    unfold Fz.st Fz.left
    go_enter Try.func55, Try.ntmps55
    go_wp2
    go_end0
    exact ⟨rfl, HE.out _ _ _⟩
theorem setBlock_new (w : World) (o o' : Obj) : setBlock (w.alloc o) w.heap.size o' = w.alloc o' := by
  unfold setBlock World.alloc
  dsimp only
  congr 1
  apply Array.ext
  · simp
  · intro i h1 h2
    have h3 : i < w.heap.size + 1 := by simpa using h2
    rw [Array.getElem_setIfInBounds (by simpa using h2)]
    by_cases hi : w.heap.size = i
    · subst hi; simp
    · have : i < w.heap.size := by omega
      rw [if_neg hi]
      simp [Array.getElem_push, this]
theorem Fz.burn_left (z : Fz) : z.burn.2.left ≤ z.left := by
  rcases z with _ | ⟨_ | k⟩ | _ <;> simp [Fz.burn, Fz.left]
theorem FzAt.set {w : World} {f : Nat} {z : Fz} (h : FzAt w f z) {z' : Fz} (hz : z'.left ≤ 9223372036854775807) : FzAt (setBlock w f z'.obj) f z' :=
  ⟨setBlock_same (Array.getElem?_eq_some_iff.1 h.1).1 _, hz⟩
theorem FzAt.keeps {w w' : World} {f : Nat} {z : Fz} {S : Nat → Prop} (h : FzAt w f z) (k : Keeps S w w') (hf : ¬ S f) : FzAt w' f z :=
  ⟨(k.block f (Array.getElem?_eq_some_iff.1 h.1).1 hf).trans h.1, h.2⟩
theorem FzAt.lt {w : World} {f : Nat} {z : Fz} (h : FzAt w f z) : f < w.heap.size := (Array.getElem?_eq_some_iff.1 h.1).1

set_option maxHeartbeats 400000 in
theorem fnew_any (w : World) : Calls Try.prog 25 #[] w fun e w' => e = .returned (.pointer (some ⟨w.heap.size, 0, none⟩)) ∧ w' = w.alloc Fz.idle.obj := by
  have q := alloc_new w (.cells #[.int .i64 0, .int .i64 0, .nilFunc] 112)
  have HE := Lib.hid (setBlock_new w (.cells #[.int .i64 0, .int .i64 0, .nilFunc] 112) Fz.idle.obj)
  go_enter Try.func25, Try.ntmps25
  go_wp2_with (fail)
  refine (fset_any .idle w.heap.size _ q).mono ?_
  rintro e w' ⟨rfl, rfl⟩
  rw [HE.out]
  go_wp2
  go_ret
  exact ⟨rfl, rfl⟩
set_option maxHeartbeats 400000 in
theorem fset1_any (f : Nat) {v0 v1 v2 : Value} (w : World) (h : w.heap[f]? = some (.cells #[v0, v1, v2] 112 (0, 0))) :
    Calls Try.prog 75 #[.pointer (some ⟨f, 0, none⟩)] w fun e w' => e = .returned (.int .i64 10) ∧ w' = setBlock w f Fz.blown.obj := by
  have H := Lib.hid h
  clear h
  go_enter Try.func75, Try.ntmps75
  go_wp2_with (fail)
  refine (fset_any .blown f _ H.out).mono ?_
  rintro e w' ⟨rfl, rfl⟩
  go_wp2
  go_ret
  exact ⟨rfl, rfl⟩
set_option maxHeartbeats 400000 in
theorem fset2_any (f k : Nat) (w : World) (h : FzAt w f (.armed (k + 1))) :
    Calls Try.prog 76 #[.pointer (some ⟨f, 0, none⟩)] w fun e w' => e = .returned (.int .i64 0) ∧ w' = setBlock w f (Fz.armed k).obj := by
  have c1 : w.cell? ⟨f, 1, none⟩ = some (.int .i64 ((k + 1 : Nat) : Int)) := (cell_of h.1 1).trans rfl
  have hk : k + 1 ≤ 9223372036854775807 := h.2
  have H := Lib.hid h.1
  have hw : IntKind.i64.wrap (((k + 1 : Nat) : Int) - 1) = (k : Int) := by rw [IntKind.wrap_i64]; omega
  have hw' : IntKind.i64.wrap ((k : Int) + 1 - 1) = (k : Int) := by rw [IntKind.wrap_i64]; omega
  clear h
  go_enter Try.func76, Try.ntmps76
  go_wp2_with (fail)
  refine (fset_any (.armed k) f _ H.out).mono ?_
  rintro e w' ⟨rfl, rfl⟩
  go_wp2
  go_ret
  exact ⟨rfl, rfl⟩
set_option maxHeartbeats 400000 in
theorem fset3_any (v : Value) (w : World) : Calls Try.prog 77 #[v] w fun e w' => e = .returned (.int .i64 0) ∧ w' = w := by
  go_enter Try.func77, Try.ntmps77
  go_wp2
  go_ret
  exact ⟨rfl, rfl⟩
set_option maxHeartbeats 800000 in
theorem fburn_any (f : Nat) (z : Fz) (w : World) (h : FzAt w f z) :
    Calls Try.prog 47 #[.pointer (some ⟨f, 0, none⟩)] w fun e w' => e = .returned (.int .i64 z.burn.1) ∧ w' = setBlock w f z.burn.2.obj := by
  have c2 : w.cell? ⟨f, 2, none⟩ = some (.func (.func z.next) #[] #[]) := (cell_of h.1 2).trans rfl
  have H := Lib.hid h
  have HS := Lib.hid (setBlock_self h.1)
  clear h
  rcases z with _ | ⟨_ | k⟩ | _
  all_goals
    simp only [Fz.next] at c2
    go_enter Try.func47, Try.ntmps47
    go_wp2_with (fail)
  · refine (fset3_any _ w).mono ?_
    rintro e w' ⟨rfl, rfl⟩
    go_wp2
    go_ret
    exact ⟨rfl, HS.out.symm⟩
  · refine (fset1_any f w H.out.1).mono ?_
    rintro e w' ⟨rfl, rfl⟩
    go_wp2
    go_ret
    exact ⟨rfl, rfl⟩
  · refine (fset2_any f k w H.out).mono ?_
    rintro e w' ⟨rfl, rfl⟩
    go_wp2
    go_ret
    exact ⟨rfl, rfl⟩
  · refine (fset1_any f w H.out.1).mono ?_
    rintro e w' ⟨rfl, rfl⟩
    go_wp2
    go_ret
    exact ⟨rfl, rfl⟩
set_option maxHeartbeats 800000 in
theorem fblown_any (f : Nat) (z : Fz) (w : World) (h : FzAt w f z) :
    Calls Try.prog 52 #[.pointer (some ⟨f, 0, none⟩)] w fun e w' => e = .returned (.bool z.dead) ∧ w' = w := by
  have c0 : w.cell? ⟨f, 0, none⟩ = some (.int .i64 z.st) := (cell_of h.1 0).trans rfl
  clear h
  rcases z with _ | k | _
  all_goals
    simp only [Fz.st] at c0
    go_enter Try.func52, Try.ntmps52
    go_wp2
    go_ret
    exact ⟨rfl, rfl⟩
set_option maxHeartbeats 800000 in
theorem freset_any (f : Nat) (z : Fz) (w : World) (h : FzAt w f z) :
    Calls Try.prog 81 #[.pointer (some ⟨f, 0, none⟩)] w fun e w' => e = .returned (.tuple #[]) ∧ w' = setBlock w f Fz.idle.obj := by
  have H := Lib.hid h.1
  clear h
  go_enter Try.func81, Try.ntmps81
  go_wp2_with (fail)
  refine (fset_any .idle f _ H.out).mono ?_
  rintro e w' ⟨rfl, rfl⟩
  go_wp2
  go_end0
  exact ⟨rfl, rfl⟩
set_option maxHeartbeats 800000 in
theorem farm_any (f : Nat) (z : Fz) (k : Int) (w : World) (h : FzAt w f z) :
    Calls Try.prog 32 #[.pointer (some ⟨f, 0, none⟩), .int .i64 k] w fun e w' => e = .returned (.int .i64 (z.arm k).1) ∧ w' = setBlock w f (z.arm k).2.obj := by
  have c0 : w.cell? ⟨f, 0, none⟩ = some (.int .i64 z.st) := (cell_of h.1 0).trans rfl
  have HS := Lib.hid (setBlock_self h.1)
  have H := Lib.hid h.1
  clear h
  by_cases hk : k < 0
  · have HE : Hid (z.arm k = (3, z)) := by unfold Hid Fz.arm; rw [if_pos hk]
    go_enter Try.func32, Try.ntmps32
    go_wp2
    go_ret
    rw [HE.out]
    exact ⟨rfl, HS.out.symm⟩
  · obtain ⟨m, rfl⟩ : ∃ m : Nat, k = m := ⟨k.toNat, by omega⟩
    rcases z with _ | j | _
    case blown =>
      have HE : Hid (Fz.blown.arm (m : Int) = (7, Fz.blown)) := by unfold Hid Fz.arm; rw [if_neg hk]; rfl
      simp only [Fz.st] at c0
      go_enter Try.func32, Try.ntmps32
      go_wp2
      go_ret
      rw [HE.out]
      exact ⟨rfl, HS.out.symm⟩
    case idle =>
      have HE : Hid (Fz.idle.arm (m : Int) = (0, Fz.armed m)) := by unfold Hid Fz.arm; rw [if_neg hk]; rfl
      simp only [Fz.st] at c0
      go_enter Try.func32, Try.ntmps32
      go_wp2_with (fail)
      refine (fset_any (.armed m) f _ H.out).mono ?_
      rintro e w' ⟨rfl, rfl⟩
      go_wp2
      go_ret
      rw [HE.out]
      exact ⟨rfl, rfl⟩
    case armed =>
      have HE : Hid ((Fz.armed j).arm (m : Int) = (0, Fz.armed m)) := by unfold Hid Fz.arm; rw [if_neg hk]; rfl
      simp only [Fz.st] at c0
      go_enter Try.func32, Try.ntmps32
      go_wp2_with (fail)
      refine (fset_any (.armed m) f _ H.out).mono ?_
      rintro e w' ⟨rfl, rfl⟩
      go_wp2
      go_ret
      rw [HE.out]
      exact ⟨rfl, rfl⟩
end Go.Proofs.Ytjpelmjocdodcaa
