/- Blocks of cells that are known whole: stores and loads. -/
import Derived.Test.YtjdmindpiaijcaaFrame
import Derived.Laws.Tables
import Derived.Laws.Rows
namespace Go.Proofs.Ytjdmindpiaijcaa
open Go.RowKit Go.ChangeMaps
set_option linter.unusedSimpArgs false

theorem setCell_block {w : World} {b : Nat} {C : Array Value} {t : TypeId} {fr : Nat × Nat} (hb : w.heap[b]? = some (.cells C t fr)) (o : Nat) (v : Value) :
    w.setCell ⟨b, o, none⟩ v = setBlock w b (.cells (C.setIfInBounds o v) t fr) := by
  have hlt : b < w.heap.size := (Array.getElem?_eq_some_iff.1 hb).1
  have hg : w.heap[b] = .cells C t fr := (Array.getElem?_eq_some_iff.1 hb).2
  unfold World.setCell setBlock
  dsimp only
  congr 1
  apply Array.ext
  · simp
  · intro i h1 h2
    simp only [Array.getElem_modify, Array.getElem_setIfInBounds]
    by_cases h : b = i
    · subst h
      simp [hg]
    · have hi : i < w.heap.size := by simpa using h1
      rw [Array.getElem_setIfInBounds_ne hi h]
      simp [h]
theorem setBlock_twice (w : World) (b : Nat) (x y : Obj) : setBlock (setBlock w b x) b y = setBlock w b y := by
  unfold setBlock
  simp
theorem setBlock_same {w : World} {b : Nat} (h : b < w.heap.size) (o : Obj) : (setBlock w b o).heap[b]? = some o := by
  simp [setBlock, h]
theorem setBlock_other (w : World) {b k : Nat} (h : b ≠ k) (o : Obj) : (setBlock w b o).heap[k]? = w.heap[k]? := by
  simp [setBlock, h]
@[simp] theorem setBlock_size (w : World) (b : Nat) (o : Obj) : (setBlock w b o).heap.size = w.heap.size := by simp [setBlock]
section
variable {P : Program}
theorem store_block {w : World} {b : Nat} {t : TypeId} {old : Array Value} (hb : w.heap[b]? = some (.cells old t (0, 0))) (ty : TypeId) (cells : Array Value) (hi : (P.info? ty).map (·.size) = some cells.size)
    (ho : old.size = cells.size) (h1 : cells.all (·.oneCell') = true) :
    (Instr.storeAt ty (.pointer (some ⟨b, 0, none⟩)) (.agg cells)).run P w = .ok () (setBlock w b (.cells cells t (0, 0))) := by
  have h := run_storeVar_row (P := P) w b t ty old cells hb hi ho h1
  have he : w.setRow b cells = setBlock w b (.cells cells t (0, 0)) := by
    have hlt : b < w.heap.size := (Array.getElem?_eq_some_iff.1 hb).1
    have hg : w.heap[b] = .cells old t (0, 0) := (Array.getElem?_eq_some_iff.1 hb).2
    unfold World.setRow setBlock
    congr 1
    apply Array.ext
    · simp
    · intro i h1 h2
      simp only [Array.getElem_modify]
      by_cases h : b = i
      · subst h
        simp [hg]
      · have hi : i < w.heap.size := by simpa using h1
        rw [Array.getElem_setIfInBounds_ne hi h]
        simp [h]
  simp [Instr.storeAt, Instr.sureAddr, h, he]
theorem wpList_store_block {ops : Array Oper} {rest : List Oper} {o : Oper} {a : Act} {w : World} {Q : Exit → Act → World → Prop} (hg : o.guard = none) (ty : TypeId) (x y : Operand) (ho : o.op = .store ty x y)
    (b : Nat) (cells : Array Value) (hx : a.eval x = .pointer (some ⟨b, 0, none⟩)) (hy : a.eval y = .agg cells) (t : TypeId) (old : Array Value) (hb : w.heap[b]? = some (.cells old t (0, 0)))
    (hi : (P.info? ty).map (·.size) = some cells.size) (hold : old.size = cells.size) (h1 : cells.all (·.oneCell') = true)
    (h : wpList P ops Q rest (a.put o.dst undef) (setBlock w b (.cells cells t (0, 0)))) : wpList P ops Q (o :: rest) a w := by
  refine wpList_plain hg fun K hK => ?_
  unfold Oper.wp execOp
  simp only [ho, hx, hy, Sem.run_bind, Sem.run_pure, Result.andThen_ok, store_block hb ty cells hi hold h1]
  exact hK _ _ h
theorem wpList_load_block {ops : Array Oper} {rest : List Oper} {o : Oper} {a : Act} {w : World} {Q : Exit → Act → World → Prop} (hg : o.guard = none) (ty : TypeId) (x : Operand) (ho : o.op = .load ty x)
    (b : Nat) (cs : Array Value) (hx : a.eval x = .pointer (some ⟨b, 0, none⟩)) (t : TypeId) (fr : Nat × Nat) (hb : w.heap[b]? = some (.cells cs t fr)) (d : TypeDesc) (hu : P.underlying ty = some d)
    (hd : (match d with | .struct _ | .array _ _ => true | _ => false) = true) (hi : (P.info? ty).map (·.size) = some cs.size)
    (h : wpList P ops Q rest (a.put o.dst (.agg cs)) w) : wpList P ops Q (o :: rest) a w := by
  refine wpList_plain hg fun K hK => ?_
  have hl : (loadVar ty ⟨b, 0, none⟩).run P w = .ok (.agg cs) w := run_loadVar_row (P := P) w b t ty cs fr d hb hu hd hi
  unfold Oper.wp execOp
  simp only [ho, hx, Instr.loadAt, Instr.sureAddr, Sem.run_bind, Sem.run_pure, Result.andThen_ok, hl]
  exact hK _ _ h
theorem load_block {w : World} {b : Nat} {t : TypeId} {cs : Array Value} {fr : Nat × Nat} (hb : w.heap[b]? = some (.cells cs t fr)) (ty : TypeId) {d : TypeDesc} (hu : P.underlying ty = some d)
    (hd : (match d with | .struct _ | .array _ _ => true | _ => false) = true) (hi : (P.info? ty).map (·.size) = some cs.size) :
    (Instr.loadAt ty (.pointer (some ⟨b, 0, none⟩))).run P w = .ok (.agg cs) w := by
  have h := run_loadVar_row (P := P) w b t ty cs fr d hb hu hd hi
  simp [Instr.loadAt, Instr.sureAddr, h]
theorem results_cell2 {fn : Func} {t u : Tmp} {T : TypeId} (h : fn.results = #[.cell t T, .tmp u]) (tmps : Array Value) (w : World) (b : Nat) (cs : Array Value) (ty : TypeId) (fr : Nat × Nat) (hx : tmps.getD t undef = .pointer (some ⟨b, 0, none⟩))
    (hb : w.heap[b]? = some (.cells cs ty fr)) (d : TypeDesc) (hu : P.underlying T = some d) (hd : (match d with | .struct _ | .array _ _ => true | _ => false) = true) (hi : (P.info? T).map (·.size) = some cs.size) :
    (results fn tmps).run P w = .ok (.tuple #[.agg cs, tmps.getD u undef]) w := by
  have hl : (loadVar T ⟨b, 0, none⟩).run P w = .ok (.agg cs) w := run_loadVar_row (P := P) w b ty T cs fr d hb hu hd hi
  have hx' : tmps[t]?.getD undef = .pointer (some ⟨b, 0, none⟩) := by simpa using hx
  simp [results, h, hx', asAddr, hl]
end
end Go.Proofs.Ytjdmindpiaijcaa
