/- A block that is known whole: its cells as a list; a segment of it loaded or stored as one value. -/
import Derived.Test.YtmmniapkajbdhaaDoorLawPost
import Derived.Laws.CopyOwn
import Derived.Laws.CopyRow
namespace Go.Proofs.YtmmniapkajbdhaaDoor
open Go.RowKit
def Blk (w : World) (g : Nat) (t : TypeId) (l : List Value) : Prop := w.heap[g]? = some (.cells l.toArray t (0, 0))
theorem Blk.lt {w : World} {g : Nat} {t : TypeId} {l : List Value} (h : Blk w g t l) : g < w.heap.size := by
  refine Classical.byContradiction fun hn => ?_
  unfold Blk at h
  rw [Array.getElem?_eq_none (by omega)] at h
  cases h
theorem Blk.cell {w : World} {g : Nat} {t : TypeId} {l : List Value} (h : Blk w g t l) (i : Nat) : w.cell? ⟨g, i, none⟩ = l[i]? := by
  rw [cell_of_row w g i l.toArray t (0, 0) h]; simp
theorem Blk.frozen {w : World} {g : Nat} {t : TypeId} {l : List Value} (h : Blk w g t l) (i : Nat) : w.frozen? ⟨g, i, none⟩ = false := by
  unfold Blk at h
  simp [World.frozen?, h]
theorem Blk.set {w : World} {g : Nat} {t : TypeId} {l : List Value} (h : Blk w g t l) (i : Nat) (v : Value) : Blk (w.setCell ⟨g, i, none⟩ v) g t (l.set i v) := by
  have := heap_setCell_same w g i l.toArray t v h
  unfold Blk
  rw [this]
  simp
theorem Blk.far {w : World} {g : Nat} {t : TypeId} {l : List Value} (h : Blk w g t l) (a : Addr) (v : Value) (hne : g ≠ a.block) : Blk (w.setCell a v) g t l := by
  unfold Blk at *
  rw [heap_setCell_other w a g v hne]; exact h
theorem Blk.alloc {w : World} {g : Nat} {t : TypeId} {l : List Value} (h : Blk w g t l) (o : Obj) : Blk (w.alloc o) g t l := by
  have := h.lt
  unfold Blk at *
  rw [Below.heap_alloc w o g this]; exact h
theorem Blk.new (w : World) (t : TypeId) (l : List Value) : Blk (w.alloc (.cells l.toArray t)) w.heap.size t l := heap_alloc_new w _
theorem Blk.below {w w' : World} {g B : Nat} {t : TypeId} {l : List Value} (h : Blk w g t l) (hb : Below B w w') (hg : g < B) : Blk w' g t l := by
  unfold Blk at *
  rw [hb.block g hg]; exact h
theorem Blk.drew {w : World} {g : Nat} {t : TypeId} {l : List Value} (h : Blk w g t l) : Blk w.drew g t l := h
/-- a segment written -/
def seg (l : List Value) (o : Nat) (cs : List Value) : List Value := l.take o ++ cs ++ l.drop (o + cs.length)
theorem seg_length (l : List Value) (o : Nat) (cs : List Value) (h : o + cs.length ≤ l.length) : (seg l o cs).length = l.length := by
  unfold seg; simp; omega
theorem Blk.row {w : World} {g : Nat} {t : TypeId} {l : List Value} (h : Blk w g t l) (cs : List Value) : Blk (w.setRow g cs.toArray) g t cs := by
  unfold Blk at *
  exact setRow_heap w g l.toArray cs.toArray t (0, 0) h
theorem Blk.row_far {w : World} {g k : Nat} {t : TypeId} {l : List Value} (h : Blk w g t l) (cs : Array Value) (hne : g ≠ k) : Blk (w.setRow k cs) g t l := by
  unfold Blk at *
  have : (w.setRow k cs).heap[g]? = w.heap[g]? := by
    simp [World.setRow, Array.getElem?_modify, Ne.symm hne]
  rw [this]; exact h
section
variable {P : Program}
theorem run_loadVar_seg {w : World} {g : Nat} {t : TypeId} {l : List Value} (hb : Blk w g t l) (ty : TypeId) (o n : Nat) (d : TypeDesc) (hu : P.underlying ty = some d) (hd : (match d with | .struct _ | .array _ _ => true | _ => false) = true)
    (hi : (P.info? ty).map (·.size) = some n) (hn : o + n ≤ l.length) : (loadVar ty ⟨g, o, none⟩).run P w = .ok (.agg ((l.drop o).take n).toArray) w := by
  have hlen : ((l.drop o).take n).length = n := by simp; omega
  have hl : (loadCells ⟨g, o, none⟩ ((l.drop o).take n).length).run P w = .ok ((l.drop o).take n).toArray w :=
    run_loadCells_list (P := P) w ⟨g, o, none⟩ ((l.drop o).take n) (fun j v hv => by
      have hadd : (⟨g, o, none⟩ : Addr).add j = ⟨g, o + j, none⟩ := by unfold Addr.add; split <;> simp_all
      rw [hadd, hb.cell]
      rw [List.getElem?_take] at hv
      split at hv
      · rw [List.getElem?_drop] at hv; exact hv
      · cases hv)
  rw [hlen] at hl
  cases hq : P.info? ty with
  | none => simp [hq] at hi
  | some i =>
    have hs : i.size = n := by simpa [hq] using hi
    have hagg : (isAgg ty).run P w = .ok true w := by
      unfold isAgg
      rw [Sem.run_bind, run_underlying hu w]
      cases d <;> simp_all
    simp [loadVar, Sem.run_bind, hagg, sizeOf, typeInfo, hq, hs, hl]
theorem run_storeVar_seg {w : World} {g : Nat} {t : TypeId} {l : List Value} (hb : Blk w g t l) (ty : TypeId) (o : Nat) (cs : List Value)
    (hi : (P.info? ty).map (·.size) = some cs.length) (hn : o + cs.length ≤ l.length) (h1 : ∀ v ∈ cs, v.oneCell' = true) :
    (storeVar ty ⟨g, o, none⟩ (.agg cs.toArray)).run P w = .ok () (w.setRow g (seg l o cs).toArray) := by
  cases hq : P.info? ty with
  | none => simp [hq] at hi
  | some i =>
    have hs : i.size = cs.length := by simpa [hq] using hi
    have hst := run_storeCells_at P g o t cs 0 l.toArray w hb (by simpa using hn) h1
    simp only [Nat.add_zero] at hst
    simp [storeVar, sizeOf, typeInfo, hq, hs, Value.cells, hst, seg]
/-- 'x := *p', p to a segment of a block. -/
theorem wpList_load_seg {ops : Array Oper} {rest : List Oper} {o : Oper} {a : Act} {w : World} {Q : Exit → Act → World → Prop} (hgd : o.guard = none) (ty : TypeId) (x : Operand) (ho : o.op = .load ty x)
    {g off n : Nat} {t : TypeId} {l : List Value} (hx : a.eval x = .pointer (some ⟨g, off, none⟩)) (hb : Blk w g t l) (d : TypeDesc)
    (hu : P.underlying ty = some d) (hd : (match d with | .struct _ | .array _ _ => true | _ => false) = true) (hi : (P.info? ty).map (·.size) = some n) (hn : off + n ≤ l.length)
    (h : wpList P ops Q rest (a.put o.dst (.agg ((l.drop off).take n).toArray)) w) : wpList P ops Q (o :: rest) a w :=
  wpList_plain hgd fun _ hK => by
    unfold Oper.wp execOp
    simp only [ho, hx, Instr.loadAt, Instr.sureAddr, Sem.run_bind, Sem.run_pure, Result.andThen_ok, run_loadVar_seg hb ty off n d hu hd hi hn]
    exact hK _ _ h
/-- '*p = x', x an array or a struct. -/
theorem wpList_store_seg {ops : Array Oper} {rest : List Oper} {o : Oper} {a : Act} {w : World} {Q : Exit → Act → World → Prop} (hgd : o.guard = none) (ty : TypeId) (x y : Operand) (ho : o.op = .store ty x y)
    {g off : Nat} {t : TypeId} {l cs : List Value} (hx : a.eval x = .pointer (some ⟨g, off, none⟩)) (hy : a.eval y = .agg cs.toArray) (hb : Blk w g t l)
    (hi : (P.info? ty).map (·.size) = some cs.length) (hn : off + cs.length ≤ l.length) (h1 : ∀ v ∈ cs, v.oneCell' = true)
    (h : wpList P ops Q rest (a.put o.dst undef) (w.setRow g (seg l off cs).toArray)) : wpList P ops Q (o :: rest) a w :=
  wpList_plain hgd fun _ hK => by
    unfold Oper.wp execOp
    simp only [ho, hx, hy, Instr.storeAt, Instr.sureAddr, Sem.run_bind, Sem.run_pure, Result.andThen_ok, run_storeVar_seg hb ty off cs hi hn h1]
    exact hK _ _ h
theorem setRow_alloc (w : World) (c cs : Array Value) (t : TypeId) : (w.alloc (.cells c t)).setRow w.heap.size cs = w.alloc (.cells cs t) := by
  simp only [World.setRow, World.alloc]
  congr 1
  apply Array.ext_getElem?
  intro i
  rw [Array.getElem?_modify, Array.getElem?_push, Array.getElem?_push]
  by_cases h : w.heap.size = i
  · subst h; simp
  · simp [h, Ne.symm h]
/-- 'x := v' behind the new variable's block: the block is laid with v. -/
theorem wpList_store_new {ops : Array Oper} {rest : List Oper} {o : Oper} {a : Act} {Q : Exit → Act → World → Prop} {w0 : World} {c : Array Value} {t : TypeId} (ty : TypeId) (x y : Operand) (cs : List Value) (hgd : o.guard = none) (ho : o.op = .store ty x y)
    (hx : a.eval x = .pointer (some ⟨w0.heap.size, 0, none⟩)) (hy : a.eval y = .agg cs.toArray)
    (hi : (P.info? ty).map (·.size) = some cs.length) (hc : c.size = cs.length) (h1 : ∀ v ∈ cs, v.oneCell' = true)
    (h : wpList P ops Q rest (a.put o.dst undef) (w0.alloc (.cells cs.toArray t))) : wpList P ops Q (o :: rest) a (w0.alloc (.cells c t)) := by
  have hb : Blk (w0.alloc (.cells c t)) w0.heap.size t c.toList := by
    have := Blk.new w0 t c.toList
    simpa using this
  have hs : seg c.toList 0 cs = cs := by
    unfold seg
    rw [List.take_zero, List.nil_append, List.drop_of_length_le (by simp [hc]), List.append_nil]
  refine wpList_store_seg hgd ty x y ho hx hy hb hi (by simp [hc]) h1 ?_
  rw [hs, setRow_alloc]
  exact h
end
end Go.Proofs.YtmmniapkajbdhaaDoor
