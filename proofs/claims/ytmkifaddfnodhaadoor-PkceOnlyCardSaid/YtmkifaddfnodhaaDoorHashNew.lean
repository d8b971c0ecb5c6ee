/- NewHash, walked. -/
import Derived.Test.YtmkifaddfnodhaaDoorHashOps
namespace Go.Proofs.YtmkifaddfnodhaaDoor
open Go.RowKit
section
variable {P : Program}
theorem run_loadVar_cells {w : World} {g o : Nat} (l : List Value) (hc : ∀ j v, l[j]? = some v → w.cell? ⟨g, o + j, none⟩ = some v) (ty : TypeId) (d : TypeDesc) (hu : P.underlying ty = some d) (hd : (match d with | .struct _ | .array _ _ => true | _ => false) = true)
    (hi : (P.info? ty).map (·.size) = some l.length) : (loadVar ty ⟨g, o, none⟩).run P w = .ok (.agg l.toArray) w := by
  have hl : (loadCells ⟨g, o, none⟩ l.length).run P w = .ok l.toArray w :=
    run_loadCells_list (P := P) w ⟨g, o, none⟩ l (fun j v hv => by
      have hadd : (⟨g, o, none⟩ : Addr).add j = ⟨g, o + j, none⟩ := by unfold Addr.add; split <;> simp_all
      rw [hadd]; exact hc j v hv)
  cases hq : P.info? ty with
  | none => simp [hq] at hi
  | some i =>
    have hs : i.size = l.length := by simpa [hq] using hi
    have hagg : (isAgg ty).run P w = .ok true w := by
      unfold isAgg
      rw [Sem.run_bind, run_underlying hu w]
      cases d <;> simp_all
    simp [loadVar, Sem.run_bind, hagg, sizeOf, typeInfo, hq, hs, hl]
theorem wpList_load_cells {ops : Array Oper} {rest : List Oper} {o : Oper} {a : Act} {w : World} {Q : Exit → Act → World → Prop} (hgd : o.guard = none) (ty : TypeId) (x : Operand) (ho : o.op = .load ty x)
    {g off : Nat} (l : List Value) (hx : a.eval x = .pointer (some ⟨g, off, none⟩)) (hc : ∀ j v, l[j]? = some v → w.cell? ⟨g, off + j, none⟩ = some v) (d : TypeDesc)
    (hu : P.underlying ty = some d) (hd : (match d with | .struct _ | .array _ _ => true | _ => false) = true) (hi : (P.info? ty).map (·.size) = some l.length)
    (h : wpList P ops Q rest (a.put o.dst (.agg l.toArray)) w) : wpList P ops Q (o :: rest) a w :=
  wpList_plain hgd fun _ hK => by
    unfold Oper.wp execOp
    simp only [ho, hx, Instr.loadAt, Instr.sureAddr, Sem.run_bind, Sem.run_pure, Result.andThen_ok, run_loadVar_cells l hc ty d hu hd hi]
    exact hK _ _ h
end
theorem first_cells {w : World} {g : Nat} (h : U32Tab w g USha.first) (j : Nat) (v : Value) (hv : (vl USha.init)[j]? = some v) : w.cell? ⟨g, 0 + j, none⟩ = some v := by
  have hj : j < 8 := by
    have := (List.getElem?_eq_some_iff.1 hv).1
    rwa [vl_length] at this
  rw [Nat.zero_add, h j hj, ← hv]
  match j, hj with
  | 0, _ => rfl
  | 1, _ => rfl
  | 2, _ => rfl
  | 3, _ => rfl
  | 4, _ => rfl
  | 5, _ => rfl
  | 6, _ => rfl
  | 7, _ => rfl
theorem new_cells : List.foldl (fun cs x => cs.setIfInBounds x.snd x.fst) Tryd.zeroCells70 (vl USha.init).zipIdx = (hc USha.init (List.replicate 64 0#8) 0 0).toArray := by kernel_rfl
theorem newHash_any (w : World) (ht : U32Tab w 9 USha.first) :
    Calls Tryd.prog 28 #[] w fun e w' => e = .returned (.pointer (some ⟨w.heap.size, 0, none⟩)) ∧ Blk w' w.heap.size 70 (hc USha.init (List.replicate 64 0#8) 0 0) ∧ Below w.heap.size w w' := by
  have HT := Lib.hid (first_cells ht)
  clear ht
  go_enter Tryd.func28, Tryd.ntmps28
  go_wp2_with (first
    | (refine wpList_load_cells (by rfl) 66 (.global 9) (by rfl) (vl USha.init) (by rfl) HT.out _ Tryd.underlying66 rfl (by kernel_rfl) ?_))
  go_ret
  refine ⟨rfl, ?_, (Below.refl _ _).alloc (Nat.le_refl _) _⟩
  rw [new_cells]
  exact Blk.new w _ _
end Go.Proofs.YtmkifaddfnodhaaDoor
