/- The four tables of the digests, out of what a row lists. -/
import Derived.Test.YtmkifaddfnodhaaDoorHashSha
import Derived.Test.YtmkifaddfnodhaaDoorLaid
namespace Go.Proofs.YtmkifaddfnodhaaDoor
open Go.RowKit
def tabD (a : Array (BitVec 32)) : List (DataW Unit) := a.toList.map fun x => .lit (.int .u32 (x.toNat : Int))
theorem u32Tab_laid {n : String} {l : List (String × DataW Unit)} {W : World} {g m : Nat} {t e : TypeId} (a : Array (BitVec 32))
    (h : laidMet Tryd.prog l W) (hm : (n, .agg (tabD a)) ∈ l) (hg : Tryd.prog.globalNamed n = some g) (ht : (Tryd.prog.globals[g]?).map (·.type) = some t) (hu : Tryd.prog.underlying t = some (.array m e)) (he : Tryd.prog.underlying e = some (.int .u32)) (hce : Tryd.prog.cellsOf e = 1) (hs : a.size = m) : U32Tab W g a := by
  intro i hi
  obtain ⟨z, h1, h2⟩ := laid_int h hm hg ht hu he hce i (by omega)
  unfold tabD at h1
  rw [List.getElem?_map, List.getElem?_eq_getElem (by simpa using hi)] at h1
  simp only [Option.map_some, Option.some.injEq, DataW.lit.injEq, Lit.int.injEq, true_and] at h1
  rw [h2, List.getD_eq_getElem?_getD, List.getElem?_eq_getElem (by simpa using hi), ← h1]; rfl
/-- the program's two tables -/
structure PTabs (w : World) : Prop where
  pf : U32Tab w 9 USha.first
  pr : U32Tab w 18 USha.round
theorem PTabs.below {w w' : World} (h : PTabs w) (hb : Below w.heap.size w w') : PTabs w' := ⟨h.pf.below hb, h.pr.below hb⟩
theorem PTabs.lt {w : World} (h : PTabs w) : 18 < w.heap.size := lt_of_cell (h.pr 0 (by decide))
theorem pTabs {l : List (String × DataW Unit)} {W : World} (h : laidMet Tryd.prog l W) (h0 : ("usher/sums.firstWords", .agg (tabD USha.first)) ∈ l) (h1 : ("usher/sums.roundWords", .agg (tabD USha.round)) ∈ l) : PTabs W :=
  ⟨u32Tab_laid USha.first h h0 (g := 9) (by kernel_rfl) (by kernel_rfl) Tryd.underlying66 Tryd.underlying65 (by kernel_rfl) rfl,
   u32Tab_laid USha.round h h1 (g := 18) (by kernel_rfl) (by kernel_rfl) Tryd.underlying76 Tryd.underlying65 (by kernel_rfl) rfl⟩
structure ShaTabs (w : World) : Prop where
  pf : U32Tab w 9 USha.first
  pr : U32Tab w 18 USha.round
  rf : U32Tab w 16 USha.first
  rr : U32Tab w 17 USha.round
theorem ShaTabs.below {w w' : World} (h : ShaTabs w) (hb : Below w.heap.size w w') : ShaTabs w' := ⟨h.pf.below hb, h.pr.below hb, h.rf.below hb, h.rr.below hb⟩
theorem ShaTabs.p {w : World} (h : ShaTabs w) : PTabs w := ⟨h.pf, h.pr⟩
theorem ShaTabs.lt {w : World} (h : ShaTabs w) : 18 < w.heap.size := lt_of_cell (h.pr 0 (by decide))
theorem shaTabs {l : List (String × DataW Unit)} {W : World} (h : laidMet Tryd.prog l W) (h0 : ("usher/sums.firstWords", .agg (tabD USha.first)) ∈ l) (h1 : ("usher/sums.roundWords", .agg (tabD USha.round)) ∈ l)
    (h2 : ("usher/usherref1.first", .agg (tabD USha.first)) ∈ l) (h3 : ("usher/usherref1.round", .agg (tabD USha.round)) ∈ l) : ShaTabs W :=
  ⟨u32Tab_laid USha.first h h0 (g := 9) (by kernel_rfl) (by kernel_rfl) Tryd.underlying66 Tryd.underlying65 (by kernel_rfl) rfl,
   u32Tab_laid USha.round h h1 (g := 18) (by kernel_rfl) (by kernel_rfl) Tryd.underlying76 Tryd.underlying65 (by kernel_rfl) rfl,
   u32Tab_laid USha.first h h2 (g := 16) (by kernel_rfl) (by kernel_rfl) Tryd.underlying66 Tryd.underlying65 (by kernel_rfl) rfl,
   u32Tab_laid USha.round h h3 (g := 17) (by kernel_rfl) (by kernel_rfl) Tryd.underlying76 Tryd.underlying65 (by kernel_rfl) rfl⟩
end Go.Proofs.YtmkifaddfnodhaaDoor
