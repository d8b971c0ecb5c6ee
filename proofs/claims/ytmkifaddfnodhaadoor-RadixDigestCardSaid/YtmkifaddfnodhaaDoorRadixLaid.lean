/- What the rows of layer 2 give a walk: the digits' cells. -/
import Derived.Test.YtmkifaddfnodhaaDoorRadixHexTab
import Derived.Test.YtmkifaddfnodhaaDoorLaid
namespace Go.Proofs.YtmkifaddfnodhaaDoor
open Go.RowKit
def hexD : List (DataW Unit) := URadix.hexA.map fun x => .lit (.int .u8 (x.toNat : Int))
theorem hexTab_laid {l : List (String × DataW Unit)} {W : World} (h : laidMet Tryd.prog l W) (hm : ("usher/radix.hexDigits", .agg hexD) ∈ l) : HexTab W := by
  intro i hi
  obtain ⟨z, h1, h2⟩ := laid_int h hm (g := 1) (by kernel_rfl) (by kernel_rfl) Tryd.underlying57 Tryd.underlying5 (by kernel_rfl) i hi
  unfold hexD at h1
  have hl : i < URadix.hexA.length := hi
  rw [List.getElem?_map, List.getElem?_eq_getElem hl] at h1
  simp only [Option.map_some, Option.some.injEq, DataW.lit.injEq, Lit.int.injEq, true_and] at h1
  rw [h2, List.getD_eq_getElem?_getD, List.getElem?_eq_getElem hl, ← h1]; rfl
end Go.Proofs.YtmkifaddfnodhaaDoor
