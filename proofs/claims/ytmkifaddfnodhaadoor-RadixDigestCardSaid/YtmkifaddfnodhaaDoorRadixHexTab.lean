/- The digits' table. -/
import Derived.Test.YtmkifaddfnodhaaDoorRadixFindP
namespace Go.Proofs.YtmkifaddfnodhaaDoor
open Go.RowKit
/-- The digits' cells. -/
def HexTab (w : World) : Prop := ∀ i, i < 16 → w.cell? ⟨1, i, none⟩ = some (.int .u8 ((URadix.hexA.getD i 0#8).toNat : Int))
theorem HexTab.below {w w' : World} (h : HexTab w) (hb : Below w.heap.size w w') : HexTab w' := fun i hi => cell_below (h i hi) hb
end Go.Proofs.YtmkifaddfnodhaaDoor
