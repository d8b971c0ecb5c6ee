/- What a row that lists the table of bytes gives a walk. -/
import Derived.Test.YtmmniapkajbdhaaDoorCards
import Derived.Test.YtmmniapkajbdhaaDoorVerify
import Derived.Lib.LaidTab
namespace Go.Proofs.YtmmniapkajbdhaaDoor
theorem pkceTab {W : World} (h : laidMetH Tryd.prog Rows.pkceGrammarRow.laid W) : PkceTab W := by
  have gTab : Tryd.prog.globalNamed "usher/pkce.unreserved" = some 19 := by kernel_rfl
  have gTabType : (Tryd.prog.globals[19]?).map (·.type) = some 57 := by kernel_rfl
  have cellsA : Tryd.prog.cellsOf 57 = 8 := by kernel_rfl
  have cellsE : Tryd.prog.cellsOf 56 = 1 := by kernel_rfl
  have t : Lib.TabIs Tryd.prog W "usher/pkce.unreserved" .u32 (UPkce.tab.toList.map fun x => (x.toNat : Int)) :=
    Lib.tabIs_of_head (rest := []) gTab gTabType Tryd.underlying57 Tryd.underlying56 cellsE cellsA h
  intro i hi
  have c := t.cell gTab i (by simpa [UPkce.tab] using hi)
  rw [c]
  rw [show UPkce.tab[i]! = UPkce.tab.toList[i]'(by simpa [UPkce.tab] using hi) from by simp [hi, UPkce.tab]]
  rw [List.getD_eq_getElem?_getD, List.getElem?_map, List.getElem?_eq_getElem (by simpa [UPkce.tab] using hi)]
  rfl
end Go.Proofs.YtmmniapkajbdhaaDoor
