/- What a row that lists the table of the check sum gives a walk. -/
import Derived.Test.YtkhfelfdgpfjkaaDoorCards
import Derived.Test.YtkhfelfdgpfjkaaDoorCrcWalk
import Derived.Lib.LaidTab
namespace Go.Proofs.YtkhfelfdgpfjkaaDoor
theorem crcTab {W : World} (h : laidMetH Tryd.prog Rows.sumsCrcRow.laid W) : CrcTab W := by
  have gTab : Tryd.prog.globalNamed "usher/sums.crcRows" = some 0 := by kernel_rfl
  have gTabType : (Tryd.prog.globals[0]?).map (·.type) = some 66 := by kernel_rfl
  have cellsA : Tryd.prog.cellsOf 66 = 16 := by kernel_rfl
  have cellsE : Tryd.prog.cellsOf 22 = 1 := by kernel_rfl
  have t : Lib.TabIs Tryd.prog W "usher/sums.crcRows" .u32 (UCrc.rows.toList.map fun x => (x.toNat : Int)) :=
    Lib.tabIs_of_head (rest := []) gTab gTabType Tryd.underlying66 Tryd.underlying22 cellsE cellsA h
  intro i hi
  have c := t.cell gTab i (by simpa [UCrc.rows] using hi)
  rw [c]
  rw [show UCrc.rows[i]! = UCrc.rows.toList[i]'(by simpa [UCrc.rows] using hi) from by simp [hi, UCrc.rows]]
  rw [List.getD_eq_getElem?_getD, List.getElem?_map, List.getElem?_eq_getElem (by simpa [UCrc.rows] using hi)]
  rfl
end Go.Proofs.YtkhfelfdgpfjkaaDoor
