/- P2.5, walked. -/
import Derived.Test.YtoldmgpnogkjfaaDoorRadixRefW
import Derived.Test.YtoldmgpnogkjfaaDoorRadixHex
namespace Go.Proofs.YtoldmgpnogkjfaaDoor
open Go.RowKit
theorem radixHexExact_walk (s : ByteArray) (w : World) (hs : s.size ≤ 1048576) (ht : HexTab w) :
    Calls Tryd.prog 3 #[.string s] w fun e w' => e = .returned (.bool true) ∧ Below w.heap.size w w' := by
  have HP := Lib.hid (hex_prog s w (by omega) ht)
  have HS := Lib.hid (show s.size ≤ 16777216 by omega)
  clear ht
  go_enter Tryd.func3, Tryd.ntmps3
  go_wp2_with (go_at_call 11; (with_reducible refine HP.out.mono ?_); rintro e w1 ⟨rfl, hb1⟩)
  have HR := Lib.hid (refHex_any s w1 HS.out)
  generalize strOf (URadix.hx (bytesOf s)) = d at *
  go_wp2_with (go_at_call 12; (with_reducible refine HR.out.mono ?_); rintro e w2 ⟨rfl, hb2⟩)
  go_ret
  exact ⟨by simp, hb1.trans (hb2.mono hb1.size)⟩
end Go.Proofs.YtoldmgpnogkjfaaDoor
