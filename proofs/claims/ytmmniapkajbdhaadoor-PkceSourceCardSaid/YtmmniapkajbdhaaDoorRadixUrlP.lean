/- The program's base64url, walked. -/
import Derived.Test.YtmmniapkajbdhaaDoorRadixWrite
import Derived.Test.YtmmniapkajbdhaaDoorRadixRefWP
namespace Go.Proofs.YtmmniapkajbdhaaDoor
open Go.RowKit
theorem url_prog (p : ByteArray) (w : World) (hp : p.size ≤ 16777216) :
    Calls Tryd.prog 27 #[.string p] w fun e w' => e = .returned (.string (strOf (URadix.wr URadix.urlA (bytesOf p)))) ∧ Below w.heap.size w w' := by
  have HW : Hid (Calls Tryd.prog 32 #[.string ⟨#[65, 66, 67, 68, 69, 70, 71, 72, 73, 74, 75, 76, 77, 78, 79, 80, 81, 82, 83, 84, 85, 86, 87, 88, 89, 90, 97, 98, 99, 100, 101, 102, 103, 104, 105, 106, 107, 108, 109, 110, 111, 112, 113, 114, 115, 116, 117, 118, 119, 120, 121, 122, 48, 49, 50, 51, 52, 53, 54, 55, 56, 57, 45, 95]⟩, .string p] w fun e w' => e = .returned (.string (strOf (URadix.wr URadix.urlA (bytesOf p)))) ∧ Below w.heap.size w w') := by
    have h := write_any urlS p w rfl hp
    rw [urlS_b] at h
    exact Lib.hid h
  generalize hS : strOf (URadix.wr URadix.urlA (bytesOf p)) = S at *
  have HS := Lib.hid hS
  clear hS
  go_enter Tryd.func27, Tryd.ntmps27
  go_wp2_with (go_at_call 32; (with_reducible refine HW.out.mono ?_); rintro e w1 ⟨rfl, hb1⟩)
  go_ret
  exact ⟨by first | rfl | (rw [HS.out]; rfl), hb1⟩
end Go.Proofs.YtmmniapkajbdhaaDoor
