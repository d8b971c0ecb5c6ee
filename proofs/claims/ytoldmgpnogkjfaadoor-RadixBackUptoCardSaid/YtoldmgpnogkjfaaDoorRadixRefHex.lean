/- The reference's hexadecimal, walked. -/
import Derived.Test.YtoldmgpnogkjfaaDoorRadixRefW
namespace Go.Proofs.YtoldmgpnogkjfaaDoor
open Go.RowKit
theorem refHex_any (s : ByteArray) (w : World) (hs : s.size ≤ 16777216) :
    Calls Tryd.prog 12 #[.string s] w fun e w' => e = .returned (.string (strOf (URadix.hx (bytesOf s)))) ∧ Below w.heap.size w w' := by
  have HB := Lib.hid (bits_any s w hs)
  have hs2 := hs
  have HS := Lib.hid hs
  go_enter Tryd.func12, Tryd.ntmps12
  go_wp2_with (go_at_call 27; (with_reducible refine HB.out.mono ?_); rintro e w1 ⟨v, rfl, hown, hb1⟩)
  have HL : Hid (Calls Tryd.prog 28 #[v, .int .i64 4, .string ⟨#[48, 49, 50, 51, 52, 53, 54, 55, 56, 57, 97, 98, 99, 100, 101, 102]⟩] w1 fun e w' => e = .returned (.string (strOf (URadix.hx (bytesOf s)))) ∧ Below w1.heap.size w1 w') := by
    have h := letters_any v (URadix.bitsOf 8 (URadix.nums (bytesOf s))) 4 hexS w1 (IntRow.own hown) (by omega) (by omega) (bits_len s hs2) (bits_le s) rfl
    rw [grps_hex, hexS_b] at h
    exact Lib.hid h
  clear hown
  generalize hS : strOf (URadix.hx (bytesOf s)) = S at *
  have HSS := Lib.hid hS
  clear hS
  go_wp2_with (go_at_call 28; (with_reducible refine HL.out.mono ?_); rintro e w2 ⟨rfl, hb2⟩)
  go_ret
  exact ⟨by rw [HSS.out]; rfl, hb1.trans (hb2.mono hb1.size)⟩
end Go.Proofs.YtoldmgpnogkjfaaDoor
