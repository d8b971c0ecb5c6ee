/- RadixStdExact, walked. -/
import Derived.Test.YtoldmgpnogkjfaaRadixUrl
namespace Go.Proofs.Ytoldmgpnogkjfaa
open Go.RowKit
theorem radixStdExact_walk (s : ByteArray) (w : World) (hs : s.size ≤ 1048576) :
    Calls Try.prog 4 #[.string s] w fun e w' => e = .returned (.bool true) ∧ Below w.heap.size w w' := by
  have HP : Hid (∀ w, Calls Try.prog 7 #[.string s] w fun e w' => e = .returned (.string (strOf (URadix.std (bytesOf s)))) ∧ Below w.heap.size w w') := Lib.hid (fun w => std_prog s w (by omega))
  have HR : Hid (∀ w, Calls Try.prog 8 #[.string s] w fun e w' => e = .returned (.string (strOf (URadix.std (bytesOf s)))) ∧ Below w.heap.size w w') := Lib.hid (fun w => refStd_any s w (by omega))
  generalize strOf (URadix.std (bytesOf s)) = d at *
  go_enter Try.func4, Try.ntmps4
  go_wp2_with (first
    | (go_at_call 7; (with_reducible refine (HP.out _).mono ?_); rintro e w1 ⟨rfl, hb1⟩)
    | (go_at_call 8; (with_reducible refine (HR.out _).mono ?_); rintro e w2 ⟨rfl, hb2⟩))
  go_ret
  exact ⟨by simp, hb1.trans (hb2.mono hb1.size)⟩
end Go.Proofs.Ytoldmgpnogkjfaa
