/- The stretched passwords of 'password' and 'passwore', told apart. -/
import Derived.Test.YtmkifaddfnodhaaDoorStretchPure
import Derived.Test.YtmkifaddfnodhaaDoorHashMac
namespace Go.Proofs.YtmkifaddfnodhaaDoor
open Go.RowKit
theorem mac_d : (USha.hmac [112#8, 97#8, 115#8, 115#8, 119#8, 111#8, 114#8, 100#8] [115#8, 97#8, 108#8, 116#8, 0#8, 0#8, 0#8, 1#8]).getD 0 0#8 = 0x12#8 := by decide +kernel
theorem mac_e : (USha.hmac [112#8, 97#8, 115#8, 115#8, 119#8, 111#8, 114#8, 101#8] [115#8, 97#8, 108#8, 116#8, 0#8, 0#8, 0#8, 1#8]).getD 0 0#8 = 0x4d#8 := by decide +kernel
theorem pass_d : bytesOf { data := #[112, 97, 115, 115, 119, 111, 114, 100] } = [112#8, 97#8, 115#8, 115#8, 119#8, 111#8, 114#8, 100#8] := by decide +kernel
theorem pass_e : bytesOf { data := #[112, 97, 115, 115, 119, 111, 114, 101] } = [112#8, 97#8, 115#8, 115#8, 119#8, 111#8, 114#8, 101#8] := by decide +kernel
theorem salt_b : bytesOf { data := #[115, 97, 108, 116] } ++ [0#8, 0#8, 0#8, 1#8] = [115#8, 97#8, 108#8, 116#8, 0#8, 0#8, 0#8, 1#8] := by decide +kernel
theorem two_pass : USha.stT (bytesOf { data := #[112, 97, 115, 115, 119, 111, 114, 101] }) (bytesOf { data := #[115, 97, 108, 116] }) 0 ≠ USha.stT (bytesOf { data := #[112, 97, 115, 115, 119, 111, 114, 100] }) (bytesOf { data := #[115, 97, 108, 116] }) 0 := by
  have e : ∀ p s : List (BitVec 8), USha.stT p s 0 = USha.hmac p (s ++ [0#8, 0#8, 0#8, 1#8]) := fun _ _ => rfl
  rw [e, e, pass_d, pass_e, salt_b]
  intro h
  have h2 := congrArg (fun l => l.getD 0 0#8) h
  simp only [mac_d, mac_e] at h2
  exact absurd h2 (by decide)
end Go.Proofs.YtmkifaddfnodhaaDoor
