/- The table of the bytes that a verifier may hold, a bit each. -/
import Derived.WalkKit
namespace Go.Proofs.YtmkifaddfnodhaaDoor.UPkce
def tab : Array (BitVec 32) := #[0x00000000#32, 0x03ff6000#32, 0x87fffffe#32, 0x47fffffe#32, 0#32, 0#32, 0#32, 0#32]
theorem bit_of : ∀ c : Fin 256, ((tab[c.val / 32]! >>> (c.val % 32)) &&& 1#32) = if decide ((65 ≤ c.val ∧ c.val ≤ 90) ∨ (97 ≤ c.val ∧ c.val ≤ 122) ∨ (48 ≤ c.val ∧ c.val ≤ 57) ∨ c.val = 45 ∨ c.val = 46 ∨ c.val = 95 ∨ c.val = 126) then 1#32 else 0#32 := by decide +kernel
end Go.Proofs.YtmkifaddfnodhaaDoor.UPkce
