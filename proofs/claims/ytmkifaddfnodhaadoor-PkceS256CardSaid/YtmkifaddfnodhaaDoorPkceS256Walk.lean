/- P10.2, walked. -/
import Derived.Test.YtmkifaddfnodhaaDoorPkceC
import Derived.Lib.SlicesS
namespace Go.Proofs.YtmkifaddfnodhaaDoor
open Go.RowKit
theorem pkceS256_walk (s : ByteArray) (W : World) (hs : s.size ≤ reachBytes) (ht : ShaTabs W) :
    Calls Tryd.prog 4 #[.string s] W fun e w' => e = .returned (.bool true) ∧ Below W.heap.size W w' := by
  unfold reachBytes at hs
  have HP := Lib.hid (s256_prog s W (by omega) ht.p)
  have HR : Hid (∀ w', Below W.heap.size W w' → Calls Tryd.prog 17 #[.string s] w' fun e w2 => e = .returned (.string (chal s)) ∧ Below w'.heap.size w' w2) := Lib.hid fun w' h => s256_ref s w' (by omega) (ht.below h)
  clear ht
  generalize chal s = c at *
  go_enter Tryd.func4, Tryd.ntmps4
  go_wp2_with (first
    | (go_at_call 16; (with_reducible refine HP.out.mono ?_); rintro e w1 ⟨rfl, hb1⟩)
    | (go_at_call 17; (with_reducible refine (HR.out _ hb1).mono ?_); rintro e w2 ⟨rfl, hb2⟩; have b2 := hb1.trans (hb2.mono hb1.size)))
  go_ret
  exact ⟨by simp, b2⟩
end Go.Proofs.YtmkifaddfnodhaaDoor
