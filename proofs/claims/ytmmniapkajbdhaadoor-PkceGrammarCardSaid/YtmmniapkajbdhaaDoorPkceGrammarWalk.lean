/- P10.1, walked. -/
import Derived.Test.YtmmniapkajbdhaaDoorVerify
namespace Go.Proofs.YtmmniapkajbdhaaDoor
open Go.RowKit
theorem challenge_any (s : ByteArray) (w : World) (hs : s.size ≤ maxLen) (ht : PkceTab w) :
    Calls Tryd.prog 10 #[.string s] w fun e w' => e = .returned (.bool (verifies s)) ∧ Below w.heap.size w w' := by
  have HT := Lib.hid ht
  clear ht
  go_enter Tryd.func10, Tryd.ntmps10
  go_wp2_with (go_at_call 9; (with_reducible refine (verifier_any s _ hs HT.out).mono ?_); rintro e w' ⟨rfl, hb⟩)
  go_ret
  exact ⟨rfl, hb⟩
theorem PkceTab.below {w w' : World} (h : PkceTab w) (hb : Below w.heap.size w w') : PkceTab w' := fun i hi => cell_below (h i hi) hb
theorem pkceGrammar_walk (s : ByteArray) (W : World) (hs : s.size ≤ maxLen) (ht : PkceTab W) :
    Calls Tryd.prog 4 #[.string s] W fun e w' => e = .returned (.bool true) ∧ Below W.heap.size W w' := by
  have HT := Lib.hid ht
  clear ht
  go_enter Tryd.func4, Tryd.ntmps4
  go_wp2_with (first
    | (go_at_call 8; (with_reducible refine (ref_verifier s _ hs).mono ?_); rintro e w' ⟨rfl, rfl⟩)
    | (go_at_call 9; (with_reducible refine (verifier_any s _ hs HT.out).mono ?_); rintro e w1 ⟨rfl, hb1⟩; have HT1 := Lib.hid (HT.out.below hb1))
    | (go_at_call 10; (with_reducible refine (challenge_any s _ hs HT1.out).mono ?_); rintro e w2 ⟨rfl, hb2⟩))
  go_ret
  exact ⟨by simp, hb1.trans (hb2.mono hb1.size)⟩
end Go.Proofs.YtmmniapkajbdhaaDoor
