/- P1.3, walked. -/
import Derived.Test.YtkhfelfdgpfjkaaDoorShaRef
import Derived.Test.YtkhfelfdgpfjkaaDoorShaTabs
namespace Go.Proofs.YtkhfelfdgpfjkaaDoor
open Go.RowKit
theorem sumsSha_walk (s : ByteArray) (w : World) (hs : s.size ≤ reachBytes) (ht : ShaTabs w) :
    Calls Tryd.prog 8 #[.string s] w fun e w' => e = .returned (.bool true) ∧ Below w.heap.size w w' := by
  have HP := Lib.hid (sha_prog s w hs ht.pf ht.pr ht.lt)
  have HT := Lib.hid ht
  have HS := Lib.hid hs
  clear ht hs
  go_enter Tryd.func8, Tryd.ntmps8
  go_wp2_with (go_at_call 23; (with_reducible refine HP.out.mono ?_); rintro e w1 ⟨rfl, hb1⟩)
  have HR := Lib.hid (sha_ref s w1 HS.out (HT.out.below hb1).rf (HT.out.below hb1).rr)
  generalize strOf (USha.sha (bytesOf s)) = d at *
  go_wp2_with (go_at_call 24; (with_reducible refine HR.out.mono ?_); rintro e w2 ⟨rfl, hb2⟩)
  go_ret
  exact ⟨by simp, hb1.trans (hb2.mono hb1.size)⟩
end Go.Proofs.YtkhfelfdgpfjkaaDoor
