/- The digest of a text by the program: NewHash, Add, Sum, one behind the other. -/
import Derived.Test.YtmkifaddfnodhaaDoorHashSum
namespace Go.Proofs.YtmkifaddfnodhaaDoor
open Go.RowKit
set_option maxHeartbeats 1000000 in
theorem sha_prog (s : ByteArray) (w : World) (hs : s.size ≤ 281474976710656) (hf : U32Tab w 9 USha.first) (hr : U32Tab w 18 USha.round) (hg : 18 < w.heap.size) :
    Calls Tryd.prog 11 #[.string s] w fun e w' => e = .returned (.string (strOf (USha.sha (bytesOf s)))) ∧ Below w.heap.size w w' := by
  have hs2 := hs
  clear hs
  have HF := Lib.hid (newHash_any w hf)
  have HR := Lib.hid hr
  clear hf hr
  go_enter Tryd.func11, Tryd.ntmps11
  go_wp2_with (go_at_call 28; (with_reducible refine HF.out.mono ?_); rintro e w1 ⟨rfl, hB1, hb1⟩)
  have HA := Lib.hid (add_any w.heap.size USha.init (List.replicate 64 0#8) 0 [] s w1 hB1 USha.holds_new (by unfold maxLen; omega) (by simp; omega) (HR.out.below hb1) (by omega))
  clear hB1
  go_wp2_with (go_at_call 29; (with_reducible refine HA.out.mono ?_); rintro e w2 ⟨rfl, ha2, v2, r2, n2, hB2, hH2⟩)
  have hb2 : Below w.heap.size w w2 := hb1.trans (ha2.below hb1.size (Nat.le_refl _))
  rw [List.nil_append] at hH2
  rw [show (([] : List (BitVec 8)).length + s.size) = (bytesOf s).length by rw [bytesOf_length]; simp] at hB2
  have HS := Lib.hid (sum_any w.heap.size v2 r2 n2 (bytesOf s) w2 hB2 hH2 (by rw [bytesOf_length]; omega) (HR.out.below hb2))
  clear hB2 hH2
  go_wp2_with (go_at_call 30; (with_reducible refine HS.out.mono ?_); rintro e w3 ⟨rfl, hb3⟩)
  go_ret
  exact ⟨rfl, hb2.trans (hb3.mono hb2.size)⟩
end Go.Proofs.YtmkifaddfnodhaaDoor
