/- P1.2, walked. -/
import Derived.Test.YtkhfelfdgpfjkaaDoorCrcWalk
import Derived.Test.YtkhfelfdgpfjkaaDoorLawPost
namespace Go.Proofs.YtkhfelfdgpfjkaaDoor
open Go.RowKit
theorem CrcTab.below {w w' : World} (h : CrcTab w) (hb : Below w.heap.size w w') : CrcTab w' := fun i hi => cell_below (h i hi) hb
theorem bytesOf_append (a b : ByteArray) : bytesOf (a ++ b) = bytesOf a ++ bytesOf b := by
  simp [bytesOf, ByteArray.data_append]
theorem crc_more_zero (s : ByteArray) (w : World) (hs : s.size ≤ maxLen) (ht : CrcTab w) :
    Calls Tryd.prog 16 #[.int .u32 0, .string s] w fun e w' => e = .returned (.int .u32 (UCrc.more 0#32 (bytesOf s)).toNat) ∧ w = w' := crc_more 0#32 s w hs ht
set_option maxHeartbeats 400000 in
theorem sumsMore_walk (c : BitVec 32) (a b : ByteArray) (W : World) (ha : a.size ≤ reachBytes) (hb : b.size ≤ reachBytes) (ht : CrcTab W) :
    Calls Tryd.prog 4 #[.agg #[.int .u32 c.toNat, .string a, .string b]] W fun e w' => e = .returned (.bool true) ∧ Below W.heap.size W w' := by
  have HT : Hid (CrcTab (W.alloc (.cells #[.int .u32 c.toNat, .string a, .string b] 26))) := ht.below ((Below.refl _ _).alloc (Nat.le_refl _) _)
  clear ht
  unfold reachBytes at ha hb
  have la : a.size ≤ maxLen := by unfold maxLen; omega
  have lb : b.size ≤ maxLen := by unfold maxLen; omega
  have hsum : a.size + b.size ≤ 9223372036854775807 := by omega
  have lab : (a ++ b).size ≤ maxLen := by unfold maxLen; rw [ByteArray.size_append]; omega
  have H1 := Lib.hid (UCrc.more_more c (bytesOf a) (bytesOf b))
  have H2 := Lib.hid (bytesOf_append a b)
  go_enter Tryd.func4, Tryd.ntmps4
  go_wp2_with (first
    | (go_at_call 16; (with_reducible refine (crc_more_zero a _ la HT.out).mono ?_); rintro e w' ⟨rfl, rfl⟩)
    | (go_at_call 16; (with_reducible refine (crc_more c a _ la HT.out).mono ?_); rintro e w' ⟨rfl, rfl⟩)
    | (go_at_call 16; (with_reducible refine (crc_more (UCrc.more c (bytesOf a)) b _ lb HT.out).mono ?_); rintro e w' ⟨rfl, rfl⟩; rw [H1.out])
    | (go_at_call 16; (with_reducible refine (crc_more c (a ++ b) _ lab HT.out).mono ?_); rintro e w' ⟨rfl, rfl⟩; rw [H2.out])
    | (go_at_call 17; (with_reducible refine (ref_more c a _ la).mono ?_); rintro e w' ⟨rfl, rfl⟩)
    | (go_at_call 14; (with_reducible refine (crc_any a _ la HT.out).mono ?_); rintro e w' ⟨rfl, rfl⟩))
  go_ret
  exact ⟨by simp, (Below.refl _ _).alloc (Nat.le_refl _) _⟩
end Go.Proofs.YtkhfelfdgpfjkaaDoor
