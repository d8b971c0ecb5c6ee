/- RadixUnStdExact, walked. -/
import Derived.Test.YtoldmgpnogkjfaaDoorRadixUnStd
import Derived.Test.YtoldmgpnogkjfaaDoorRadixUnUrlExactWalk
namespace Go.Proofs.YtoldmgpnogkjfaaDoor
open Go.RowKit
theorem radixUnStdExact_walk {E : Nat → Addr} (s : ByteArray) (w : World) (hs : s.size ≤ 1048576) (hE : Errs w E) :
    Calls Tryd.prog 6 #[.string s] w fun e w' => e = .returned (.bool true) ∧ Below w.heap.size w w' := by
  have HE := Lib.hid hE
  obtain ⟨T, n, hsp, hT⟩ := URadix.split_exists (bytesOf s)
  have hp := unStd_any s w _ _ hE.text (by omega) T n hsp hT
  have hr := fun w1 => refUnStd_any s w1 (by omega) T n hsp hT
  have hq := URadix.rdStd_ref hT n
  cases hc : URadix.rdStd T n with
  | none =>
    rw [hc] at hp
    rw [← hq, hc] at hr
    have HP : Hid (Calls Tryd.prog 18 #[.string s] w fun e w' => e = .returned (.tuple #[.string { data := #[] }, .iface 60 (.pointer (some (E 1)))]) ∧ Below w.heap.size w w') := Lib.hid hp
    have HR : Hid (∀ w1, Calls Tryd.prog 19 #[.string s] w1 fun e w' => e = .returned (.tuple #[.string { data := #[] }, .int .i64 2]) ∧ Below w1.heap.size w1 w') := Lib.hid hr
    clear hr hq hp hE hc
    go_enter Tryd.func6, Tryd.ntmps6
    go_wp2_with (first
      | (go_at_call 18; (with_reducible refine HP.out.mono ?_); rintro e w1 ⟨rfl, hb1⟩; have HR1 := Lib.hid (HR.out w1))
      | (go_at_call 19; (with_reducible refine HR1.out.mono ?_); rintro e w2 ⟨rfl, hb2⟩; have hb2' := hb1.trans (hb2.mono hb1.size); have HN := Lib.hid (num_1 (HE.out.below hb2')))
      | (go_at_call 15; (with_reducible refine HN.out.mono ?_); rintro e w3 ⟨rfl, rfl⟩))
    go_ret
    exact ⟨rfl, hb2'⟩
  | some p =>
    rw [hc] at hp
    rw [← hq, hc] at hr
    have HP : Hid (Calls Tryd.prog 18 #[.string s] w fun e w' => e = .returned (.tuple #[.string (strOf p), .nilIface]) ∧ Below w.heap.size w w') := Lib.hid hp
    have HR : Hid (∀ w1, Calls Tryd.prog 19 #[.string s] w1 fun e w' => e = .returned (.tuple #[.string (strOf p), .int .i64 0]) ∧ Below w1.heap.size w1 w') := Lib.hid hr
    clear hr hq hp hE hc
    generalize strOf p = D at *
    go_enter Tryd.func6, Tryd.ntmps6
    go_wp2_with (first
      | (go_at_call 18; (with_reducible refine HP.out.mono ?_); rintro e w1 ⟨rfl, hb1⟩; have HR1 := Lib.hid (HR.out w1))
      | (go_at_call 19; (with_reducible refine HR1.out.mono ?_); rintro e w2 ⟨rfl, hb2⟩; have hb2' := hb1.trans (hb2.mono hb1.size); have HN := Lib.hid (num_nil w2))
      | (go_at_call 15; (with_reducible refine HN.out.mono ?_); rintro e w3 ⟨rfl, rfl⟩))
    go_ret
    exact ⟨rfl, hb2'⟩
end Go.Proofs.YtoldmgpnogkjfaaDoor
