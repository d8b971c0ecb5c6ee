/- P2.2, walked. -/
import Derived.Test.YtoldmgpnogkjfaaDoorRadixUnUrl
import Derived.Test.YtoldmgpnogkjfaaDoorErrs
namespace Go.Proofs.YtoldmgpnogkjfaaDoor
open Go.RowKit
theorem Errs.text {w : World} {E : Nat → Addr} (h : Errs w E) : ErrText w 60 (E 1) := h.v1
theorem radixUnUrlExact_walk {E : Nat → Addr} (s : ByteArray) (w : World) (hs : s.size ≤ 1048576) (hE : Errs w E) :
    Calls Tryd.prog 5 #[.string s] w fun e w' => e = .returned (.bool true) ∧ Below w.heap.size w w' := by
  have HE := Lib.hid hE
  have hr := refUnUrl_any s
  have hq := URadix.rd_ref URadix.alpha_url (bytesOf s)
  have HS : Hid (s.size ≤ 16777216) := Lib.hid (by omega)
  cases hp : URadix.rd URadix.urlA (bytesOf s) with
  | none =>
    have HP := Lib.hid (unUrl_no s w _ _ hE.text (by omega) hp)
    rw [hp] at hq
    have HR : Hid (∀ w1, Calls Tryd.prog 17 #[.string s] w1 fun e w' => e = .returned (.tuple #[.string { data := #[] }, .int .i64 2]) ∧ Below w1.heap.size w1 w') := Lib.hid (fun w1 => by
      have h := hr w1 HS.out
      rw [← hq] at h
      exact h)
    clear hr hq hp hE
    go_enter Tryd.func5, Tryd.ntmps5
    go_wp2_with (first
      | (go_at_call 16; (with_reducible refine HP.out.mono ?_); rintro e w1 ⟨rfl, hb1⟩; have HR1 := Lib.hid (HR.out w1))
      | (go_at_call 17; (with_reducible refine HR1.out.mono ?_); rintro e w2 ⟨rfl, hb2⟩; have hb2' := hb1.trans (hb2.mono hb1.size); have HN := Lib.hid (num_1 (HE.out.below hb2')))
      | (go_at_call 15; (with_reducible refine HN.out.mono ?_); rintro e w3 ⟨rfl, rfl⟩))
    go_ret
    exact ⟨rfl, hb2'⟩
  | some p =>
    have HP := Lib.hid (unUrl_ok s p w (by omega) hp)
    rw [hp] at hq
    have HR : Hid (∀ w1, Calls Tryd.prog 17 #[.string s] w1 fun e w' => e = .returned (.tuple #[.string (strOf p), .int .i64 0]) ∧ Below w1.heap.size w1 w') := Lib.hid (fun w1 => by
      have h := hr w1 HS.out
      rw [← hq] at h
      exact h)
    clear hr hq hp hE
    generalize strOf p = D at *
    go_enter Tryd.func5, Tryd.ntmps5
    go_wp2_with (first
      | (go_at_call 16; (with_reducible refine HP.out.mono ?_); rintro e w1 ⟨rfl, hb1⟩; have HR1 := Lib.hid (HR.out w1))
      | (go_at_call 17; (with_reducible refine HR1.out.mono ?_); rintro e w2 ⟨rfl, hb2⟩; have hb2' := hb1.trans (hb2.mono hb1.size); have HN := Lib.hid (num_nil w2))
      | (go_at_call 15; (with_reducible refine HN.out.mono ?_); rintro e w3 ⟨rfl, rfl⟩))
    go_ret
    exact ⟨rfl, hb2'⟩
end Go.Proofs.YtoldmgpnogkjfaaDoor
