/- Hexadecimal read by the reference, walked. -/
import Derived.Test.YtoldmgpnogkjfaaDoorRadixUnUrl
import Derived.Test.YtoldmgpnogkjfaaDoorRadixRefHex
namespace Go.Proofs.YtoldmgpnogkjfaaDoor
open Go.RowKit
set_option maxHeartbeats 1000000 in
theorem refUnHex_any (s : ByteArray) (w : World) (hs : s.size ≤ 16777216) :
    Calls Tryd.prog 14 #[.string s] w fun e w' => e = .returned (RefRes (URadix.rdHexRef (bytesOf s))) ∧ Below w.heap.size w w' := by
  have hm := meant4_any s hexS w (by omega) (by decide)
  rw [hexS_b] at hm
  cases ha : URadix.allIn URadix.hexA (bytesOf s) with
  | false =>
    have HM : Hid (Calls Tryd.prog 30 #[.string s, .int .i64 4, .string ⟨#[48, 49, 50, 51, 52, 53, 54, 55, 56, 57, 97, 98, 99, 100, 101, 102]⟩] w fun e w' => e = .returned (.tuple #[.string { data := #[] }, .bool false]) ∧ Below w.heap.size w w') := by
      rw [meantRes_no ha] at hm
      exact Lib.hid hm
    have HF : Hid (RefRes (URadix.rdHexRef (bytesOf s)) = .tuple #[.string { data := #[] }, .int .i64 2]) := Lib.hid (by
      unfold URadix.rdHexRef; rw [if_neg (fun x => by rw [ha] at x; exact absurd x.1 (by decide))]; rfl)
    clear hm ha
    go_enter Tryd.func14, Tryd.ntmps14
    go_wp2_with (go_at_call 30; (with_reducible refine HM.out.mono ?_); rintro e w1 ⟨rfl, hb1⟩)
    have HU := Lib.hid (refHex_any ⟨#[]⟩ w1 (by decide))
    go_wp2_with (go_at_call 12; (with_reducible refine HU.out.mono ?_); rintro e w2 ⟨rfl, hb2⟩)
    go_ret2
    exact ⟨by rw [HF.out]; rfl, hb1.trans (hb2.mono hb1.size)⟩
  | true =>
    have hsm := URadix.small_numsOf (by omega) URadix.alpha_hex (bytesOf s)
    rw [meantRes_yes ha, octs_unhex hsm] at hm
    have HM : Hid (Calls Tryd.prog 30 #[.string s, .int .i64 4, .string ⟨#[48, 49, 50, 51, 52, 53, 54, 55, 56, 57, 97, 98, 99, 100, 101, 102]⟩] w fun e w' => e = .returned (.tuple #[.string (strOf (URadix.unhex (URadix.numsOf URadix.hexA (bytesOf s)))), .bool true]) ∧ Below w.heap.size w w') := Lib.hid hm
    have hdl : (strOf (URadix.unhex (URadix.numsOf URadix.hexA (bytesOf s)))).size ≤ 16777216 := by
      rw [strOf_size, URadix.unhex_length, URadix.numsOf_length, bytesOf_length]; omega
    have HU : Hid (∀ w1, Calls Tryd.prog 12 #[.string (strOf (URadix.unhex (URadix.numsOf URadix.hexA (bytesOf s))))] w1 fun e w' => e = .returned (.string (strOf (URadix.hx (URadix.unhex (URadix.numsOf URadix.hexA (bytesOf s)))))) ∧ Below w1.heap.size w1 w') := Lib.hid (fun w1 => by
      have h := refHex_any (strOf (URadix.unhex (URadix.numsOf URadix.hexA (bytesOf s)))) w1 hdl
      rw [bytesOf_strOf] at h
      exact h)
    clear hm hdl hsm
    by_cases hc : URadix.hx (URadix.unhex (URadix.numsOf URadix.hexA (bytesOf s))) = bytesOf s
    · have HF : Hid (RefRes (URadix.rdHexRef (bytesOf s)) = .tuple #[.string (strOf (URadix.unhex (URadix.numsOf URadix.hexA (bytesOf s)))), .int .i64 0]) := Lib.hid (by
        unfold URadix.rdHexRef; rw [if_pos ⟨ha, hc⟩]; rfl)
      rw [hc, strOf_bytesOf] at HU
      clear hc ha
      generalize strOf (URadix.unhex (URadix.numsOf URadix.hexA (bytesOf s))) = D at *
      go_enter Tryd.func14, Tryd.ntmps14
      go_wp2_with (first
        | (go_at_call 30; (with_reducible refine HM.out.mono ?_); rintro e w1 ⟨rfl, hb1⟩; have HU1 := Lib.hid (HU.out w1))
        | (go_at_call 12; (with_reducible refine HU1.out.mono ?_); rintro e w2 ⟨rfl, hb2⟩))
      go_ret2
      exact ⟨by rw [HF.out]; rfl, hb1.trans (hb2.mono hb1.size)⟩
    · have HF : Hid (RefRes (URadix.rdHexRef (bytesOf s)) = .tuple #[.string { data := #[] }, .int .i64 2]) := Lib.hid (by
        unfold URadix.rdHexRef; rw [if_neg (fun x => hc x.2)]; rfl)
      have hne := str_ne hc
      clear hc ha
      generalize strOf (URadix.hx (URadix.unhex (URadix.numsOf URadix.hexA (bytesOf s)))) = S at *
      generalize strOf (URadix.unhex (URadix.numsOf URadix.hexA (bytesOf s))) = D at *
      go_enter Tryd.func14, Tryd.ntmps14
      go_wp2_with (first
        | (go_at_call 30; (with_reducible refine HM.out.mono ?_); rintro e w1 ⟨rfl, hb1⟩; have HU1 := Lib.hid (HU.out w1))
        | (go_at_call 12; (with_reducible refine HU1.out.mono ?_); rintro e w2 ⟨rfl, hb2⟩))
      go_ret2
      exact ⟨by rw [HF.out]; rfl, hb1.trans (hb2.mono hb1.size)⟩
end Go.Proofs.YtoldmgpnogkjfaaDoor
