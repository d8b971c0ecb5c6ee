/- No bytes have two spellings, walked. -/
import Derived.Test.YtoldmgpnogkjfaaDoorRadixBackWalk
import Derived.Test.YtoldmgpnogkjfaaDoorRadixUnUrlExactWalk
import Derived.Test.YtoldmgpnogkjfaaDoorRadixApartWalk
namespace Go.Proofs.YtoldmgpnogkjfaaDoor
open Go.RowKit
theorem only_ok (p s : ByteArray) (w : World) :
    Calls Tryd.prog 24 #[.string p, .nilIface, .string s, .string s] w fun e w' => e = .returned (.bool true) ∧ Below w.heap.size w w' := by
  go_enter Tryd.func24, Tryd.ntmps24
  go_wp2
  go_ret
  exact ⟨by simp, Below.refl _ _⟩
set_option maxHeartbeats 1000000 in
theorem only_no {E : Nat → Addr} (again s : ByteArray) (w : World) (hE : Errs w E) :
    Calls Tryd.prog 24 #[.string { data := #[] }, .iface 60 (.pointer (some (E 1))), .string again, .string s] w fun e w' => e = .returned (.bool true) ∧ Below w.heap.size w w' := by
  have v1 := hE.v1
  go_enter Tryd.func24, Tryd.ntmps24
  go_wp2
  go_quiet ((go_at_call 15; exact Calls.quiet_of_same ((num_1 (Errs.below hE (below_drewN (Below.refl _ _) _))).mono fun _ _ h => ⟨h.1, h.2.symm⟩)))
  have hb := below_drewN (Below.refl w.heap.size w) nq
  generalize w.drewN nq = wd at *
  clear v1 hE
  go_wp2
  go_ret
  exact ⟨by simp, hb⟩
set_option maxHeartbeats 2000000 in
theorem radixOnly_walk {E : Nat → Addr} (s : ByteArray) (w : World) (hs : s.size ≤ 1048576) (hE : Errs w E) (hT : HexTab w) :
    Calls Tryd.prog 10 #[.string s] w fun e w' => e = .returned (.bool true) ∧ Below w.heap.size w w' := by
  have HE := Lib.hid hE
  have HT := Lib.hid hT
  obtain ⟨T, n, hsp, hTT⟩ := URadix.split_exists (bytesOf s)
  have HB := Lib.hid (radixBack_walk s w _ _ hE.text hT hs)
  have b0 := Below.refl w.heap.size w
  -- base64url
  obtain ⟨p, ep, u, HUn, HUw, HUo⟩ : ∃ (p : ByteArray) (ep : Value) (u : ByteArray), Hid (∀ w', Below w.heap.size w w' → Calls Tryd.prog 16 #[.string s] w' fun e w2 => e = .returned (.tuple #[.string p, ep]) ∧ Below w'.heap.size w' w2) ∧
      Hid (∀ w', Calls Tryd.prog 21 #[.string p] w' fun e w2 => e = .returned (.string u) ∧ Below w'.heap.size w' w2) ∧
      Hid (∀ w', Below w.heap.size w w' → Calls Tryd.prog 24 #[.string p, ep, .string u, .string s] w' fun e w2 => e = .returned (.bool true) ∧ Below w'.heap.size w' w2) := by
    cases hp : URadix.rd URadix.urlA (bytesOf s) with
    | none =>
      exact ⟨{ data := #[] }, .iface 60 (.pointer (some (E 1))), _, Lib.hid (fun w' h => unUrl_no s w' _ _ (HE.out.below h).text (by omega) hp), Lib.hid (fun w' => url_prog { data := #[] } w' (by decide)), Lib.hid (fun w' h => only_no _ s w' (HE.out.below h))⟩
    | some p =>
      have hw := URadix.rd_some URadix.alpha_url hp
      have hl : (strOf p).size ≤ 16777216 := by
        have h := congrArg List.length hw
        rw [URadix.wr_length, bytesOf_length] at h
        rw [strOf_size]; omega
      refine ⟨strOf p, .nilIface, s, Lib.hid (fun w' _ => unUrl_ok s p w' (by omega) hp), Lib.hid (fun w' => ?_), Lib.hid (fun w' _ => only_ok _ s w')⟩
      have h := url_prog (strOf p) w' hl
      rw [bytesOf_strOf, hw, strOf_bytesOf] at h
      exact h
  -- base64
  obtain ⟨q, eq, v, HSn, HSw, HSo⟩ : ∃ (p : ByteArray) (ep : Value) (u : ByteArray), Hid (∀ w', Below w.heap.size w w' → Calls Tryd.prog 18 #[.string s] w' fun e w2 => e = .returned (.tuple #[.string p, ep]) ∧ Below w'.heap.size w' w2) ∧
      Hid (∀ w', Calls Tryd.prog 22 #[.string p] w' fun e w2 => e = .returned (.string u) ∧ Below w'.heap.size w' w2) ∧
      Hid (∀ w', Below w.heap.size w w' → Calls Tryd.prog 24 #[.string p, ep, .string u, .string s] w' fun e w2 => e = .returned (.bool true) ∧ Below w'.heap.size w' w2) := by
    have hu := fun w' h => unStd_any s w' _ _ (Errs.text (E := E) (HE.out.below (w' := w') h)) (by omega) T n hsp hTT
    cases hp : URadix.rdStd T n with
    | none =>
      rw [hp] at hu
      exact ⟨{ data := #[] }, .iface 60 (.pointer (some (E 1))), _, Lib.hid hu, Lib.hid (fun w' => std_prog { data := #[] } w' (by decide)), Lib.hid (fun w' h => only_no _ s w' (HE.out.below h))⟩
    | some p =>
      rw [hp] at hu
      have hw := URadix.rdStd_some hTT hp
      rw [← hsp] at hw
      have hl : (strOf p).size ≤ 16777216 := by
        have h := congrArg List.length hw
        rw [URadix.std_length, bytesOf_length] at h
        rw [strOf_size]; omega
      refine ⟨strOf p, .nilIface, s, Lib.hid hu, Lib.hid (fun w' => ?_), Lib.hid (fun w' _ => only_ok _ s w')⟩
      have h := std_prog (strOf p) w' hl
      rw [bytesOf_strOf, hw, strOf_bytesOf] at h
      exact h
  -- hexadecimal
  obtain ⟨r, er, x, HHn, HHw, HHo⟩ : ∃ (p : ByteArray) (ep : Value) (u : ByteArray), Hid (∀ w', Below w.heap.size w w' → Calls Tryd.prog 13 #[.string s] w' fun e w2 => e = .returned (.tuple #[.string p, ep]) ∧ Below w'.heap.size w' w2) ∧
      Hid (∀ w', Below w.heap.size w w' → Calls Tryd.prog 11 #[.string p] w' fun e w2 => e = .returned (.string u) ∧ Below w'.heap.size w' w2) ∧
      Hid (∀ w', Below w.heap.size w w' → Calls Tryd.prog 24 #[.string p, ep, .string u, .string s] w' fun e w2 => e = .returned (.bool true) ∧ Below w'.heap.size w' w2) := by
    have hu := fun w' h => unHex_any s w' _ _ (Errs.text (E := E) (HE.out.below (w' := w') h)) (HT.out.below h) (by omega)
    cases hp : URadix.rdHex (bytesOf s) with
    | none =>
      rw [hp] at hu
      exact ⟨{ data := #[] }, .iface 60 (.pointer (some (E 1))), _, Lib.hid hu, Lib.hid (fun w' h => hex_prog { data := #[] } w' (by decide) (HT.out.below h)), Lib.hid (fun w' h => only_no _ s w' (HE.out.below h))⟩
    | some p =>
      rw [hp] at hu
      have hw := URadix.rdHex_some hp
      have hl : (strOf p).size ≤ 16777216 := by
        have h := congrArg List.length hw
        rw [URadix.hx_length, bytesOf_length] at h
        rw [strOf_size]; omega
      refine ⟨strOf p, .nilIface, s, Lib.hid hu, Lib.hid (fun w' h => ?_), Lib.hid (fun w' _ => only_ok _ s w')⟩
      have h := hex_prog (strOf p) w' (by omega) (HT.out.below h)
      rw [bytesOf_strOf, hw, strOf_bytesOf] at h
      exact h
  clear hE hT hsp hTT
  go_enter Tryd.func10, Tryd.ntmps10
  go_wp2_with (first
    | (go_at_call 9; (with_reducible refine HB.out.mono ?_); rintro e w1 ⟨rfl, hb1⟩; have b1 := b0.trans (hb1.mono b0.size))
    | (go_at_call 16; (with_reducible refine (HUn.out _ b1).mono ?_); rintro e w2 ⟨rfl, hb2⟩; have b2 := b1.trans (hb2.mono b1.size))
    | (go_at_call 21; (with_reducible refine (HUw.out _).mono ?_); rintro e w3 ⟨rfl, hb3⟩; have b3 := b2.trans (hb3.mono b2.size))
    | (go_at_call 18; (with_reducible refine (HSn.out _ b3).mono ?_); rintro e w4 ⟨rfl, hb4⟩; have b4 := b3.trans (hb4.mono b3.size))
    | (go_at_call 22; (with_reducible refine (HSw.out _).mono ?_); rintro e w5 ⟨rfl, hb5⟩; have b5 := b4.trans (hb5.mono b4.size))
    | (go_at_call 13; (with_reducible refine (HHn.out _ b5).mono ?_); rintro e w6 ⟨rfl, hb6⟩; have b6 := b5.trans (hb6.mono b5.size))
    | (go_at_call 11; (with_reducible refine (HHw.out _ b6).mono ?_); rintro e w7 ⟨rfl, hb7⟩; have b7 := b6.trans (hb7.mono b6.size))
    | (go_at_call 24; (with_reducible refine (HUo.out _ b7).mono ?_); rintro e w8 ⟨rfl, hb8⟩; have b8 := b7.trans (hb8.mono b7.size))
    | (go_at_call 24; (with_reducible refine (HSo.out _ b8).mono ?_); rintro e w9 ⟨rfl, hb9⟩; have b9 := b8.trans (hb9.mono b8.size))
    | (go_at_call 24; (with_reducible refine (HHo.out _ b9).mono ?_); rintro e wx ⟨rfl, hbx⟩; have bx := b9.trans (hbx.mono b9.size)))
  go_ret
  exact ⟨rfl, bx⟩
end Go.Proofs.YtoldmgpnogkjfaaDoor
