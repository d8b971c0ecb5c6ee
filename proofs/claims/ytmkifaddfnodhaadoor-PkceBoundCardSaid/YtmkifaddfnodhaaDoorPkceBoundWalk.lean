/- P10.2 by the layers below, walked. -/
import Derived.Test.YtmkifaddfnodhaaDoorPkceMatches
import Derived.Test.YtmkifaddfnodhaaDoorRadixUnUrlP
namespace Go.Proofs.YtmkifaddfnodhaaDoor
open Go.RowKit
set_option maxHeartbeats 1000000 in
theorem pkceBound_walk (s : ByteArray) (W : World) (hs : s.size ≤ reachBytes) (ht : PTabs W) (hp : PkceTab W) :
    Calls Tryd.prog 10 #[.string s] W fun e w' => e = .returned (.bool true) ∧ Below W.heap.size W w' := by
  unfold reachBytes at hs
  have HT := Lib.hid ht
  have HPT := Lib.hid hp
  clear ht hp
  have HS := Lib.hid (s256_prog s W (by omega) HT.out)
  have HD : Hid (∀ w', Below W.heap.size W w' → Calls Tryd.prog 11 #[.string s] w' fun e w2 => e = .returned (.string (strOf (USha.sha (bytesOf s)))) ∧ Below w'.heap.size w' w2) := Lib.hid fun w' h => sha_prog s w' (by omega) (HT.out.below h).pf (HT.out.below h).pr (HT.out.below h).lt
  have HU : Hid (∀ w', Calls Tryd.prog 14 #[.string (chal s)] w' fun e w2 => e = .returned (.tuple #[.string (strOf (USha.sha (bytesOf s))), .nilIface]) ∧ Below w'.heap.size w' w2) := Lib.hid fun w' => unUrl_ok (chal s) _ w' (by rw [chal_size]; omega) (by rw [chal_bytes]; exact URadix.rd_wr URadix.alpha_url _)
  have HC : Hid (∀ w', Below W.heap.size W w' → Calls Tryd.prog 27 #[.string (chal s)] w' fun e w2 => e = .returned (.bool true) ∧ Below w'.heap.size w' w2) := Lib.hid fun w' h => by
    have hc := challenge_c (chal s) w' (by rw [chal_size]; unfold maxLen; omega) (HPT.out.below' h)
    rw [chal_verifies] at hc
    exact hc
  have HL : Hid (∀ w', Calls Tryd.prog 12 #[.string (strOf (USha.sha (bytesOf s)))] w' fun e w2 => e = .returned (.string (chal s)) ∧ Below w'.heap.size w' w2) := Lib.hid fun w' => by
    have h := url_prog (strOf (USha.sha (bytesOf s))) w' (by rw [strOf_size, USha.sha_length]; omega)
    rw [bytesOf_strOf] at h
    exact h
  have c43 : (((chal s).size : Int) == 43) = true := by rw [chal_size]; rfl
  have d32 : (((strOf (USha.sha (bytesOf s))).size : Int) == 32) = true := by rw [strOf_size, USha.sha_length]; rfl
  generalize strOf (USha.sha (bytesOf s)) = d at *
  generalize chal s = c at *
  go_enter Tryd.func10, Tryd.ntmps10
  go_wp2_with (first
    | (go_at_call 16; (with_reducible refine HS.out.mono ?_); rintro e w1 ⟨rfl, hb1⟩)
    | (go_at_call 11; (with_reducible refine (HD.out _ hb1).mono ?_); rintro e w2 ⟨rfl, hb2⟩; have b2 := hb1.trans (hb2.mono hb1.size))
    | (go_at_call 14; (with_reducible refine (HU.out _).mono ?_); rintro e w3 ⟨rfl, hb3⟩; have b3 := b2.trans (hb3.mono b2.size))
    | (go_at_call 27; (with_reducible refine (HC.out _ b3).mono ?_); rintro e w4 ⟨rfl, hb4⟩; have b4 := b3.trans (hb4.mono b3.size))
    | (go_at_call 12; (with_reducible refine (HL.out _).mono ?_); rintro e w5 ⟨rfl, hb5⟩; have b5 := b4.trans (hb5.mono b4.size)))
  go_ret
  exact ⟨by simp, b5⟩
end Go.Proofs.YtmkifaddfnodhaaDoor
