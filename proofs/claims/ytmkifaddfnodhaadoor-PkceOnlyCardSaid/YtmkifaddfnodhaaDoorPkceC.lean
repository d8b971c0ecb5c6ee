/- Challenges and matches: the calls of layer 10 over the digest and base64url. -/
import Derived.Test.YtmkifaddfnodhaaDoorVerify
import Derived.Test.YtmkifaddfnodhaaDoorSame
import Derived.Test.YtmkifaddfnodhaaDoorShaTabs
import Derived.Test.YtmkifaddfnodhaaDoorRadixUrlP
import Derived.Test.YtmkifaddfnodhaaDoorRadixRefWP
import Derived.Test.YtmkifaddfnodhaaDoorRadixMore
namespace Go.Proofs.YtmkifaddfnodhaaDoor
open Go.RowKit
/-- the challenge of a verifier -/
def chal (s : ByteArray) : ByteArray := strOf (URadix.wr URadix.urlA (USha.sha (bytesOf s)))
theorem chal_bytes (s : ByteArray) : bytesOf (chal s) = URadix.wr URadix.urlA (USha.sha (bytesOf s)) := bytesOf_strOf _
theorem chal_size (s : ByteArray) : (chal s).size = 43 := by unfold chal; rw [strOf_size, URadix.wr_length, USha.sha_length]
theorem chal_verifies (s : ByteArray) : verifies (chal s) = true := by
  unfold verifies goodTo
  rw [chal_size, chal_bytes, Bool.and_eq_true]
  refine ⟨by decide, ?_⟩
  rw [List.take_of_length_le (by rw [URadix.wr_length, USha.sha_length]; omega), List.all_eq_true]
  intro c hc
  obtain ⟨i, hi, rfl⟩ := List.mem_iff_getElem.1 hc
  have h := URadix.safe_wr (USha.sha (bytesOf s)) i hi
  generalize (URadix.wr URadix.urlA (USha.sha (bytesOf s)))[i] = c at *
  unfold URadix.safe at h
  unfold goodN
  simp only [Bool.or_eq_true, Bool.and_eq_true, decide_eq_true_eq, beq_iff_eq] at h ⊢
  omega
theorem PkceTab.below' {w w' : World} (h : PkceTab w) (hb : Below w.heap.size w w') : PkceTab w' := fun i hi => cell_below (h i hi) hb
theorem pkceTab_of {w : World} (h : U32Tab w 8 UPkce.tab) : PkceTab w := fun i hi => by
  rw [h i (by simpa [UPkce.tab] using hi)]
  rw [show UPkce.tab[i]! = UPkce.tab.toList.getD i 0#32 from by
    rw [List.getD_eq_getElem?_getD, Array.getElem?_toList, Array.getElem!_eq_getD, Array.getD_eq_getD_getElem?]; rfl]
theorem s256_prog (s : ByteArray) (w : World) (hs : s.size ≤ 281474976710656) (ht : PTabs w) :
    Calls Tryd.prog 16 #[.string s] w fun e w' => e = .returned (.string (chal s)) ∧ Below w.heap.size w w' := by
  have HS := Lib.hid (sha_prog s w hs ht.pf ht.pr ht.lt)
  have HU : Hid (∀ w', Calls Tryd.prog 12 #[.string (strOf (USha.sha (bytesOf s)))] w' fun e w2 => e = .returned (.string (chal s)) ∧ Below w'.heap.size w' w2) := Lib.hid fun w' => by
    have h := url_prog (strOf (USha.sha (bytesOf s))) w' (by rw [strOf_size, USha.sha_length]; omega)
    rw [bytesOf_strOf] at h
    exact h
  clear ht hs
  generalize strOf (USha.sha (bytesOf s)) = d at *
  generalize chal s = c at *
  go_enter Tryd.func16, Tryd.ntmps16
  go_wp2_with (first
    | (go_at_call 11; (with_reducible refine HS.out.mono ?_); rintro e w1 ⟨rfl, hb1⟩)
    | (go_at_call 12; (with_reducible refine (HU.out _).mono ?_); rintro e w2 ⟨rfl, hb2⟩; have b2 := hb1.trans (hb2.mono hb1.size)))
  go_ret
  exact ⟨rfl, b2⟩
theorem s256_ref (s : ByteArray) (w : World) (hs : s.size ≤ 281474976710656) (ht : ShaTabs w) :
    Calls Tryd.prog 17 #[.string s] w fun e w' => e = .returned (.string (chal s)) ∧ Below w.heap.size w w' := by
  have HS := Lib.hid (sha_ref s w hs ht.rf ht.rr)
  have HU : Hid (∀ w', Calls Tryd.prog 37 #[.string (strOf (USha.sha (bytesOf s)))] w' fun e w2 => e = .returned (.string (chal s)) ∧ Below w'.heap.size w' w2) := Lib.hid fun w' => by
    have h := refUrl_any (strOf (USha.sha (bytesOf s))) w' (by rw [strOf_size, USha.sha_length]; omega)
    rw [bytesOf_strOf] at h
    exact h
  clear ht hs
  generalize strOf (USha.sha (bytesOf s)) = d at *
  generalize chal s = c at *
  go_enter Tryd.func17, Tryd.ntmps17
  go_wp2_with (first
    | (go_at_call 36; (with_reducible refine HS.out.mono ?_); rintro e w1 ⟨rfl, hb1⟩)
    | (go_at_call 37; (with_reducible refine (HU.out _).mono ?_); rintro e w2 ⟨rfl, hb2⟩; have b2 := hb1.trans (hb2.mono hb1.size)))
  go_ret
  exact ⟨rfl, b2⟩
end Go.Proofs.YtmkifaddfnodhaaDoor
