/- P10.1, P10.2, P10.4 by the package's own calls: for every input. -/
import Derived.Test.YtmkifaddfnodhaaDoorPkceOnlyWalk
namespace Go.Proofs.YtmkifaddfnodhaaDoor
open Go.RowKit
theorem only_v : verifies { data := #[48, 49, 50, 51, 52, 53, 54, 55, 56, 57, 45, 97, 98, 99, 100, 101, 102, 103, 104, 105, 106, 107, 108, 109, 110, 111, 112, 113, 114, 115, 116, 117, 118, 119, 120, 121, 122, 46, 95, 126, 65, 66, 67] } = true := by decide +kernel
theorem only_beq (a b : ByteArray) : (a.toList == b.toList) = decide (a = b) := by
  by_cases h : a = b
  · subst h; simp
  · rw [decide_eq_false h]; exact (Lib.bytes_beq_false_iff _ _).2 h
theorem only_size {a b : ByteArray} (h : a.size ≠ b.size) : a ≠ b := fun e => h (by rw [e])
theorem pkceOnly_walk (a b : ByteArray) (W : World) (ha : a.size ≤ reachBytes) (hb : b.size ≤ reachBytes) (ht : PTabs W) (hp : PkceTab W) :
    Calls Tryd.prog 9 #[.agg #[.string a, .string b]] W fun e w' => e = .returned (.bool true) ∧ Below W.heap.size W w' := by
  have ha2 := ha
  unfold reachBytes at ha2
  have hc := chal_size a
  have own : ∀ v : ByteArray, verifies v = true → matches' v (chal v) = true := fun v hv => by unfold matches'; rw [hv, decide_eq_true rfl]; rfl
  have HV0 := fun (w' : World) (h' : Below (W.alloc (.cells #[.string a, .string b] 43)).heap.size (W.alloc (.cells #[.string a, .string b] 43)) w') => by
    have hh := verifier_any { data := #[48, 49, 50, 51, 52, 53, 54, 55, 56, 57, 45, 97, 98, 99, 100, 101, 102, 103, 104, 105, 106, 107, 108, 109, 110, 111, 112, 113, 114, 115, 116, 117, 118, 119, 120, 121, 122, 46, 95, 126, 65, 66, 67] } w' (by decide) (hp.below' (tw_fin h'))
    rw [only_v] at hh
    exact hh
  have HS0 := fun (w' : World) (h' : Below (W.alloc (.cells #[.string a, .string b] 43)).heap.size (W.alloc (.cells #[.string a, .string b] 43)) w') => s256_prog { data := #[48, 49, 50, 51, 52, 53, 54, 55, 56, 57, 45, 97, 98, 99, 100, 101, 102, 103, 104, 105, 106, 107, 108, 109, 110, 111, 112, 113, 114, 115, 116, 117, 118, 119, 120, 121, 122, 46, 95, 126, 65, 66, 67] } w' (by decide) (ht.below (tw_fin h'))
  have HM0 := fun (w' : World) (h' : Below (W.alloc (.cells #[.string a, .string b] 43)).heap.size (W.alloc (.cells #[.string a, .string b] 43)) w') => by
    have hh := match_any { data := #[48, 49, 50, 51, 52, 53, 54, 55, 56, 57, 45, 97, 98, 99, 100, 101, 102, 103, 104, 105, 106, 107, 108, 109, 110, 111, 112, 113, 114, 115, 116, 117, 118, 119, 120, 121, 122, 46, 95, 126, 65, 66, 67] } (chal { data := #[48, 49, 50, 51, 52, 53, 54, 55, 56, 57, 45, 97, 98, 99, 100, 101, 102, 103, 104, 105, 106, 107, 108, 109, 110, 111, 112, 113, 114, 115, 116, 117, 118, 119, 120, 121, 122, 46, 95, 126, 65, 66, 67] }) w' (by decide) (by rw [chal_size]; decide) (ht.below (tw_fin h')) (hp.below' (tw_fin h'))
    rw [own _ only_v] at hh
    exact hh
  cases hv : verifies a
  · have hm : ∀ c, matches' a c = false := fun c => by unfold matches'; rw [hv]; rfl
    refine only_no a b (chal { data := #[48, 49, 50, 51, 52, 53, 54, 55, 56, 57, 45, 97, 98, 99, 100, 101, 102, 103, 104, 105, 106, 107, 108, 109, 110, 111, 112, 113, 114, 115, 116, 117, 118, 119, 120, 121, 122, 46, 95, 126, 65, 66, 67] }) (chal a) W (Lib.hid HV0) (Lib.hid HS0) (Lib.hid HM0) (Lib.hid fun w' h' => ?_) (Lib.hid fun w' h' => ?_) (Lib.hid fun w' h' => ?_) (Lib.hid fun w' h' => ?_)
    · have hh := verifier_any a w' (by unfold maxLen; omega) (hp.below' (tw_fin h'))
      rw [hv] at hh
      exact hh
    · have hh := match_any a b w' ha hb (ht.below (tw_fin h')) (hp.below' (tw_fin h'))
      rw [hm] at hh
      exact hh
    · exact s256_prog a w' (by omega) (ht.below (tw_fin h'))
    · have hh := match_any a (chal a) w' ha (by rw [hc]; decide) (ht.below (tw_fin h')) (hp.below' (tw_fin h'))
      rw [hm] at hh
      exact hh
  · have hm : ∀ c, matches' a c = decide (chal a = c) := fun c => by unfold matches'; rw [hv]; rfl
    have hq : (b.toList == (chal a).toList) = decide (chal a = b) := by
      rw [only_beq]
      exact decide_eq_decide.2 ⟨fun h => h.symm, fun h => h.symm⟩
    have hA : (chal a ++ { data := #[65] }).size = 44 := by rw [ByteArray.size_append, hc]; decide
    have hB : ((chal a).extract 0 42).size = 42 := by rw [ByteArray.size_extract, hc]; decide
    refine only_yes a b (chal { data := #[48, 49, 50, 51, 52, 53, 54, 55, 56, 57, 45, 97, 98, 99, 100, 101, 102, 103, 104, 105, 106, 107, 108, 109, 110, 111, 112, 113, 114, 115, 116, 117, 118, 119, 120, 121, 122, 46, 95, 126, 65, 66, 67] }) (chal a) (decide (chal a = b)) W (Lib.hid HV0) (Lib.hid HS0) (Lib.hid HM0) (Lib.hid fun w' h' => ?_) (Lib.hid fun w' h' => ?_) (Lib.hid fun w' h' => ?_) (Lib.hid fun w' h' => ?_) (Lib.hid fun w' h' => ?_) (Lib.hid fun w' h' => ?_) hq hc
    · have hh := verifier_any a w' (by unfold maxLen; omega) (hp.below' (tw_fin h'))
      rw [hv] at hh
      exact hh
    · exact s256_prog a w' (by omega) (ht.below (tw_fin h'))
    · have hh := match_any a (chal a) w' ha (by rw [hc]; decide) (ht.below (tw_fin h')) (hp.below' (tw_fin h'))
      rw [own _ hv] at hh
      exact hh
    · have hh := match_any a b w' ha hb (ht.below (tw_fin h')) (hp.below' (tw_fin h'))
      rw [hm] at hh
      exact hh
    · have hh := match_any a (chal a ++ { data := #[65] }) w' ha (by rw [hA]; decide) (ht.below (tw_fin h')) (hp.below' (tw_fin h'))
      rw [hm, decide_eq_false (only_size (by rw [hA, hc]; decide))] at hh
      exact hh
    · have hh := match_any a ((chal a).extract 0 42) w' ha (by rw [hB]; decide) (ht.below (tw_fin h')) (hp.below' (tw_fin h'))
      rw [hm, decide_eq_false (only_size (by rw [hB, hc]; decide))] at hh
      exact hh
end Go.Proofs.YtmkifaddfnodhaaDoor
