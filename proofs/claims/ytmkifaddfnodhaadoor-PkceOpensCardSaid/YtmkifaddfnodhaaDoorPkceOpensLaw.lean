/- P10.5 and P10.6 by the package's own calls: for every input. -/
import Derived.Test.YtmkifaddfnodhaaDoorPkceOpensWalk
import Derived.Test.YtmkifaddfnodhaaDoorPkceTwoPass
namespace Go.Proofs.YtmkifaddfnodhaaDoor
open Go.RowKit
theorem stre_two : stre { data := #[112, 97, 115, 115, 119, 111, 114, 101] } { data := #[115, 97, 108, 116] } 0 ≠ stre { data := #[112, 97, 115, 115, 119, 111, 114, 100] } { data := #[115, 97, 108, 116] } 0 := by
  intro h
  have h2 := congrArg bytesOf h
  unfold stre at h2
  rw [bytesOf_strOf, bytesOf_strOf] at h2
  exact two_pass h2
theorem size_ne {a b : ByteArray} (h : a.size ≠ b.size) : a ≠ b := fun e => h (by rw [e])
theorem beq_decide (a b : ByteArray) : (a.toList == b.toList) = decide (a = b) := by
  by_cases h : a = b
  · subst h; simp
  · rw [decide_eq_false h]; exact (Lib.bytes_beq_false_iff _ _).2 h
theorem pkceOpens_walk {t : TypeId} {E : Addr} (a b o : ByteArray) (r g : Int) (W : World) (ha : a.size ≤ reachBytes) (ho : o.size ≤ reachBytes) (hE : ErrArg W t E) (ht : PTabs W) :
    Calls Tryd.prog 7 #[.agg #[.string a, .string b, .int .i64 r, .string o, .int .i64 g]] W fun e w' => e = .returned (.bool true) ∧ Below W.heap.size W w' := by
  unfold reachBytes at ha ho
  have e1 : (((0 : Nat) : Int) + 1) = 1 := rfl
  by_cases h : b.size = 0 ∨ 64 < b.size ∨ r < 1 ∨ 1000 < r
  · refine opens_no (t := t) (E := E) a b o r g (stre { data := #[112, 97, 115, 115, 119, 111, 114, 100] } { data := #[115, 97, 108, 116] } 0) W (Lib.hid fun w' h' => ?_) (Lib.hid fun w' h' => ?_) (Lib.hid fun w' h' => ?_) (Lib.hid fun w' h' => ?_) h
    · have hh := seal_yes { data := #[112, 97, 115, 115, 119, 111, 114, 100] } { data := #[115, 97, 108, 116] } 0 w' (by decide) (by decide) (by decide) (by omega) (ht.below (se_fin h'))
      rw [e1] at hh
      exact hh
    · have hh := password_yes { data := #[112, 97, 115, 115, 119, 111, 114, 100] } { data := #[115, 97, 108, 116] } (stre { data := #[112, 97, 115, 115, 119, 111, 114, 100] } { data := #[115, 97, 108, 116] } 0) 0 w' (by decide) (by decide) (by rw [stre_size]; decide) (by omega) (ht.below (se_fin h'))
      rw [e1, decide_eq_true rfl] at hh
      exact hh
    · have hh := password_yes { data := #[112, 97, 115, 115, 119, 111, 114, 101] } { data := #[115, 97, 108, 116] } (stre { data := #[112, 97, 115, 115, 119, 111, 114, 100] } { data := #[115, 97, 108, 116] } 0) 0 w' (by decide) (by decide) (by rw [stre_size]; decide) (by omega) (ht.below (se_fin h'))
      rw [e1, decide_eq_false stre_two] at hh
      exact hh
    · exact seal_no a b r w' t E (hE.below (se_fin h')) h
  · obtain ⟨n, rfl⟩ : ∃ n : Nat, r = (n : Int) + 1 := ⟨(r - 1).toNat, by omega⟩
    have hn : n < 1000 := by omega
    have h0 : b.size ≠ 0 := by omega
    have h1 : b.size ≤ 64 := by omega
    have hds := stre_size a b n
    refine opens_yes a b o _ g (stre { data := #[112, 97, 115, 115, 119, 111, 114, 100] } { data := #[115, 97, 108, 116] } 0) (stre a b n) (stre o b n) (decide (stre o b n = stre a b n)) W (Lib.hid fun w' h' => ?_) (Lib.hid fun w' h' => ?_) (Lib.hid fun w' h' => ?_) (Lib.hid fun w' h' => ?_) (Lib.hid fun w' h' => ?_) (Lib.hid fun w' h' => ?_) (Lib.hid fun w' h' => ?_) (Lib.hid fun w' h' => ?_) (Lib.hid fun w' h' => ?_) (beq_decide _ _) hds
    · have hh := seal_yes { data := #[112, 97, 115, 115, 119, 111, 114, 100] } { data := #[115, 97, 108, 116] } 0 w' (by decide) (by decide) (by decide) (by omega) (ht.below (se_fin h'))
      rw [e1] at hh
      exact hh
    · have hh := password_yes { data := #[112, 97, 115, 115, 119, 111, 114, 100] } { data := #[115, 97, 108, 116] } (stre { data := #[112, 97, 115, 115, 119, 111, 114, 100] } { data := #[115, 97, 108, 116] } 0) 0 w' (by decide) (by decide) (by rw [stre_size]; decide) (by omega) (ht.below (se_fin h'))
      rw [e1, decide_eq_true rfl] at hh
      exact hh
    · have hh := password_yes { data := #[112, 97, 115, 115, 119, 111, 114, 101] } { data := #[115, 97, 108, 116] } (stre { data := #[112, 97, 115, 115, 119, 111, 114, 100] } { data := #[115, 97, 108, 116] } 0) 0 w' (by decide) (by decide) (by rw [stre_size]; decide) (by omega) (ht.below (se_fin h'))
      rw [e1, decide_eq_false stre_two] at hh
      exact hh
    · exact seal_yes a b n w' (by omega) h0 h1 hn (ht.below (se_fin h'))
    · exact seal_yes o b n w' (by omega) h0 h1 hn (ht.below (se_fin h'))
    · have hh := password_yes a b (stre a b n) n w' (by omega) (by omega) (by rw [hds]; decide) hn (ht.below (se_fin h'))
      rw [decide_eq_true rfl] at hh
      exact hh
    · exact password_yes o b (stre a b n) n w' (by omega) (by omega) (by rw [hds]; decide) hn (ht.below (se_fin h'))
    · have hz : ((stre a b n).extract 0 31).size = 31 := by rw [ByteArray.size_extract, hds]; decide
      have hh := password_yes a b ((stre a b n).extract 0 31) n w' (by omega) (by omega) (by rw [hz]; decide) hn (ht.below (se_fin h'))
      rw [decide_eq_false (size_ne (by rw [hz, hds]; decide))] at hh
      exact hh
    · have hz : (stre a b n ++ { data := #[0] }).size = 33 := by rw [ByteArray.size_append, hds]; decide
      have hh := password_yes a b (stre a b n ++ { data := #[0] }) n w' (by omega) (by omega) (by rw [hz]; decide) hn (ht.below (se_fin h'))
      rw [decide_eq_false (size_ne (by rw [hz, hds]; decide))] at hh
      exact hh
end Go.Proofs.YtmkifaddfnodhaaDoor
