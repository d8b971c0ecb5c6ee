/- Match, both ways, and Challenge. -/
import Derived.Test.YtmkifaddfnodhaaDoorPkceC
import Derived.Lib.SlicesS
namespace Go.Proofs.YtmkifaddfnodhaaDoor
open Go.RowKit
def matches' (v c : ByteArray) : Bool := verifies v && decide (chal v = c)
theorem challenge_c (s : ByteArray) (w : World) (hs : s.size ≤ maxLen) (ht : PkceTab w) :
    Calls Tryd.prog 27 #[.string s] w fun e w' => e = .returned (.bool (verifies s)) ∧ Below w.heap.size w w' := by
  have HV := Lib.hid (verifier_any s w hs ht)
  clear ht
  go_enter Tryd.func27, Tryd.ntmps27
  go_wp2_with (go_at_call 25; (with_reducible refine HV.out.mono ?_); rintro e w' ⟨rfl, hb⟩)
  go_ret
  exact ⟨rfl, hb⟩
theorem match_any (v c : ByteArray) (w : World) (hv : v.size ≤ reachBytes) (hc : c.size ≤ reachBytes) (ht : PTabs w) (hp : PkceTab w) :
    Calls Tryd.prog 22 #[.string v, .string c] w fun e w' => e = .returned (.bool (matches' v c)) ∧ Below w.heap.size w w' := by
  unfold reachBytes at hv hc
  have HV := Lib.hid (verifier_any v w (by unfold maxLen; omega) hp)
  have HS : Hid (∀ w', Below w.heap.size w w' → Calls Tryd.prog 16 #[.string v] w' fun e w2 => e = .returned (.string (chal v)) ∧ Below w'.heap.size w' w2) := Lib.hid fun w' h => s256_prog v w' (by omega) (ht.below h)
  have HC : Hid (∀ w', Calls Tryd.prog 40 #[.string (chal v), .string c] w' fun e w2 => e = .returned (.bool (decide (chal v = c))) ∧ Below w'.heap.size w' w2) := Lib.hid fun w' => same_any (chal v) c w' (by rw [chal_size]; unfold maxLen; omega) (by unfold maxLen; omega)
  unfold matches'
  clear ht hp
  generalize decide (chal v = c) = q at *
  generalize chal v = d at *
  cases hq : verifies v
  · rw [hq] at HV
    clear hq
    go_enter Tryd.func22, Tryd.ntmps22
    go_wp2_with (go_at_call 25; (with_reducible refine HV.out.mono ?_); rintro e w1 ⟨rfl, hb1⟩)
    go_ret
    exact ⟨rfl, hb1⟩
  · rw [hq] at HV
    clear hq
    go_enter Tryd.func22, Tryd.ntmps22
    go_wp2_with (first
      | (go_at_call 25; (with_reducible refine HV.out.mono ?_); rintro e w1 ⟨rfl, hb1⟩)
      | (go_at_call 16; (with_reducible refine (HS.out _ hb1).mono ?_); rintro e w2 ⟨rfl, hb2⟩; have b2 := hb1.trans (hb2.mono hb1.size))
      | (go_at_call 40; (with_reducible refine (HC.out _).mono ?_); rintro e w3 ⟨rfl, hb3⟩; have b3 := b2.trans (hb3.mono b2.size)))
    go_ret
    exact ⟨rfl, b3⟩
theorem refMatch_any (v c : ByteArray) (w : World) (hv : v.size ≤ reachBytes) (ht : ShaTabs w) :
    Calls Tryd.prog 23 #[.string v, .string c] w fun e w' => e = .returned (.bool (matches' v c)) ∧ Below w.heap.size w w' := by
  unfold reachBytes at hv
  have HV := Lib.hid (ref_verifier v w (by unfold maxLen; omega))
  have HS := Lib.hid (s256_ref v w (by omega) ht)
  clear ht
  unfold matches'
  cases hq : verifies v
  · rw [hq] at HV
    clear hq
    go_enter Tryd.func23, Tryd.ntmps23
    go_wp2_with (go_at_call 24; (with_reducible refine HV.out.mono ?_); rintro e w1 ⟨rfl, rfl⟩)
    go_ret
    exact ⟨rfl, Below.refl _ _⟩
  · rw [hq] at HV
    clear hq
    by_cases hd : chal v = c
    · subst hd
      rw [decide_eq_true rfl]
      generalize chal v = d at *
      go_enter Tryd.func23, Tryd.ntmps23
      go_wp2_with (first
        | (go_at_call 24; (with_reducible refine HV.out.mono ?_); rintro e w1 ⟨rfl, rfl⟩)
        | (go_at_call 17; (with_reducible refine HS.out.mono ?_); rintro e w2 ⟨rfl, hb2⟩))
      go_ret
      exact ⟨by simp, hb2⟩
    · rw [decide_eq_false hd]
      have hl := (Lib.bytes_beq_false_iff (chal v) c).2 hd
      generalize chal v = d at *
      clear hd
      go_enter Tryd.func23, Tryd.ntmps23
      go_wp2_with (first
        | (go_at_call 24; (with_reducible refine HV.out.mono ?_); rintro e w1 ⟨rfl, rfl⟩)
        | (go_at_call 17; (with_reducible refine HS.out.mono ?_); rintro e w2 ⟨rfl, hb2⟩))
      go_ret
      exact ⟨by simp, hb2⟩
end Go.Proofs.YtmkifaddfnodhaaDoor
