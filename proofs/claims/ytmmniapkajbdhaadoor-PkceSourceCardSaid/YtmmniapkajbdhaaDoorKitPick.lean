/- The statements' own helper Pick. -/
import Derived.Test.YtmmniapkajbdhaaDoorBase
namespace Go.Proofs.YtmmniapkajbdhaaDoor
open Go.RowKit
/-- Pick: a number from 0 to n - 1. -/
theorem kit_pick_none (k n : Int) (w : World) (h1 : n < 1) :
    Calls Tryd.prog 13 #[.int .i64 k, .int .i64 n] w fun e w' => (e = .returned (.int .i64 0) ∧ w = w') := by
  go_enter Tryd.func13, Tryd.ntmps13
  go_wp2
  go_ret
  exact ⟨rfl, rfl⟩
theorem tmod_neg_le (k n : Int) (hk : k < 0) (h1 : 1 ≤ n) : -n < k.tmod n ∧ k.tmod n ≤ 0 ∧ (k.tmod n < 0 → k.tmod n + n = k % n) ∧ (¬ k.tmod n < 0 → k.tmod n = k % n) := by
  have e : k.tmod n = -((-k) % n) := by
    rw [show k = -(-k) by omega, Int.neg_tmod, Int.tmod_eq_emod_of_nonneg (by omega)]; simp
  have h2 := Int.emod_nonneg (-k) (show n ≠ 0 by omega)
  have h3 := Int.emod_lt_of_pos (-k) (show 0 < n by omega)
  have h4 := Int.emod_nonneg k (show n ≠ 0 by omega)
  have h5 := Int.emod_lt_of_pos k (show 0 < n by omega)
  have h6 := Int.mul_ediv_add_emod (-k) n
  have h7 := Int.mul_ediv_add_emod k n
  have h8 : (k % n + (-k) % n) % n = 0 := by
    have := Int.add_emod k (-k) n
    rw [Int.add_right_neg, Int.zero_emod] at this
    exact this.symm
  have h9 : k % n + (-k) % n = 0 ∨ k % n + (-k) % n = n := by
    rcases Int.lt_or_le (k % n + (-k) % n) n with h | h
    · left; rw [Int.emod_eq_of_lt (by omega) h] at h8; exact h8
    · right
      have : (k % n + (-k) % n - n) % n = 0 := by rw [Int.sub_emod, h8]; simp
      rw [Int.emod_eq_of_lt (by omega) (by omega)] at this
      omega
  refine ⟨by omega, by omega, fun h => by omega, fun h => by omega⟩
theorem kit_pick (k n : Int) (w : World) (hk : (Lit.int .i64 k).wf = true) (h1 : 1 ≤ n) (h2 : n ≤ 4611686018427387904) :
    Calls Tryd.prog 13 #[.int .i64 k, .int .i64 n] w fun e w' => (e = .returned (.int .i64 (k % n)) ∧ w = w') := by
  have hk1 : -9223372036854775808 ≤ k ∧ k ≤ 9223372036854775807 := by simpa [Lit.wf, IntKind.min, IntKind.max, IntKind.signed, IntKind.bits] using hk
  obtain ⟨hk1, hk2⟩ := hk1
  clear hk
  have hn : ¬ n < 1 := by omega
  by_cases h0 : 0 ≤ k
  · have h4 := Int.emod_nonneg k (show n ≠ 0 by omega)
    have h5 := Int.emod_lt_of_pos k (show 0 < n by omega)
    go_enter Tryd.func13, Tryd.ntmps13
    go_wp2
    go_ret
    exact ⟨rfl, rfl⟩
  · obtain ⟨a1, a2, a3, a4⟩ := tmod_neg_le k n (by omega) h1
    have A3 := Lib.hid a3
    have A4 := Lib.hid a4
    clear a3 a4
    by_cases ht : k.tmod n < 0
    · go_enter Tryd.func13, Tryd.ntmps13
      go_wp2
      go_ret
      exact ⟨congrArg (fun z => Ending.returned (Value.int .i64 z)) (A3.out ht), rfl⟩
    · go_enter Tryd.func13, Tryd.ntmps13
      go_wp2
      go_ret
      exact ⟨congrArg (fun z => Ending.returned (Value.int .i64 z)) (A4.out ht), rfl⟩
end Go.Proofs.YtmmniapkajbdhaaDoor
