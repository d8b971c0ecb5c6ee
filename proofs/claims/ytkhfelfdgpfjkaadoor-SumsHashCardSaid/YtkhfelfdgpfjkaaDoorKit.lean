/- The statements' own helpers: Pick, Bytes. -/
import Derived.Test.YtkhfelfdgpfjkaaDoorConv
namespace Go.Proofs.YtkhfelfdgpfjkaaDoor
open Go.RowKit
set_option maxHeartbeats 400000 in
theorem kit_bytes (s : ByteArray) (w : World) (hs : s.size ≤ reachBytes) :
    Calls Tryd.prog 31 #[.string s] w fun e w' => ∃ v, e = .returned v ∧ w'.ownsRow w.heap.size 5 1 v s.size (u8s (bytesOf s)) ∧ Below w.heap.size w w' := by
  unfold reachBytes at hs
  obtain ⟨i0, hi, hz0, hz1, hz2⟩ := info_parts info8
  go_enter Tryd.func31, Tryd.ntmps31
  go_wp2
  go_loopw [3, 4] (fun v i wr => ∃ k : Nat, k ≤ s.size ∧ i = .int .i64 k ∧ wr.ownsRow w.heap.size 5 1 v k (u8s ((bytesOf s).take k)) ∧ Below w.heap.size w wr) (fun _ i _ => s.size - (intOf i).toNat)
  case atStart => exact ⟨0, Nat.zero_le _, rfl, World.ownsRow_nil _ _ _ _, Below.refl _ _⟩
  case round =>
    obtain ⟨k, hk, rfl, hown, hb⟩ := hrel
    by_cases hlt : k < s.size
    · have hsz := hb.size
      have HS := Lib.hid (u8s_snoc s k hlt)
      go_wp2_with (at_builtin; refine wpList_append_own _ rfl _ _ 37 rfl w.heap.size 5 i0 (.int .u8 0) 1 1 Tryd.underlying37 hi hz0 hz1 hz2 rfl (by decide) _ _ _ rfl (hown.alloc _) ⟨wr.heap.size, 0, none⟩ 1 1 [.int .u8 (s[k].toNat : Int)] rfl rfl (cell_one_new' _ _ _) ?c2 ?c3 ?c4 ?c5 ?_)
      case c2 => intro u hu; simp at hu; subst hu; rfl
      case c3 => unfold maxLen; omega
      case c4 => omega
      case c5 => simp; omega
      intro v' w1 hown' hgrow _
      have hb1 : Below w.heap.size w w1 := (hb.alloc hsz _).grown hgrow (by simp; omega) (fun g hg => by
        rcases hown.2 with ⟨rfl, _⟩ | ⟨g', cap, cur, rfl, hge, _⟩
        · simp [Value.ownBlock] at hg
        · simp [Value.ownBlock] at hg; omega)
      clear hgrow hb hown
      go_wp2
      go_roundw
      case rel => exact ⟨k + 1, by omega, by go_num, by rw [HS.out]; exact hown', hb1⟩
      case measure => simp [intOf]; omega
    · obtain rfl : k = s.size := by omega
      rw [List.take_of_length_le (by rw [bytesOf_length]; omega)] at hown
      go_wp2
      go_ret
      exact ⟨_, rfl, hown, hb⟩
/-- Pick: a number from 0 to n - 1. -/
theorem kit_pick_none (k n : Int) (w : World) (h1 : n < 1) :
    Calls Tryd.prog 18 #[.int .i64 k, .int .i64 n] w fun e w' => (e = .returned (.int .i64 0) ∧ w = w') := by
  go_enter Tryd.func18, Tryd.ntmps18
  go_wp2
  go_ret
  exact ⟨rfl, rfl⟩
theorem tmod_neg_le (k n : Int) (hk : k < 0) (h1 : 1 ≤ n) : -n < k.tmod n ∧ k.tmod n ≤ 0 ∧ (k.tmod n < 0 → k.tmod n + n = k % n) ∧ (¬ k.tmod n < 0 → k.tmod n = k % n) := by
  have e : k.tmod n = -((-k) % n) := by
    rw [show k = -(-k) by omega, Int.neg_tmod, Int.tmod_eq_emod_of_nonneg (by omega)]; simp
  have h2 := Int.emod_nonneg (-k) (show n ≠ 0 by omega)
  have h3 := Int.emod_lt_of_pos (-k) (show 0 < n by omega)
  have h4 := Int.emod_nonneg k (show n ≠ 0 by omega)
  have h5 := Int.emod_lt_of_pos k (show 0 < n by omega)
  have h6 := Int.mul_ediv_add_emod (-k) n
  have h7 := Int.mul_ediv_add_emod k n
  have h8 : (k % n + (-k) % n) % n = 0 := by
    have := Int.add_emod k (-k) n
    rw [Int.add_right_neg, Int.zero_emod] at this
    exact this.symm
  have h9 : k % n + (-k) % n = 0 ∨ k % n + (-k) % n = n := by
    rcases Int.lt_or_le (k % n + (-k) % n) n with h | h
    · left; rw [Int.emod_eq_of_lt (by omega) h] at h8; exact h8
    · right
      have : (k % n + (-k) % n - n) % n = 0 := by rw [Int.sub_emod, h8]; simp
      rw [Int.emod_eq_of_lt (by omega) (by omega)] at this
      omega
  refine ⟨by omega, by omega, fun h => by omega, fun h => by omega⟩
theorem kit_pick (k n : Int) (w : World) (hk : (Lit.int .i64 k).wf = true) (h1 : 1 ≤ n) (h2 : n ≤ 4611686018427387904) :
    Calls Tryd.prog 18 #[.int .i64 k, .int .i64 n] w fun e w' => (e = .returned (.int .i64 (k % n)) ∧ w = w') := by
  have hk1 : -9223372036854775808 ≤ k ∧ k ≤ 9223372036854775807 := by simpa [Lit.wf, IntKind.min, IntKind.max, IntKind.signed, IntKind.bits] using hk
  obtain ⟨hk1, hk2⟩ := hk1
  clear hk
  have hn : ¬ n < 1 := by omega
  by_cases h0 : 0 ≤ k
  · have h4 := Int.emod_nonneg k (show n ≠ 0 by omega)
    have h5 := Int.emod_lt_of_pos k (show 0 < n by omega)
    go_enter Tryd.func18, Tryd.ntmps18
    go_wp2
    go_ret
    exact ⟨rfl, rfl⟩
  · obtain ⟨a1, a2, a3, a4⟩ := tmod_neg_le k n (by omega) h1
    have A3 := Lib.hid a3
    have A4 := Lib.hid a4
    clear a3 a4
    by_cases ht : k.tmod n < 0
    · go_enter Tryd.func18, Tryd.ntmps18
      go_wp2
      go_ret
      exact ⟨congrArg (fun z => Ending.returned (Value.int .i64 z)) (A3.out ht), rfl⟩
    · go_enter Tryd.func18, Tryd.ntmps18
      go_wp2
      go_ret
      exact ⟨congrArg (fun z => Ending.returned (Value.int .i64 z)) (A4.out ht), rfl⟩
end Go.Proofs.YtkhfelfdgpfjkaaDoor
