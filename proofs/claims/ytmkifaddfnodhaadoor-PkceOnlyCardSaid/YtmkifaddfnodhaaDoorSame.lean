/- Same: whether two texts are the same, walked. -/
import Derived.Test.YtmkifaddfnodhaaDoorBase
import Derived.StillTailTactics
import Derived.Outline
namespace Go.Proofs.YtmkifaddfnodhaaDoor
open Go.RowKit
def apartTo (a b : List (BitVec 8)) : Nat → BitVec 8
  | 0 => 0#8
  | k + 1 => apartTo a b k ||| (a.getD k 0#8 ^^^ b.getD k 0#8)
theorem or_zero8 (x y : BitVec 8) : (x ||| y = 0#8) ↔ (x = 0#8 ∧ y = 0#8) := BitVec.or_eq_zero_iff
theorem xor_zero8 (x y : BitVec 8) : (x ^^^ y = 0#8) ↔ x = y := BitVec.xor_eq_zero_iff
theorem apartTo_zero (a b : List (BitVec 8)) (k : Nat) : apartTo a b k = 0#8 ↔ ∀ i, i < k → a.getD i 0#8 = b.getD i 0#8 := by
  induction k with
  | zero => simp [apartTo]
  | succ k ih =>
    rw [apartTo, or_zero8, ih, xor_zero8]
    constructor
    · rintro ⟨h1, h2⟩ i hi
      rcases Nat.lt_succ_iff_lt_or_eq.1 hi with h | rfl
      · exact h1 i h
      · exact h2
    · intro h
      exact ⟨fun i hi => h i (by omega), h k (by omega)⟩
theorem apart_same (a b : ByteArray) (h : a.size = b.size) : apartTo (bytesOf a) (bytesOf b) a.size = 0#8 ↔ a = b := by
  rw [apartTo_zero]
  constructor
  · intro hh
    apply bytesOf_inj
    apply List.ext_getElem (by rw [bytesOf_length, bytesOf_length, h])
    intro i h1 h2
    have := hh i (by rw [← bytesOf_length]; exact h1)
    rw [List.getD_eq_getElem?_getD, List.getD_eq_getElem?_getD, List.getElem?_eq_getElem h1, List.getElem?_eq_getElem h2] at this
    exact this
  · rintro rfl i _; rfl
theorem apart_step (a b : ByteArray) (k : Nat) (ha : k < a.size) (hb : k < b.size) : ∃ z : BitVec 8, bits .xor .u8 (a[k].toNat : Int) (b[k].toNat : Int) = (z.toNat : Int) ∧ bits .or .u8 ((apartTo (bytesOf a) (bytesOf b) k).toNat : Int) (z.toNat : Int) = ((apartTo (bytesOf a) (bytesOf b) (k + 1)).toNat : Int) := by
  refine ⟨a[k].toBitVec ^^^ b[k].toBitVec, ?_, ?_⟩
  · have := Bv.xor8 a[k].toBitVec (b[k].toBitVec.toNat : Int)
    rw [Bv.ofInt_toNat] at this
    exact this
  · rw [or8, Bv.ofInt_toNat]
    have e1 : (bytesOf a).getD k 0#8 = a[k].toBitVec := by rw [List.getD_eq_getElem?_getD, bytesOf_get a k ha]; rfl
    have e2 : (bytesOf b).getD k 0#8 = b[k].toBitVec := by rw [List.getD_eq_getElem?_getD, bytesOf_get b k hb]; rfl
    rw [apartTo, e1, e2]
set_option maxHeartbeats 400000 in
theorem same_any (a b : ByteArray) (w : World) (ha : a.size ≤ maxLen) (hb : b.size ≤ maxLen) :
    Calls Tryd.prog 40 #[.string a, .string b] w fun e w' => e = .returned (.bool (decide (a = b))) ∧ Below w.heap.size w w' := by
  unfold maxLen at ha hb
  by_cases hl : a.size = b.size
  · go_enter Tryd.func40, Tryd.ntmps40
    go_wp2
    go_loopw [5, 14] (fun g i wr => ∃ k : Nat, k ≤ a.size ∧ i = .int .i64 k ∧ g = .int .u8 ((apartTo (bytesOf a) (bytesOf b) k).toNat : Int) ∧ Below w.heap.size w wr) (fun _ i _ => a.size - (intOf i).toNat)
    case atStart => exact ⟨0, Nat.zero_le _, rfl, rfl, Below.refl _ _⟩
    case round =>
      obtain ⟨k, hk, rfl, rfl, hbe⟩ := hrel
      by_cases hlt : k < a.size
      · obtain ⟨z, e1, e2⟩ := apart_step a b k hlt (by omega)
        generalize apartTo (bytesOf a) (bytesOf b) k = g at *
        obtain ⟨g', hg'⟩ : ∃ g', g' = apartTo (bytesOf a) (bytesOf b) (k + 1) := ⟨_, rfl⟩
        rw [← hg'] at e2
        have HG := Lib.hid hg'
        clear hg'
        have hkb : k < b.size := by omega
        have k0 : (0 : Int) ≤ k := by omega
        have k1 : (k : Int) < a.size := by omega
        have k2 : (k : Int) < b.size := by omega
        go_wp2
        refine wp_region_still_lit (by kernel_rfl) (by kernel_rfl) ?_
        repeat still_step
        refine wpStill_nil ?_
        change Exit.inBlock _ _ _ _ wr.drew
        have hbd := hbe.drew
        generalize wr.drew = wd at *
        clear e1 e2
        go_wp2
        go_roundw
        case rel => exact ⟨k + 1, by omega, by go_num, by rw [HG.out], hbd⟩
        case measure => simp [intOf]; omega
      · obtain rfl : k = a.size := by omega
        have hz := apart_same a b hl
        generalize apartTo (bytesOf a) (bytesOf b) a.size = g at *
        have HZ := Lib.hid hz
        clear hz
        go_wp2
        go_ret
        refine ⟨?_, hbe⟩
        have e : ((g.toNat : Int) == 0) = decide (a = b) := by
          rw [show ((g.toNat : Int) == 0) = decide ((g.toNat : Int) = 0) from rfl]
          apply decide_eq_decide.2
          rw [← HZ.out]
          constructor
          · intro h; apply BitVec.eq_of_toNat_eq; simpa using h
          · rintro rfl; rfl
        exact congrArg (fun x => Ending.returned (Value.bool x)) e
  · go_enter Tryd.func40, Tryd.ntmps40
    go_wp2
    go_ret
    refine ⟨?_, Below.refl _ _⟩
    have e : decide (a = b) = false := decide_eq_false (by rintro rfl; exact hl rfl)
    rw [e]; rfl
end Go.Proofs.YtmkifaddfnodhaaDoor
