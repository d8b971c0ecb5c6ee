/- P10.1, walked: which texts may be verifiers. -/
import Derived.Test.YtmkifaddfnodhaaDoorBase
import Derived.Test.YtmkifaddfnodhaaDoorPkceTab
import Derived.StillTailTactics
namespace Go.Proofs.YtmkifaddfnodhaaDoor
open Go.RowKit
/-- RFC 7636's bytes -/
def goodN (c : Nat) : Bool := decide ((65 ≤ c ∧ c ≤ 90) ∨ (97 ≤ c ∧ c ≤ 122) ∨ (48 ≤ c ∧ c ≤ 57) ∨ c = 45 ∨ c = 46 ∨ c = 95 ∨ c = 126)
def goodTo (l : List (BitVec 8)) (k : Nat) : Bool := (l.take k).all fun b => goodN b.toNat
def verifies (s : ByteArray) : Bool := decide (43 ≤ s.size ∧ s.size ≤ 128) && goodTo (bytesOf s) s.size
def PkceTab (w : World) : Prop := ∀ i : Nat, i < 8 → w.cell? ⟨8, i, none⟩ = some (.int .u32 ((UPkce.tab[i]!).toNat : Int))
theorem ret_bool {a b : Bool} (h : a = b) : Ending.returned (Value.bool a) = Ending.returned (Value.bool b) := by rw [h]
set_option maxHeartbeats 1000000 in
theorem unreserved_any (c : Nat) (w : World) (hc : c < 256) :
    Calls Tryd.prog 41 #[.int .u8 c] w fun e w' => e = .returned (.bool (goodN c)) ∧ w = w' := by
  have hs : (c < 45) ∨ (c = 45) ∨ (c = 46) ∨ (c = 47) ∨ (48 ≤ c ∧ c ≤ 57) ∨ (58 ≤ c ∧ c ≤ 64) ∨ (65 ≤ c ∧ c ≤ 90) ∨ (91 ≤ c ∧ c ≤ 94) ∨ (c = 95) ∨ (c = 96) ∨ (97 ≤ c ∧ c ≤ 122) ∨ (123 ≤ c ∧ c ≤ 125) ∨ (c = 126) ∨ (127 ≤ c) := by omega
  rcases hs with h | h | h | h | h | h | h | h | h | h | h | h | h | h
  · have hg : goodN c = false := by unfold goodN; simp; omega
    rw [hg]
    clear hg
    go_enter Tryd.func41, Tryd.ntmps41
    go_wp2
    go_ret
    first
      | exact ⟨rfl, rfl⟩
      | exact ⟨ret_bool (by simp; omega), rfl⟩
  · have hg : goodN c = true := by unfold goodN; simp; omega
    rw [hg]
    clear hg
    subst h
    go_enter Tryd.func41, Tryd.ntmps41
    go_wp2
    go_ret
    first
      | exact ⟨rfl, rfl⟩
      | exact ⟨ret_bool (by simp; omega), rfl⟩
  · have hg : goodN c = true := by unfold goodN; simp; omega
    rw [hg]
    clear hg
    subst h
    go_enter Tryd.func41, Tryd.ntmps41
    go_wp2
    go_ret
    first
      | exact ⟨rfl, rfl⟩
      | exact ⟨ret_bool (by simp; omega), rfl⟩
  · have hg : goodN c = false := by unfold goodN; simp; omega
    rw [hg]
    clear hg
    subst h
    go_enter Tryd.func41, Tryd.ntmps41
    go_wp2
    go_ret
    first
      | exact ⟨rfl, rfl⟩
      | exact ⟨ret_bool (by simp; omega), rfl⟩
  · have hg : goodN c = true := by unfold goodN; simp; omega
    rw [hg]
    clear hg
    go_enter Tryd.func41, Tryd.ntmps41
    go_wp2
    go_ret
    first
      | exact ⟨rfl, rfl⟩
      | exact ⟨ret_bool (by simp; omega), rfl⟩
  · have hg : goodN c = false := by unfold goodN; simp; omega
    rw [hg]
    clear hg
    go_enter Tryd.func41, Tryd.ntmps41
    go_wp2
    go_ret
    first
      | exact ⟨rfl, rfl⟩
      | exact ⟨ret_bool (by simp; omega), rfl⟩
  · have hg : goodN c = true := by unfold goodN; simp; omega
    rw [hg]
    clear hg
    go_enter Tryd.func41, Tryd.ntmps41
    go_wp2
    go_ret
    first
      | exact ⟨rfl, rfl⟩
      | exact ⟨ret_bool (by simp; omega), rfl⟩
  · have hg : goodN c = false := by unfold goodN; simp; omega
    rw [hg]
    clear hg
    go_enter Tryd.func41, Tryd.ntmps41
    go_wp2
    go_ret
    first
      | exact ⟨rfl, rfl⟩
      | exact ⟨ret_bool (by simp; omega), rfl⟩
  · have hg : goodN c = true := by unfold goodN; simp; omega
    rw [hg]
    clear hg
    subst h
    go_enter Tryd.func41, Tryd.ntmps41
    go_wp2
    go_ret
    first
      | exact ⟨rfl, rfl⟩
      | exact ⟨ret_bool (by simp; omega), rfl⟩
  · have hg : goodN c = false := by unfold goodN; simp; omega
    rw [hg]
    clear hg
    subst h
    go_enter Tryd.func41, Tryd.ntmps41
    go_wp2
    go_ret
    first
      | exact ⟨rfl, rfl⟩
      | exact ⟨ret_bool (by simp; omega), rfl⟩
  · have hg : goodN c = true := by unfold goodN; simp; omega
    rw [hg]
    clear hg
    go_enter Tryd.func41, Tryd.ntmps41
    go_wp2
    go_ret
    first
      | exact ⟨rfl, rfl⟩
      | exact ⟨ret_bool (by simp; omega), rfl⟩
  · have hg : goodN c = false := by unfold goodN; simp; omega
    rw [hg]
    clear hg
    go_enter Tryd.func41, Tryd.ntmps41
    go_wp2
    go_ret
    first
      | exact ⟨rfl, rfl⟩
      | exact ⟨ret_bool (by simp; omega), rfl⟩
  · have hg : goodN c = true := by unfold goodN; simp; omega
    rw [hg]
    clear hg
    subst h
    go_enter Tryd.func41, Tryd.ntmps41
    go_wp2
    go_ret
    first
      | exact ⟨rfl, rfl⟩
      | exact ⟨ret_bool (by simp; omega), rfl⟩
  · have hg : goodN c = false := by unfold goodN; simp; omega
    rw [hg]
    clear hg
    go_enter Tryd.func41, Tryd.ntmps41
    go_wp2
    go_ret
    first
      | exact ⟨rfl, rfl⟩
      | exact ⟨ret_bool (by simp; omega), rfl⟩
theorem goodTo_succ (s : ByteArray) (k : Nat) (h : k < s.size) : goodTo (bytesOf s) (k + 1) = (goodTo (bytesOf s) k && goodN s[k].toNat) := by
  unfold goodTo
  rw [take_snoc _ _ _ (bytesOf_get s k h), List.all_append]
  simp
theorem goodTo_false (s : ByteArray) (k : Nat) (h : k < s.size) (hg : goodN s[k].toNat = false) : goodTo (bytesOf s) s.size = false := by
  unfold goodTo
  rw [List.all_eq_false]
  refine ⟨s[k].toBitVec, ?_, ?_⟩
  · rw [List.take_of_length_le (by rw [bytesOf_length]; omega)]
    exact List.mem_of_getElem? (bytesOf_get s k h)
  · show ¬ goodN s[k].toNat = true
    rw [hg]; simp
theorem ref_verifier (s : ByteArray) (w : World) (hs : s.size ≤ maxLen) :
    Calls Tryd.prog 24 #[.string s] w fun e w' => e = .returned (.bool (verifies s)) ∧ w = w' := by
  unfold maxLen at hs
  by_cases h1 : s.size < 43
  · have hv : verifies s = false := by unfold verifies; simp; omega
    rw [hv]
    clear hv
    go_enter Tryd.func24, Tryd.ntmps24
    go_wp2
    go_ret
    exact ⟨rfl, rfl⟩
  · by_cases h2 : 128 < s.size
    · have hv : verifies s = false := by unfold verifies; simp; omega
      rw [hv]
      clear hv
      go_enter Tryd.func24, Tryd.ntmps24
      go_wp2
      go_ret
      exact ⟨rfl, rfl⟩
    · have hv : verifies s = goodTo (bytesOf s) s.size := by unfold verifies; rw [decide_eq_true (by omega)]; rfl
      rw [hv]
      clear hv
      go_enter Tryd.func24, Tryd.ntmps24
      go_wp2
      go_loop [3, 4] (fun i _ => ∃ k : Nat, k ≤ s.size ∧ i = .int .i64 k ∧ goodTo (bytesOf s) k = true) (fun i _ => s.size - (intOf i).toNat)
      case atStart => exact ⟨0, Nat.zero_le _, rfl, rfl⟩
      case round =>
        obtain ⟨k, hk, rfl, hg⟩ := hrel
        by_cases hlt : k < s.size
        · have hS := goodTo_succ s k hlt
          rw [hg, Bool.true_and] at hS
          have HS := Lib.hid hS
          have HF := Lib.hid (goodTo_false s k hlt)
          have hb := s[k].toNat_lt
          clear hS hg
          cases hgb : goodN s[k].toNat
          · have HV := Lib.hid (HF.out hgb)
            go_wp2_with (go_at_call 41; (with_reducible refine (unreserved_any s[k].toNat _ hb).mono ?_); rintro e w' ⟨rfl, rfl⟩; rw [hgb])
            go_ret
            exact ⟨by rw [HV.out]; rfl, rfl⟩
          · go_wp2_with (go_at_call 41; (with_reducible refine (unreserved_any s[k].toNat _ hb).mono ?_); rintro e w' ⟨rfl, rfl⟩; rw [hgb])
            go_round
            case rel => exact ⟨k + 1, by omega, by go_num, by rw [HS.out, hgb]⟩
            case measure => simp [intOf]; omega
        · obtain rfl : k = s.size := by omega
          have HG := Lib.hid hg
          clear hg
          go_wp2
          go_ret
          exact ⟨by rw [HG.out]; rfl, rfl⟩
theorem tab_bit (b : Nat) (hb : b < 256) : ∃ (i j : Nat) (t : BitVec 32), i < 8 ∧ j < 32 ∧ (b : Int) / 32 = (i : Int) ∧ bits BinOp.and IntKind.u8 (b : Int) 31 = (j : Int) ∧ t = UPkce.tab[i]! ∧ bits BinOp.and IntKind.u32 ((t.toNat : Int) / 2 ^ j) 1 = (if goodN b then 1 else 0) := by
  refine ⟨b / 32, b % 32, _, by omega, by omega, by omega, ?_, rfl, ?_⟩
  · have h8 : bits BinOp.and IntKind.u8 (b : Int) 31 = (((BitVec.ofNat 8 b) &&& BitVec.ofInt 8 31).toNat : Int) := by
      have e : (b : Int) = ((BitVec.ofNat 8 b).toNat : Int) := by rw [BitVec.toNat_ofNat]; omega
      unfold bits
      show IntKind.u8.wrap _ = _
      rw [show IntKind.u8.bits = 8 from rfl, e, Bv.ofInt_toNat, Bv.wrap_u8, Nat.mod_eq_of_lt (BitVec.isLt _)]
    rw [h8, BitVec.toNat_and, BitVec.toNat_ofNat, Nat.mod_eq_of_lt (by omega : b < 2 ^ 8), show (BitVec.ofInt 8 31).toNat = 2 ^ 5 - 1 from rfl, Nat.and_two_pow_sub_one_eq_mod]
  · rw [Bv.shr32, Bv.and32]
    have := UPkce.bit_of ⟨b, hb⟩
    rw [show BitVec.ofInt 32 1 = 1#32 from rfl, this]
    show ((if goodN b = true then 1#32 else 0#32).toNat : Int) = _
    split <;> rfl
set_option maxHeartbeats 1000000 in
theorem verifier_any (s : ByteArray) (w : World) (hs : s.size ≤ maxLen) (ht : PkceTab w) :
    Calls Tryd.prog 25 #[.string s] w fun e w' => e = .returned (.bool (verifies s)) ∧ Below w.heap.size w w' := by
  unfold maxLen at hs
  by_cases h1 : s.size < 43
  · have hv : verifies s = false := by unfold verifies; simp; omega
    rw [hv]
    clear hv
    go_enter Tryd.func25, Tryd.ntmps25
    go_wp2
    go_ret
    exact ⟨rfl, Below.refl _ _⟩
  · by_cases h2 : 128 < s.size
    · have hv : verifies s = false := by unfold verifies; simp; omega
      rw [hv]
      clear hv
      go_enter Tryd.func25, Tryd.ntmps25
      go_wp2
      go_ret
      exact ⟨rfl, Below.refl _ _⟩
    · have hv : verifies s = goodTo (bytesOf s) s.size := by unfold verifies; rw [decide_eq_true (by omega)]; rfl
      rw [hv]
      clear hv
      have HT := Lib.hid ht
      clear ht
      go_enter Tryd.func25, Tryd.ntmps25
      go_wp2
      go_loopw [3, 14] (fun _ i wr => ∃ k : Nat, k ≤ s.size ∧ i = .int .i64 k ∧ goodTo (bytesOf s) k = true ∧ Below w.heap.size w wr) (fun _ i _ => s.size - (intOf i).toNat)
      case atStart => exact ⟨0, Nat.zero_le _, rfl, rfl, Below.refl _ _⟩
      case round =>
        obtain ⟨k, hk, rfl, hg, hbe⟩ := hrel
        by_cases hlt : k < s.size
        · have hS := goodTo_succ s k hlt
          rw [hg, Bool.true_and] at hS
          have HS := Lib.hid hS
          have HF := Lib.hid (goodTo_false s k hlt)
          clear hS hg
          obtain ⟨i, j, t, hi, hj, e1, e2, e3, e4⟩ := tab_bit s[k].toNat s[k].toNat_lt
          have hc := cell_below (HT.out i hi) hbe
          rw [← e3] at hc
          clear e3
          have i0 : (0 : Int) ≤ i := by omega
          have i1 : (i : Int) < 8 := by omega
          have j0 : (0 : Int) ≤ j := by omega
          have j1 : (j : Int) < 32 := by omega
          have k0 : (0 : Int) ≤ k := by omega
          have k1 : (k : Int) < s.size := by omega
          have hsg : IntKind.u8.signed = false := rfl
          have hsg2 : IntKind.u32.signed = false := rfl
          cases hgb : goodN s[k].toNat
          · have HV := Lib.hid (HF.out hgb)
            rw [hgb] at e4
            clear hgb
            simp only [if_false, Bool.false_eq_true] at e4
            go_wp2
            refine wp_region_still_lit (by kernel_rfl) (by kernel_rfl) ?_
            repeat still_step
            refine wpStill_nil ?_
            change Exit.then _ _ _ _ wr.drew
            have hbd := hbe.drew
            generalize wr.drew = wd at *
            clear e1 e2 e4 hc
            go_wp2
            go_ret
            exact ⟨by rw [HV.out]; rfl, hbd⟩
          · rw [hgb] at e4 HS
            clear hgb
            simp only [if_true] at e4
            go_wp2
            refine wp_region_still_lit (by kernel_rfl) (by kernel_rfl) ?_
            repeat still_step
            refine wpStill_nil ?_
            change Exit.then _ _ _ _ wr.drew
            have hbd := hbe.drew
            generalize wr.drew = wd at *
            clear e1 e2 e4 hc
            go_wp2
            go_roundw
            case rel => exact ⟨k + 1, by omega, by go_num, HS.out, hbd⟩
            case measure => simp [intOf]; omega
        · obtain rfl : k = s.size := by omega
          have HG := Lib.hid hg
          clear hg
          go_wp2
          go_ret
          exact ⟨by rw [HG.out]; rfl, hbe⟩
end Go.Proofs.YtmkifaddfnodhaaDoor
