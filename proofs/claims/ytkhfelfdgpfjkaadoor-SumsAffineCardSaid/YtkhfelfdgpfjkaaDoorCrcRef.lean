/- The reference's check sum, walked: it is the register run over the bytes. -/
import Derived.Test.YtkhfelfdgpfjkaaDoorProg
import Derived.Test.YtkhfelfdgpfjkaaDoorCrc
import Derived.Test.YtkhfelfdgpfjkaaDoorBv
import Derived.WalkKit
import Derived.BigQuiet
import Derived.Lib.Hide
namespace Go.Proofs.YtkhfelfdgpfjkaaDoor
open Go.RowKit
def u32 (x : BitVec 32) : Value := .int .u32 (x.toNat : Int)
def bytesOf (s : ByteArray) : List (BitVec 8) := s.data.toList.map UInt8.toBitVec
theorem bytesOf_get (s : ByteArray) (k : Nat) (h : k < s.size) : (bytesOf s)[k]? = some s[k].toBitVec := by
  unfold bytesOf
  rw [List.getElem?_map, Array.getElem?_toList, show s.data[k]? = some s[k] from Array.getElem?_eq_getElem h]; rfl
theorem bytesOf_length (s : ByteArray) : (bytesOf s).length = s.size := by simp [bytesOf]
theorem take_snoc {α : Type} (l : List α) (k : Nat) (x : α) (h : l[k]? = some x) : l.take (k + 1) = l.take k ++ [x] := by
  rw [List.take_add_one, h]; rfl
theorem run_snoc (r : BitVec 32) (s : ByteArray) (k : Nat) (h : k < s.size) : UCrc.run r ((bytesOf s).take (k + 1)) = (UCrc.bits8 s[k].toBitVec).foldl UCrc.bitStep (UCrc.run r ((bytesOf s).take k)) := by
  rw [take_snoc _ _ _ (bytesOf_get s k h)]
  unfold UCrc.run
  rw [List.foldl_append, List.foldl_cons, List.foldl_nil, UCrc.byteStep_bits]
theorem bits8_snoc (R : BitVec 32) (b : BitVec 8) (j : Nat) (h : j < 8) : ((UCrc.bits8 b).take (j + 1)).foldl UCrc.bitStep R = UCrc.bitStep (((UCrc.bits8 b).take j).foldl UCrc.bitStep R) (b.getLsbD j) := by
  have e : (UCrc.bits8 b)[j]? = some (b.getLsbD j) := by
    have := UCrc.bits8_get b j
    rw [List.getD_eq_getElem?_getD, List.getElem?_eq_getElem (by simpa [UCrc.bits8] using h)] at this
    rw [List.getElem?_eq_getElem (by simpa [UCrc.bits8] using h)]
    simpa using this
  rw [take_snoc _ _ _ e, List.foldl_append]; rfl
theorem bit_test (Q : BitVec 32) (b : UInt8) (j : Nat) (h : j < 8) : (bits BinOp.and IntKind.u32 (Q.toNat : Int) 1 != bits BinOp.and IntKind.u32 ((b.toNat : Int) % 4294967296 / 2 ^ j) 1) = (Q.getLsbD 0 != b.toBitVec.getLsbD j) := by
  rw [Bv.byte32, Bv.shr32, Bv.bits1, Bv.bits1]
  have e : (BitVec.setWidth 32 b.toBitVec >>> j).getLsbD 0 = b.toBitVec.getLsbD j := by
    rw [BitVec.getLsbD_ushiftRight, BitVec.getLsbD_setWidth]; simp; omega
  rw [e]
  cases Q.getLsbD 0 <;> cases b.toBitVec.getLsbD j <;> rfl
theorem xor1_shr (Q : BitVec 32) : (Q ^^^ 1#32) >>> 1 = Q >>> 1 := by
  rw [BitVec.ushiftRight_xor_distrib, show (1#32 : BitVec 32) >>> 1 = 0#32 from rfl, BitVec.xor_zero]
theorem bit_no (Q : BitVec 32) (c : Bool) (h : (Q.getLsbD 0 != c) = false) : (Q.toNat : Int) / 2 = ((UCrc.bitStep Q c).toNat : Int) := by
  have e : (Q.toNat : Int) / (2 : Int) = ((Q >>> 1).toNat : Int) := by rw [← Bv.shr32]; rfl
  rw [e]; congr 2
  have : c = Q.getLsbD 0 := by cases c <;> cases hq : Q.getLsbD 0 <;> simp_all
  subst this
  unfold UCrc.bitStep
  rw [UCrc.step_hi]
  · cases hq : Q.getLsbD 0 <;> simp [UCrc.bitW, xor1_shr]
  · cases hq : Q.getLsbD 0 <;> rw [BitVec.getLsbD_xor, hq] <;> rfl
theorem bit_yes (Q : BitVec 32) (c : Bool) (h : (Q.getLsbD 0 != c) = true) : bits BinOp.xor IntKind.u32 ((Q.toNat : Int) / 2) 3988292384 = ((UCrc.bitStep Q c).toNat : Int) := by
  have e : (Q.toNat : Int) / (2 : Int) = ((Q >>> 1).toNat : Int) := by rw [← Bv.shr32]; rfl
  rw [e, Bv.xor32]; congr 2
  have : c = !Q.getLsbD 0 := by cases c <;> cases hq : Q.getLsbD 0 <;> simp_all
  subst this
  unfold UCrc.bitStep UCrc.step
  have h0 : (Q ^^^ UCrc.bitW (!Q.getLsbD 0)).getLsbD 0 = true := by
    cases hq : Q.getLsbD 0 <;> rw [BitVec.getLsbD_xor, hq] <;> rfl
  rw [h0]
  congr 1
  cases hq : Q.getLsbD 0 <;> simp [UCrc.bitW, xor1_shr]
set_option maxHeartbeats 400000 in
theorem taken_any (r : BitVec 32) (s : ByteArray) (w : World) (hs : s.size ≤ maxLen) :
    Calls Tryd.prog 32 #[.int .u32 r.toNat, .string s] w fun e w' => e = .returned (.int .u32 (UCrc.run r (bytesOf s)).toNat) ∧ w = w' := by
  unfold maxLen at hs
  go_enter Tryd.func32, Tryd.ntmps32
  go_wp2
  go_loop [0, 5] (fun g i => ∃ k : Nat, k ≤ s.size ∧ i = .int .i64 k ∧ g = .int .u32 (UCrc.run r ((bytesOf s).take k)).toNat) (fun _ i => s.size - (intOf i).toNat)
  case atStart => exact ⟨0, Nat.zero_le _, rfl, rfl⟩
  case round =>
    obtain ⟨k, hk, rfl, rfl⟩ := hrel
    by_cases hlt : k < s.size
    · have HS := Lib.hid (run_snoc r s k hlt)
      generalize UCrc.run r ((bytesOf s).take k) = R at *
      go_wp2
      go_loop [0, 7] (fun g i => ∃ j : Nat, j ≤ 8 ∧ i = .int .i64 j ∧ g = .int .u32 (((UCrc.bits8 s[k].toBitVec).take j).foldl UCrc.bitStep R).toNat) (fun _ i => 8 - (intOf i).toNat)
      case atStart => exact ⟨0, by omega, rfl, rfl⟩
      case round =>
        obtain ⟨j, hj, rfl, rfl⟩ := hrel
        by_cases hj8 : j < 8
        · have HJ := Lib.hid (bits8_snoc R s[k].toBitVec j hj8)
          generalize (((UCrc.bits8 s[k].toBitVec).take j).foldl UCrc.bitStep R) = Q at *
          have ht := bit_test Q s[k] j hj8
          cases hb : (Q.getLsbD 0 != s[k].toBitVec.getLsbD j)
          · have hr := Lib.hid (bit_no Q _ hb)
            rw [hb] at ht
            clear hb
            go_wp2
            go_round
            case rel => exact ⟨j + 1, by omega, by go_num, by rw [HJ.out, ← hr.out]⟩
            case measure => simp [intOf]; omega
          · have hr := Lib.hid (bit_yes Q _ hb)
            rw [hb] at ht
            clear hb
            go_wp2
            go_round
            case rel => exact ⟨j + 1, by omega, by go_num, by rw [HJ.out, ← hr.out]⟩
            case measure => simp [intOf]; omega
        · obtain rfl : j = 8 := by omega
          rw [show (UCrc.bits8 s[k].toBitVec).take 8 = UCrc.bits8 s[k].toBitVec from rfl, ← HS.out]
          go_wp2
          go_round
          case rel => exact ⟨k + 1, by omega, by go_num, rfl⟩
          case measure => simp [intOf]; omega
    · obtain rfl : k = s.size := by omega
      rw [List.take_of_length_le (by rw [bytesOf_length]; omega)]
      go_wp2
      go_ret
      exact ⟨rfl, rfl⟩
end Go.Proofs.YtkhfelfdgpfjkaaDoor
