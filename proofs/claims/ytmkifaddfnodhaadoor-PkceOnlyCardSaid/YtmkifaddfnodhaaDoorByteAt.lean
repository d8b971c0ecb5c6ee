/- A byte of the padded text, as the reference asks for it. -/
import Derived.Test.YtmkifaddfnodhaaDoorBase
import Derived.Test.YtmkifaddfnodhaaDoorRot
namespace Go.Proofs.YtmkifaddfnodhaaDoor
open Go.RowKit
theorem bytesOf_getD (s : ByteArray) (k : Nat) (h : k < s.size) : (bytesOf s).getD k 0#8 = s[k].toBitVec := by
  rw [List.getD_eq_getElem?_getD, bytesOf_get s k h]; rfl
theorem len_byte (n j : Nat) (hn : 8 * n < 18446744073709551616) : bits BinOp.and IntKind.u64 ((n : Int) * 8 / 2 ^ j) 255 % 4294967296 = ((((BitVec.ofNat 64 (8 * n)) >>> j).setWidth 8 : BitVec 8).toNat : Int) := by
  have e : ((n : Int) * 8 / 2 ^ j) = ((8 * n / 2 ^ j : Nat) : Int) := by rw [Int.mul_comm]; simp
  have hlt : 8 * n / 2 ^ j < 18446744073709551616 := Nat.lt_of_le_of_lt (Nat.div_le_self _ _) hn
  rw [e]
  rw [show (255 : Int) = ((255 : Nat) : Int) from rfl, u64_and_nat _ _ hlt (by omega)]
  rw [BitVec.toNat_setWidth, BitVec.toNat_ushiftRight, BitVec.toNat_ofNat, Nat.mod_eq_of_lt (by omega : 8 * n < 2 ^ 64), Nat.shiftRight_eq_div_pow]
  rw [show (255 : Nat) = 2 ^ 8 - 1 from rfl, Nat.and_two_pow_sub_one_eq_mod]
  omega
set_option maxHeartbeats 400000 in
theorem byteAt_any (s : ByteArray) (i : Int) (w : World) (hs : s.size ≤ 281474976710656) (h0 : 0 ≤ i) (h1 : i < (USha.whole s.size : Int)) :
    Calls Tryd.prog 55 #[.string s, .int .i64 (USha.whole s.size), .int .i64 i] w fun e w' => e = .returned (.int .u32 (USha.padAt (bytesOf s) i.toNat).toNat) ∧ w = w' := by
  have hw : USha.whole s.size ≤ s.size + 128 ∧ s.size + 9 ≤ USha.whole s.size := by unfold USha.whole; omega
  obtain ⟨hw1, hw2⟩ := hw
  have hpad : USha.padAt (bytesOf s) i.toNat = if i.toNat < s.size then (bytesOf s).getD i.toNat 0#8 else if i.toNat = s.size then 0x80#8 else if i.toNat < USha.whole s.size - 8 then 0#8 else ((BitVec.ofNat 64 (8 * s.size)) >>> (8 * (USha.whole s.size - 1 - i.toNat))).setWidth 8 := by
    unfold USha.padAt; rw [bytesOf_length]; rfl
  have HP := Lib.hid hpad
  clear hpad
  obtain ⟨k, rfl⟩ := Int.eq_ofNat_of_zero_le h0
  simp only [Int.toNat_natCast] at HP ⊢
  generalize USha.whole s.size = wh at *
  by_cases c1 : k < s.size
  · have HB := Lib.hid (bytesOf_getD s k c1)
    go_enter Tryd.func55, Tryd.ntmps55
    go_wp2
    go_ret
    exact ⟨by rw [HP.out, if_pos c1, HB.out]; exact ret_u32 (by have := s[k].toNat_lt; show (s[k].toNat : Int) % 4294967296 = (s[k].toNat : Int); omega), rfl⟩
  · by_cases c2 : k = s.size
    · go_enter Tryd.func55, Tryd.ntmps55
      go_wp2
      go_ret
      exact ⟨by rw [HP.out, if_neg c1, if_pos c2]; rfl, rfl⟩
    · by_cases c3 : k < wh - 8
      · go_enter Tryd.func55, Tryd.ntmps55
        go_wp2
        go_ret
        exact ⟨by rw [HP.out, if_neg c1, if_neg c2, if_pos c3]; rfl, rfl⟩
      · have HL := Lib.hid (len_byte s.size (8 * (wh - 1 - k)) (by omega))
        go_enter Tryd.func55, Tryd.ntmps55
        go_wp2
        go_ret
        exact ⟨by rw [HP.out, if_neg c1, if_neg c2, if_neg c3]; exact ret_u32 HL.out, rfl⟩
end Go.Proofs.YtmkifaddfnodhaaDoor
