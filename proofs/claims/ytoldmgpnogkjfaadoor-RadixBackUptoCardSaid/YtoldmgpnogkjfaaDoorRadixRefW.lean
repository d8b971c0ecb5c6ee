/- The reference's writers, walked: hexadecimal, base64url, base64. -/
import Derived.Test.YtoldmgpnogkjfaaDoorRadixLetters
namespace Go.Proofs.YtoldmgpnogkjfaaDoor
open Go.RowKit
theorem grps_enc (p : List (BitVec 8)) : grps (URadix.bitsOf 8 (URadix.nums p)) 6 = URadix.enc p := by
  unfold grps URadix.enc
  rw [URadix.bitsOf_length, show (URadix.nums p).length = p.length by simp [URadix.nums], show 8 * p.length + 6 - 1 = 8 * p.length + 5 by omega]
  exact List.map_congr_left fun j _ => URadix.grp_enc p j
theorem grps_hex (p : List (BitVec 8)) : grps (URadix.bitsOf 8 (URadix.nums p)) 4 = URadix.hex p := by
  unfold grps URadix.hex
  rw [URadix.bitsOf_length, show (URadix.nums p).length = p.length by simp [URadix.nums], show (8 * p.length + 4 - 1) / 4 = 2 * p.length by omega]
  exact List.map_congr_left fun j _ => URadix.grp_hex p j
def urlS : ByteArray := ⟨#[65, 66, 67, 68, 69, 70, 71, 72, 73, 74, 75, 76, 77, 78, 79, 80, 81, 82, 83, 84, 85, 86, 87, 88, 89, 90, 97, 98, 99, 100, 101, 102, 103, 104, 105, 106, 107, 108, 109, 110, 111, 112, 113, 114, 115, 116, 117, 118, 119, 120, 121, 122, 48, 49, 50, 51, 52, 53, 54, 55, 56, 57, 45, 95]⟩
def stdS : ByteArray := ⟨#[65, 66, 67, 68, 69, 70, 71, 72, 73, 74, 75, 76, 77, 78, 79, 80, 81, 82, 83, 84, 85, 86, 87, 88, 89, 90, 97, 98, 99, 100, 101, 102, 103, 104, 105, 106, 107, 108, 109, 110, 111, 112, 113, 114, 115, 116, 117, 118, 119, 120, 121, 122, 48, 49, 50, 51, 52, 53, 54, 55, 56, 57, 43, 47]⟩
def hexS : ByteArray := ⟨#[48, 49, 50, 51, 52, 53, 54, 55, 56, 57, 97, 98, 99, 100, 101, 102]⟩
theorem urlS_b : bytesOf urlS = URadix.urlA := by decide +kernel
theorem stdS_b : bytesOf stdS = URadix.stdA := by decide +kernel
theorem hexS_b : bytesOf hexS = URadix.hexA := by decide +kernel
theorem bits_le (s : ByteArray) (i : Nat) : (URadix.bitsOf 8 (URadix.nums (bytesOf s))).getD i 0 ≤ 1 := URadix.bitsOf_le 8 (by omega) _ i
theorem bits_len (s : ByteArray) (hs : s.size ≤ 16777216) : (URadix.bitsOf 8 (URadix.nums (bytesOf s))).length ≤ 268435456 := by
  rw [URadix.bitsOf_length, nums_length]; omega
theorem wr_bits (al : ByteArray) (s : ByteArray) : URadix.spell (bytesOf al) (grps (URadix.bitsOf 8 (URadix.nums (bytesOf s))) 6) = URadix.wr (bytesOf al) (bytesOf s) := by rw [grps_enc]; rfl

theorem refUrl_any (s : ByteArray) (w : World) (hs : s.size ≤ 16777216) :
    Calls Tryd.prog 33 #[.string s] w fun e w' => e = .returned (.string (strOf (URadix.wr URadix.urlA (bytesOf s)))) ∧ Below w.heap.size w w' := by
  have HB := Lib.hid (bits_any s w hs)
  have hs2 := hs
  have HS := Lib.hid hs
  go_enter Tryd.func33, Tryd.ntmps33
  go_wp2_with (go_at_call 27; (with_reducible refine HB.out.mono ?_); rintro e w1 ⟨v, rfl, hown, hb1⟩)
  have HL : Hid (Calls Tryd.prog 28 #[v, .int .i64 6, .string ⟨#[65, 66, 67, 68, 69, 70, 71, 72, 73, 74, 75, 76, 77, 78, 79, 80, 81, 82, 83, 84, 85, 86, 87, 88, 89, 90, 97, 98, 99, 100, 101, 102, 103, 104, 105, 106, 107, 108, 109, 110, 111, 112, 113, 114, 115, 116, 117, 118, 119, 120, 121, 122, 48, 49, 50, 51, 52, 53, 54, 55, 56, 57, 45, 95]⟩] w1 fun e w' => e = .returned (.string (strOf (URadix.wr URadix.urlA (bytesOf s)))) ∧ Below w1.heap.size w1 w') := by
    have h := letters_any v (URadix.bitsOf 8 (URadix.nums (bytesOf s))) 6 urlS w1 (IntRow.own hown) (by omega) (by omega) (bits_len s hs2) (bits_le s) rfl
    rw [wr_bits, urlS_b] at h
    exact Lib.hid h
  clear hown
  generalize hS : strOf (URadix.wr URadix.urlA (bytesOf s)) = S at *
  have HSS := Lib.hid hS
  clear hS
  go_wp2_with (go_at_call 28; (with_reducible refine HL.out.mono ?_); rintro e w2 ⟨rfl, hb2⟩)
  go_ret
  exact ⟨by rw [HSS.out]; rfl, hb1.trans (hb2.mono hb1.size)⟩

theorem strOf_append (a b : List (BitVec 8)) : strOf (a ++ b) = strOf a ++ strOf b := by
  apply bytesOf_inj
  rw [bytesOf_append, bytesOf_strOf, bytesOf_strOf, bytesOf_strOf]
theorem std_str (p : List (BitVec 8)) : strOf (URadix.std p) = strOf (URadix.wr URadix.stdA p) ++ strOf (List.replicate (URadix.padN (URadix.wr URadix.stdA p).length) 61#8) := by
  unfold URadix.std; rw [strOf_append]
theorem refStd_any (s : ByteArray) (w : World) (hs : s.size ≤ 16777216) :
    Calls Tryd.prog 35 #[.string s] w fun e w' => e = .returned (.string (strOf (URadix.std (bytesOf s)))) ∧ Below w.heap.size w w' := by
  have HB := Lib.hid (bits_any s w hs)
  have hs2 := hs
  go_enter Tryd.func35, Tryd.ntmps35
  go_wp2_with (go_at_call 27; (with_reducible refine HB.out.mono ?_); rintro e w1 ⟨v, rfl, hown, hb1⟩)
  have HL : Hid (Calls Tryd.prog 28 #[v, .int .i64 6, .string ⟨#[65, 66, 67, 68, 69, 70, 71, 72, 73, 74, 75, 76, 77, 78, 79, 80, 81, 82, 83, 84, 85, 86, 87, 88, 89, 90, 97, 98, 99, 100, 101, 102, 103, 104, 105, 106, 107, 108, 109, 110, 111, 112, 113, 114, 115, 116, 117, 118, 119, 120, 121, 122, 48, 49, 50, 51, 52, 53, 54, 55, 56, 57, 43, 47]⟩] w1 fun e w' => e = .returned (.string (strOf (URadix.wr URadix.stdA (bytesOf s)))) ∧ Below w1.heap.size w1 w') := by
    have h := letters_any v (URadix.bitsOf 8 (URadix.nums (bytesOf s))) 6 stdS w1 (IntRow.own hown) (by omega) (by omega) (bits_len s hs2) (bits_le s) rfl
    rw [wr_bits, stdS_b] at h
    exact Lib.hid h
  clear hown
  have HST := Lib.hid (std_str (bytesOf s))
  have hmod := URadix.wr_mod URadix.stdA (bytesOf s)
  have hlen := URadix.wr_length URadix.stdA (bytesOf s)
  rw [bytesOf_length] at hlen
  have hsz := strOf_size (URadix.wr URadix.stdA (bytesOf s))
  obtain ⟨m, hm⟩ : ∃ m, m = (URadix.wr URadix.stdA (bytesOf s)).length := ⟨_, rfl⟩
  rw [← hm] at HST hmod hlen hsz
  generalize strOf (URadix.wr URadix.stdA (bytesOf s)) = S at *
  generalize hR : strOf (URadix.std (bytesOf s)) = R at *
  have HR := Lib.hid hR
  have hS1 : S.size ≤ 33554432 := by omega
  have HMM := Lib.hid hsz
  have hc : S.size % 4 = 0 ∨ S.size % 4 = 2 ∨ S.size % 4 = 3 := by omega
  clear hm hlen hsz hmod hR
  rcases hc with hc | hc | hc
  · have HE : Hid (R = S) := Lib.hid (by
      rw [HST.out, ← HMM.out, show URadix.padN S.size = 0 by unfold URadix.padN; omega]
      show S ++ ByteArray.empty = S
      simp)
    have t2 : ((S.size : Int) % 4 == 2) = false := by rw [← Bool.not_eq_true, beq_iff_eq]; omega
    have t3 : ((S.size : Int) % 4 == 3) = false := by rw [← Bool.not_eq_true, beq_iff_eq]; omega
    clear hc
    go_wp2_with (go_at_call 28; (with_reducible refine HL.out.mono ?_); rintro e w2 ⟨rfl, hb2⟩)
    go_ret
    exact ⟨by rw [HR.out, HE.out]; rfl, hb1.trans (hb2.mono hb1.size)⟩
  · have HE : Hid (R = S ++ ⟨#[61, 61]⟩) := Lib.hid (by
      rw [HST.out, ← HMM.out, show URadix.padN S.size = 2 by unfold URadix.padN; omega]; rfl)
    have t2 : ((S.size : Int) % 4 == 2) = true := by rw [beq_iff_eq]; omega
    clear hc
    go_wp2_with (go_at_call 28; (with_reducible refine HL.out.mono ?_); rintro e w2 ⟨rfl, hb2⟩)
    go_ret
    exact ⟨by rw [HR.out, HE.out]; rfl, hb1.trans (hb2.mono hb1.size)⟩
  · have HE : Hid (R = S ++ ⟨#[61]⟩) := Lib.hid (by
      rw [HST.out, ← HMM.out, show URadix.padN S.size = 1 by unfold URadix.padN; omega]; rfl)
    have t2 : ((S.size : Int) % 4 == 2) = false := by rw [← Bool.not_eq_true, beq_iff_eq]; omega
    have t3 : ((S.size : Int) % 4 == 3) = true := by rw [beq_iff_eq]; omega
    clear hc
    go_wp2_with (go_at_call 28; (with_reducible refine HL.out.mono ?_); rintro e w2 ⟨rfl, hb2⟩)
    go_ret
    exact ⟨by rw [HR.out, HE.out]; rfl, hb1.trans (hb2.mono hb1.size)⟩
end Go.Proofs.YtoldmgpnogkjfaaDoor
