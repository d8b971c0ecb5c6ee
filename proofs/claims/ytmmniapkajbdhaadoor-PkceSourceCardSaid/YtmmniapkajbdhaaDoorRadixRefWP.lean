/- The reference's base64url, walked. -/
import Derived.Test.YtmmniapkajbdhaaDoorRadixLetters
namespace Go.Proofs.YtmmniapkajbdhaaDoor
open Go.RowKit
theorem grps_enc (p : List (BitVec 8)) : grps (URadix.bitsOf 8 (URadix.nums p)) 6 = URadix.enc p := by
  unfold grps URadix.enc
  rw [URadix.bitsOf_length, show (URadix.nums p).length = p.length by simp [URadix.nums], show 8 * p.length + 6 - 1 = 8 * p.length + 5 by omega]
  exact List.map_congr_left fun j _ => URadix.grp_enc p j
theorem grps_hex (p : List (BitVec 8)) : grps (URadix.bitsOf 8 (URadix.nums p)) 4 = URadix.hex p := by
  unfold grps URadix.hex
  rw [URadix.bitsOf_length, show (URadix.nums p).length = p.length by simp [URadix.nums], show (8 * p.length + 4 - 1) / 4 = 2 * p.length by omega]
  exact List.map_congr_left fun j _ => URadix.grp_hex p j
def urlS : ByteArray := ⟨#[65, 66, 67, 68, 69, 70, 71, 72, 73, 74, 75, 76, 77, 78, 79, 80, 81, 82, 83, 84, 85, 86, 87, 88, 89, 90, 97, 98, 99, 100, 101, 102, 103, 104, 105, 106, 107, 108, 109, 110, 111, 112, 113, 114, 115, 116, 117, 118, 119, 120, 121, 122, 48, 49, 50, 51, 52, 53, 54, 55, 56, 57, 45, 95]⟩
def stdS : ByteArray := ⟨#[65, 66, 67, 68, 69, 70, 71, 72, 73, 74, 75, 76, 77, 78, 79, 80, 81, 82, 83, 84, 85, 86, 87, 88, 89, 90, 97, 98, 99, 100, 101, 102, 103, 104, 105, 106, 107, 108, 109, 110, 111, 112, 113, 114, 115, 116, 117, 118, 119, 120, 121, 122, 48, 49, 50, 51, 52, 53, 54, 55, 56, 57, 43, 47]⟩
def hexS : ByteArray := ⟨#[48, 49, 50, 51, 52, 53, 54, 55, 56, 57, 97, 98, 99, 100, 101, 102]⟩
theorem urlS_b : bytesOf urlS = URadix.urlA := by decide +kernel
theorem stdS_b : bytesOf stdS = URadix.stdA := by decide +kernel
theorem hexS_b : bytesOf hexS = URadix.hexA := by decide +kernel
theorem bits_le (s : ByteArray) (i : Nat) : (URadix.bitsOf 8 (URadix.nums (bytesOf s))).getD i 0 ≤ 1 := URadix.bitsOf_le 8 (by omega) _ i
theorem bits_len (s : ByteArray) (hs : s.size ≤ 16777216) : (URadix.bitsOf 8 (URadix.nums (bytesOf s))).length ≤ 268435456 := by
  rw [URadix.bitsOf_length, nums_length]; omega
theorem wr_bits (al : ByteArray) (s : ByteArray) : URadix.spell (bytesOf al) (grps (URadix.bitsOf 8 (URadix.nums (bytesOf s))) 6) = URadix.wr (bytesOf al) (bytesOf s) := by rw [grps_enc]; rfl

theorem refUrl_any (s : ByteArray) (w : World) (hs : s.size ≤ 16777216) :
    Calls Tryd.prog 23 #[.string s] w fun e w' => e = .returned (.string (strOf (URadix.wr URadix.urlA (bytesOf s)))) ∧ Below w.heap.size w w' := by
  have HB := Lib.hid (bits_any s w hs)
  have hs2 := hs
  have HS := Lib.hid hs
  go_enter Tryd.func23, Tryd.ntmps23
  go_wp2_with (go_at_call 30; (with_reducible refine HB.out.mono ?_); rintro e w1 ⟨v, rfl, hown, hb1⟩)
  have HL : Hid (Calls Tryd.prog 31 #[v, .int .i64 6, .string ⟨#[65, 66, 67, 68, 69, 70, 71, 72, 73, 74, 75, 76, 77, 78, 79, 80, 81, 82, 83, 84, 85, 86, 87, 88, 89, 90, 97, 98, 99, 100, 101, 102, 103, 104, 105, 106, 107, 108, 109, 110, 111, 112, 113, 114, 115, 116, 117, 118, 119, 120, 121, 122, 48, 49, 50, 51, 52, 53, 54, 55, 56, 57, 45, 95]⟩] w1 fun e w' => e = .returned (.string (strOf (URadix.wr URadix.urlA (bytesOf s)))) ∧ Below w1.heap.size w1 w') := by
    have h := letters_any v (URadix.bitsOf 8 (URadix.nums (bytesOf s))) 6 urlS w1 (IntRow.own hown) (by omega) (by omega) (bits_len s hs2) (bits_le s) rfl
    rw [wr_bits, urlS_b] at h
    exact Lib.hid h
  clear hown
  generalize hS : strOf (URadix.wr URadix.urlA (bytesOf s)) = S at *
  have HSS := Lib.hid hS
  clear hS
  go_wp2_with (go_at_call 31; (with_reducible refine HL.out.mono ?_); rintro e w2 ⟨rfl, hb2⟩)
  go_ret
  exact ⟨by rw [HSS.out]; rfl, hb1.trans (hb2.mono hb1.size)⟩
end Go.Proofs.YtmmniapkajbdhaaDoor
