/- The program's base64url and base64, walked. -/
import Derived.Test.YtoldmgpnogkjfaaDoorRadixWrite
import Derived.Test.YtoldmgpnogkjfaaDoorRadixRefW
namespace Go.Proofs.YtoldmgpnogkjfaaDoor
open Go.RowKit
theorem url_prog (p : ByteArray) (w : World) (hp : p.size ≤ 16777216) :
    Calls Tryd.prog 21 #[.string p] w fun e w' => e = .returned (.string (strOf (URadix.wr URadix.urlA (bytesOf p)))) ∧ Below w.heap.size w w' := by
  have HW : Hid (Calls Tryd.prog 36 #[.string ⟨#[65, 66, 67, 68, 69, 70, 71, 72, 73, 74, 75, 76, 77, 78, 79, 80, 81, 82, 83, 84, 85, 86, 87, 88, 89, 90, 97, 98, 99, 100, 101, 102, 103, 104, 105, 106, 107, 108, 109, 110, 111, 112, 113, 114, 115, 116, 117, 118, 119, 120, 121, 122, 48, 49, 50, 51, 52, 53, 54, 55, 56, 57, 45, 95]⟩, .string p] w fun e w' => e = .returned (.string (strOf (URadix.wr URadix.urlA (bytesOf p)))) ∧ Below w.heap.size w w') := by
    have h := write_any urlS p w rfl hp
    rw [urlS_b] at h
    exact Lib.hid h
  generalize hS : strOf (URadix.wr URadix.urlA (bytesOf p)) = S at *
  have HS := Lib.hid hS
  clear hS
  go_enter Tryd.func21, Tryd.ntmps21
  go_wp2_with (go_at_call 36; (with_reducible refine HW.out.mono ?_); rintro e w1 ⟨rfl, hb1⟩)
  go_ret
  exact ⟨by first | rfl | (rw [HS.out]; rfl), hb1⟩
theorem std_prog (p : ByteArray) (w : World) (hp : p.size ≤ 16777216) :
    Calls Tryd.prog 22 #[.string p] w fun e w' => e = .returned (.string (strOf (URadix.std (bytesOf p)))) ∧ Below w.heap.size w w' := by
  have HW : Hid (Calls Tryd.prog 36 #[.string ⟨#[65, 66, 67, 68, 69, 70, 71, 72, 73, 74, 75, 76, 77, 78, 79, 80, 81, 82, 83, 84, 85, 86, 87, 88, 89, 90, 97, 98, 99, 100, 101, 102, 103, 104, 105, 106, 107, 108, 109, 110, 111, 112, 113, 114, 115, 116, 117, 118, 119, 120, 121, 122, 48, 49, 50, 51, 52, 53, 54, 55, 56, 57, 43, 47]⟩, .string p] w fun e w' => e = .returned (.string (strOf (URadix.wr URadix.stdA (bytesOf p)))) ∧ Below w.heap.size w w') := by
    have h := write_any stdS p w rfl hp
    rw [stdS_b] at h
    exact Lib.hid h
  have hlen := URadix.wr_length URadix.stdA (bytesOf p)
  rw [bytesOf_length] at hlen
  have HSTD : Hid (URadix.std (bytesOf p) = URadix.wr URadix.stdA (bytesOf p) ++ List.replicate (URadix.padN (URadix.wr URadix.stdA (bytesOf p)).length) 61#8) := Lib.hid rfl
  generalize URadix.wr URadix.stdA (bytesOf p) = L at *
  obtain ⟨m, hm⟩ : ∃ m, m = L.length := ⟨_, rfl⟩
  have HM := Lib.hid hm
  rw [← hm] at HSTD hlen
  have hm2 : m ≤ 33554432 := by omega
  have HB := Lib.hid (bytesOf_strOf L)
  generalize strOf L = S0 at *
  clear hm hlen
  go_enter Tryd.func22, Tryd.ntmps22
  go_wp2_with (go_at_call 36; (with_reducible refine HW.out.mono ?_); rintro e w1 ⟨rfl, hb1⟩)
  go_loop [3] (fun s => ∃ (T : ByteArray) (j : Nat), s = .string T ∧ j ≤ URadix.padN m ∧ Hid (bytesOf T = L ++ List.replicate j 61#8)) (fun s => match s with | .string T => m + 3 - T.size | _ => 0)
  case atStart => exact ⟨S0, 0, rfl, Nat.zero_le _, Lib.hid (by simpa using HB.out)⟩
  case round =>
    obtain ⟨T, j, rfl, hj, HT⟩ := hrel
    have hTs : T.size = m + j := by rw [← bytesOf_length, HT.out, List.length_append, List.length_replicate, HM.out]
    have hpad : URadix.padN m ≤ 3 := by unfold URadix.padN; omega
    by_cases hlt : j < URadix.padN m
    · have hq0 : T.size % 4 ≠ 0 := by rw [hTs]; unfold URadix.padN at hlt; omega
      have hq : ((T.size : Int) % 4 == 0) = false := by rw [← Bool.not_eq_true, beq_iff_eq]; omega
      have HT2 : Hid (bytesOf (T ++ ⟨#[61]⟩) = L ++ List.replicate (j + 1) 61#8) := Lib.hid (by
        rw [bytesOf_append, HT.out, List.append_assoc, List.replicate_succ']; rfl)
      have hT3 : T.size ≤ 33554436 := by omega
      have HTS := Lib.hid hTs
      clear hTs hq0
      go_wp2
      go_round
      case rel => exact ⟨_, j + 1, rfl, hlt, HT2⟩
      case measure =>
        have := HTS.out
        have h1 : (T ++ (⟨#[61]⟩ : ByteArray)).size = T.size + 1 := by rw [ByteArray.size_append]; rfl
        have h2 : m + 3 - (T ++ (⟨#[61]⟩ : ByteArray)).size < m + 3 - T.size := by rw [h1]; omega
        exact h2
    · obtain rfl : j = URadix.padN m := by omega
      have hq0 : T.size % 4 = 0 := by rw [hTs]; unfold URadix.padN; omega
      have hq : ((T.size : Int) % 4 == 0) = true := by rw [beq_iff_eq]; omega
      have HF : Hid (strOf (URadix.std (bytesOf p)) = T) := Lib.hid (by
        rw [HSTD.out, ← HT.out, strOf_bytesOf])
      clear hTs hq0
      go_wp2
      go_ret
      exact ⟨by rw [HF.out]; rfl, hb1⟩
end Go.Proofs.YtoldmgpnogkjfaaDoor
