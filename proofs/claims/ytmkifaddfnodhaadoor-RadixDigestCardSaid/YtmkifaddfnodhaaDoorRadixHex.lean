/- Hexadecimal, the program's writer, walked. -/
import Derived.Test.YtmkifaddfnodhaaDoorRadixBld
import Derived.Test.YtmkifaddfnodhaaDoorRadixHexTab
import Derived.BigQuiet
namespace Go.Proofs.YtmkifaddfnodhaaDoor
open Go.RowKit
theorem hx_step (s : ByteArray) (k : Nat) (h : k < s.size) : (URadix.hx (bytesOf s)).take (2 * (k + 1)) = (URadix.hx (bytesOf s)).take (2 * k) ++ [URadix.hexA.getD (s[k].toNat / 16) 0#8] ++ [URadix.hexA.getD (s[k].toNat % 16) 0#8] := by
  have hl : k < (bytesOf s).length := by rw [bytesOf_length]; exact h
  rw [show 2 * (k + 1) = 2 * k + 2 by omega]
  apply take_snoc2
  · unfold URadix.hx
    rw [spell_at _ _ _ (by rw [URadix.hex_length]; omega), URadix.hex_getD _ _ (by omega)]
    unfold URadix.hexAt
    rw [if_pos (by omega), show 2 * k / 2 = k by omega, at'_bytes s k h]
  · unfold URadix.hx
    rw [spell_at _ _ _ (by rw [URadix.hex_length]; omega), URadix.hex_getD _ _ (by omega)]
    unfold URadix.hexAt
    rw [if_neg (by omega), show (2 * k + 1) / 2 = k by omega, at'_bytes s k h]
theorem hex_prog (s : ByteArray) (w : World) (hs : s.size ≤ 70368744177664) (ht : HexTab w) :
    Calls Tryd.prog 13 #[.string s] w fun e w' => e = .returned (.string (strOf (URadix.hx (bytesOf s)))) ∧ Below w.heap.size w w' := by
  have HT := Lib.hid ht
  clear ht
  go_enter Tryd.func13, Tryd.ntmps13
  go_wp2
  go_loopw [4, 7] (fun _ i wr => ∃ k : Nat, k ≤ s.size ∧ i = .int .i64 k ∧ Bld w.heap.size ((URadix.hx (bytesOf s)).take (2 * k)) wr ∧ Below w.heap.size w wr) (fun _ i _ => s.size - (intOf i).toNat)
  case atStart => exact ⟨0, Nat.zero_le _, rfl, Bld.new w, (Below.refl _ _).alloc (Nat.le_refl _) _⟩
  case round =>
    rename World => wr
    obtain ⟨k, hk, rfl, hB, hb⟩ := hrel
    have hlen : ((URadix.hx (bytesOf s)).take (2 * k)).length ≤ 2 * k := by rw [List.length_take]; omega
    by_cases hlt : k < s.size
    · have HS := Lib.hid (hx_step s k hlt)
      generalize (URadix.hx (bytesOf s)).take (2 * k) = l at *
      obtain ⟨x, hx⟩ : ∃ x, x = s[k].toNat := ⟨_, rfl⟩
      have hx256 : x < 256 := by rw [hx]; exact s[k].toNat_lt
      obtain ⟨i1, h1⟩ : ∃ i, i = x / 16 := ⟨_, rfl⟩
      obtain ⟨i2, h2⟩ : ∃ i, i = x % 16 := ⟨_, rfl⟩
      rw [← hx, ← h1, ← h2] at HS
      have e1 : (s[k].toNat : Int) / 16 = (i1 : Int) := by omega
      have e2 : bits BinOp.and IntKind.u8 (s[k].toNat : Int) 15 = (i2 : Int) := by rw [← hx, and15_8 x hx256, h2]
      have l1 : i1 < 16 := by omega
      have l2 : i2 < 16 := by omega
      have c1 := HT.out.below hb i1 l1
      have HD1 := Lib.hid (bld_write w.heap.size l (URadix.hexA.getD i1 0#8) wr hB (by omega) hb.size)
      have l1a : (0 : Int) ≤ (i1 : Int) := by omega
      have l1b : (i1 : Int) < 16 := by omega
      have l2a : (0 : Int) ≤ (i2 : Int) := by omega
      have l2b : (i2 : Int) < 16 := by omega
      have hl2 : (l ++ [URadix.hexA.getD i1 0#8]).length + 1 ≤ 140737488355328 := by rw [List.length_append]; simp; omega
      have HC2 : Hid (∀ w', Below w.heap.size w w' → w'.cell? ⟨1, i2, none⟩ = some (.int .u8 ((URadix.hexA.getD i2 0#8).toNat : Int))) := Lib.hid (fun w' h => HT.out.below h i2 l2)
      have HL2 := Lib.hid hl2
      clear hx h1 h2 hB hl2
      generalize URadix.hexA.getD i1 0#8 = d1 at *
      generalize URadix.hexA.getD i2 0#8 = d2 at *
      go_wp2_with (first
        | (go_at_call 32; (with_reducible refine HD1.out.mono ?_); rintro e w1 ⟨rfl, hB1, hb1⟩; have hb1' := hb.trans hb1; have c2 := HC2.out w1 hb1'; have HD2 := Lib.hid (bld_write w.heap.size (l ++ [d1]) d2 w1 hB1 HL2.out hb1'.size))
        | (go_at_call 32; (with_reducible refine HD2.out.mono ?_); rintro e w2 ⟨rfl, hB2, hb2⟩))
      go_roundw
      case rel => exact ⟨k + 1, by omega, by go_num, by rw [HS.out]; exact hB2, hb1'.trans hb2⟩
      case measure => simp [intOf]; omega
    · obtain rfl : k = s.size := by omega
      have HD := Lib.hid (bld_string w.heap.size _ wr hB hb.size)
      rw [List.take_of_length_le (by rw [URadix.hx_length, bytesOf_length]; omega)] at HD
      generalize hres : strOf (URadix.hx (bytesOf s)) = res at *
      have HRES := Lib.hid hres
      clear hB hres
      go_wp2_with (go_at_call 33; (with_reducible refine HD.out.mono ?_); rintro e w1 ⟨rfl, hb1⟩)
      go_ret
      exact ⟨by rw [HRES.out]; rfl, hb.trans hb1⟩
end Go.Proofs.YtmkifaddfnodhaaDoor
