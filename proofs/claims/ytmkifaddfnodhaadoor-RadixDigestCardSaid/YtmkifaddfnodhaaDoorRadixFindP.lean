/- The program's search of a letter, walked. -/
import Derived.Test.YtmkifaddfnodhaaDoorRadixWords
namespace Go.Proofs.YtmkifaddfnodhaaDoor
open Go.RowKit
theorem number_any (al : ByteArray) (c : UInt8) (w : World) (hs : al.size ≤ maxLen) :
    Calls Tryd.prog 44 #[.string al, .int .u8 c.toNat] w fun e w' => e = .returned (.int .i64 (placeI (URadix.place (bytesOf al) c.toBitVec))) ∧ w = w' := by
  unfold maxLen at hs
  go_enter Tryd.func44, Tryd.ntmps44
  go_wp2
  go_loop [5, 8] (fun _ i => ∃ k : Nat, k ≤ al.size ∧ i = .int .i64 k ∧ NotIn (bytesOf al) c.toBitVec k) (fun _ i => al.size - (intOf i).toNat)
  case atStart => exact ⟨0, Nat.zero_le _, rfl, NotIn.zero _ _⟩
  case round =>
    obtain ⟨k, hk, rfl, hn⟩ := hrel
    have HN := Lib.hid hn
    clear hn
    by_cases hlt : k < al.size
    · by_cases hc : al[k] = c
      · have hq : ((al[k].toNat : Int) == (c.toNat : Int)) = true := (u8_eq _ _).2 hc
        have HP : Hid (URadix.place (bytesOf al) c.toBitVec = some k) := Lib.hid (URadix.place_hit HN.out (by rw [bytesOf_length]; exact hlt) (by rw [bytesOf_getD al k hlt, hc]))
        clear hc
        go_wp2
        go_ret
        exact ⟨by rw [HP.out]; rfl, rfl⟩
      · have hq : ((al[k].toNat : Int) == (c.toNat : Int)) = false := by
          rw [← Bool.not_eq_true, u8_eq]; exact hc
        have HP := Lib.hid (HN.out.snoc (by rw [bytesOf_getD al k hlt]; exact fun h => hc (u8_ext.1 h)))
        clear hc
        go_wp2
        go_round
        case rel => exact ⟨k + 1, by omega, by go_num, HP.out⟩
        case measure => simp [intOf]; omega
    · obtain rfl : k = al.size := by omega
      have HP : Hid (URadix.place (bytesOf al) c.toBitVec = none) := Lib.hid (URadix.place_miss (by rw [bytesOf_length]; exact HN.out))
      go_wp2
      go_ret
      exact ⟨by rw [HP.out]; rfl, rfl⟩
end Go.Proofs.YtmkifaddfnodhaaDoor
