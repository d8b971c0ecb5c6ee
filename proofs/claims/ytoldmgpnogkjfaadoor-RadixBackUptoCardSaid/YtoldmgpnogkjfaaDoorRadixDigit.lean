/- A digit's number, walked. -/
import Derived.Test.YtoldmgpnogkjfaaDoorRadixFind
namespace Go.Proofs.YtoldmgpnogkjfaaDoor
open Go.RowKit
/-- The digits' cells. -/
def HexTab (w : World) : Prop := ∀ i, i < 16 → w.cell? ⟨0, i, none⟩ = some (.int .u8 ((URadix.hexA.getD i 0#8).toNat : Int))
theorem HexTab.below {w w' : World} (h : HexTab w) (hb : Below w.heap.size w w') : HexTab w' := fun i hi => cell_below (h i hi) hb
theorem digit_any (c : UInt8) (w : World) (ht : HexTab w) :
    Calls Tryd.prog 29 #[.int .u8 c.toNat] w fun e w' => e = .returned (.int .i64 (placeI (URadix.place URadix.hexA c.toBitVec))) ∧ w = w' := by
  have HT := Lib.hid ht
  clear ht
  go_enter Tryd.func29, Tryd.ntmps29
  go_wp2
  go_loop [3, 4] (fun _ i => ∃ k : Nat, k ≤ 16 ∧ i = .int .i64 k ∧ NotIn URadix.hexA c.toBitVec k) (fun _ i => 16 - (intOf i).toNat)
  case atStart => exact ⟨0, by omega, rfl, NotIn.zero _ _⟩
  case round =>
    obtain ⟨k, hk, rfl, hn⟩ := hrel
    have HN := Lib.hid hn
    clear hn
    by_cases hlt : k < 16
    · have hcell := HT.out k hlt
      obtain ⟨d, hd⟩ : ∃ d, d = URadix.hexA.getD k 0#8 := ⟨_, rfl⟩
      rw [← hd] at hcell
      have h0 : (0 : Int) ≤ (k : Int) := by omega
      have h1 : (k : Int) < 16 := by omega
      by_cases hc : d = c.toBitVec
      · have hq : ((d.toNat : Int) == (c.toNat : Int)) = true := by rw [hc]; simp
        have HP : Hid (URadix.place URadix.hexA c.toBitVec = some k) := Lib.hid (URadix.place_hit HN.out hlt (by rw [← hd, hc]))
        clear hc hd
        go_wp2
        go_ret
        exact ⟨by rw [HP.out]; rfl, rfl⟩
      · have hq : ((d.toNat : Int) == (c.toNat : Int)) = false := by
          rw [← Bool.not_eq_true, beq_iff_eq]
          intro h
          exact hc (BitVec.eq_of_toNat_eq (by have : c.toBitVec.toNat = c.toNat := rfl; omega))
        have HP := Lib.hid (HN.out.snoc (by rw [← hd]; exact hc))
        clear hc hd
        go_wp2
        go_round
        case rel => exact ⟨k + 1, by omega, by go_num, HP.out⟩
        case measure => simp [intOf]; omega
    · obtain rfl : k = 16 := by omega
      have HP : Hid (URadix.place URadix.hexA c.toBitVec = none) := Lib.hid (URadix.place_miss HN.out)
      rw [show (((16 : Nat) : Int)) = (16 : Int) from rfl]
      go_wp2
      go_ret
      exact ⟨by rw [HP.out]; rfl, rfl⟩
end Go.Proofs.YtoldmgpnogkjfaaDoor
