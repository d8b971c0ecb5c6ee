/- A letter's number, walked: the program's search, the digits' search, the reference's. -/
import Derived.Test.YtoldmgpnogkjfaaDoorBase
import Derived.Test.YtoldmgpnogkjfaaDoorRadixMore
namespace Go.Proofs.YtoldmgpnogkjfaaDoor
open Go.RowKit
def placeI : Option Nat → Int
  | some k => (k : Int)
  | none => -1
def NotIn (l : List (BitVec 8)) (c : BitVec 8) (k : Nat) : Prop := ∀ j, j < k → l.getD j 0#8 ≠ c
theorem NotIn.zero (l : List (BitVec 8)) (c : BitVec 8) : NotIn l c 0 := fun j hj => absurd hj (Nat.not_lt_zero j)
theorem NotIn.snoc {l : List (BitVec 8)} {c : BitVec 8} {k : Nat} (h : NotIn l c k) (hk : l.getD k 0#8 ≠ c) : NotIn l c (k + 1) := fun j hj => by
  by_cases e : j = k
  · subst e; exact hk
  · exact h j (by omega)
theorem bytesOf_getD (s : ByteArray) (k : Nat) (h : k < s.size) : (bytesOf s).getD k 0#8 = s[k].toBitVec := by
  rw [List.getD_eq_getElem?_getD, bytesOf_get s k h]; rfl
theorem u8_ext {a b : UInt8} : a.toBitVec = b.toBitVec ↔ a = b := ⟨fun h => UInt8.toBitVec_inj.1 h, fun h => by rw [h]⟩
theorem u8_eq (a b : UInt8) : (((a.toNat : Int) == (b.toNat : Int)) = true) ↔ a = b := by
  rw [beq_iff_eq]
  constructor
  · intro h; exact UInt8.toNat_inj.1 (by omega)
  · intro h; rw [h]
theorem number_any (al : ByteArray) (c : UInt8) (w : World) (hs : al.size ≤ maxLen) :
    Calls Tryd.prog 39 #[.string al, .int .u8 c.toNat] w fun e w' => e = .returned (.int .i64 (placeI (URadix.place (bytesOf al) c.toBitVec))) ∧ w = w' := by
  unfold maxLen at hs
  go_enter Tryd.func39, Tryd.ntmps39
  go_wp2
  go_loop [5, 8] (fun _ i => ∃ k : Nat, k ≤ al.size ∧ i = .int .i64 k ∧ NotIn (bytesOf al) c.toBitVec k) (fun _ i => al.size - (intOf i).toNat)
  case atStart => exact ⟨0, Nat.zero_le _, rfl, NotIn.zero _ _⟩
  case round =>
    obtain ⟨k, hk, rfl, hn⟩ := hrel
    have HN := Lib.hid hn
    clear hn
    by_cases hlt : k < al.size
    · by_cases hc : al[k] = c
      · have hq : ((al[k].toNat : Int) == (c.toNat : Int)) = true := (u8_eq _ _).2 hc
        have HP : Hid (URadix.place (bytesOf al) c.toBitVec = some k) := Lib.hid (URadix.place_hit HN.out (by rw [bytesOf_length]; exact hlt) (by rw [bytesOf_getD al k hlt, hc]))
        clear hc
        go_wp2
        go_ret
        exact ⟨by rw [HP.out]; rfl, rfl⟩
      · have hq : ((al[k].toNat : Int) == (c.toNat : Int)) = false := by
          rw [← Bool.not_eq_true, u8_eq]; exact hc
        have HP := Lib.hid (HN.out.snoc (by rw [bytesOf_getD al k hlt]; exact fun h => hc (u8_ext.1 h)))
        clear hc
        go_wp2
        go_round
        case rel => exact ⟨k + 1, by omega, by go_num, HP.out⟩
        case measure => simp [intOf]; omega
    · obtain rfl : k = al.size := by omega
      have HP : Hid (URadix.place (bytesOf al) c.toBitVec = none) := Lib.hid (URadix.place_miss (by rw [bytesOf_length]; exact HN.out))
      go_wp2
      go_ret
      exact ⟨by rw [HP.out]; rfl, rfl⟩
theorem place_any (al : ByteArray) (c : UInt8) (w : World) (hs : al.size ≤ maxLen) :
    Calls Tryd.prog 38 #[.int .u8 c.toNat, .string al] w fun e w' => e = .returned (.int .i64 (placeI (URadix.place (bytesOf al) c.toBitVec))) ∧ w = w' := by
  unfold maxLen at hs
  go_enter Tryd.func38, Tryd.ntmps38
  go_wp2
  go_loop [5] (fun i => ∃ k : Nat, k ≤ al.size ∧ i = .int .i64 k ∧ NotIn (bytesOf al) c.toBitVec k) (fun i => al.size - (intOf i).toNat)
  case atStart => exact ⟨0, Nat.zero_le _, rfl, NotIn.zero _ _⟩
  case round =>
    obtain ⟨k, hk, rfl, hn⟩ := hrel
    have HN := Lib.hid hn
    clear hn
    by_cases hlt : k < al.size
    · by_cases hc : al[k] = c
      · have hq : ((al[k].toNat : Int) == (c.toNat : Int)) = true := (u8_eq _ _).2 hc
        have HP : Hid (URadix.place (bytesOf al) c.toBitVec = some k) := Lib.hid (URadix.place_hit HN.out (by rw [bytesOf_length]; exact hlt) (by rw [bytesOf_getD al k hlt, hc]))
        clear hc
        go_wp2
        go_ret
        exact ⟨by rw [HP.out]; rfl, rfl⟩
      · have hq : ((al[k].toNat : Int) == (c.toNat : Int)) = false := by
          rw [← Bool.not_eq_true, u8_eq]; exact hc
        have HP := Lib.hid (HN.out.snoc (by rw [bytesOf_getD al k hlt]; exact fun h => hc (u8_ext.1 h)))
        clear hc
        go_wp2
        go_round
        case rel => exact ⟨k + 1, by omega, by go_num, HP.out⟩
        case measure => simp [intOf]; omega
    · obtain rfl : k = al.size := by omega
      have HP : Hid (URadix.place (bytesOf al) c.toBitVec = none) := Lib.hid (URadix.place_miss (by rw [bytesOf_length]; exact HN.out))
      go_wp2
      go_ret
      exact ⟨by rw [HP.out]; rfl, rfl⟩
/-- The digits' cells. -/
def HexTab (w : World) : Prop := ∀ i, i < 16 → w.cell? ⟨0, i, none⟩ = some (.int .u8 ((URadix.hexA.getD i 0#8).toNat : Int))
theorem HexTab.below {w w' : World} (h : HexTab w) (hb : Below w.heap.size w w') : HexTab w' := fun i hi => cell_below (h i hi) hb
theorem digit_any (c : UInt8) (w : World) (ht : HexTab w) :
    Calls Tryd.prog 29 #[.int .u8 c.toNat] w fun e w' => e = .returned (.int .i64 (placeI (URadix.place URadix.hexA c.toBitVec))) ∧ w = w' := by
  have HT := Lib.hid ht
  clear ht
  go_enter Tryd.func29, Tryd.ntmps29
  go_wp2
  go_loop [3, 4] (fun _ i => ∃ k : Nat, k ≤ 16 ∧ i = .int .i64 k ∧ NotIn URadix.hexA c.toBitVec k) (fun _ i => 16 - (intOf i).toNat)
  case atStart => exact ⟨0, by omega, rfl, NotIn.zero _ _⟩
  case round =>
    obtain ⟨k, hk, rfl, hn⟩ := hrel
    have HN := Lib.hid hn
    clear hn
    by_cases hlt : k < 16
    · have hcell := HT.out k hlt
      obtain ⟨d, hd⟩ : ∃ d, d = URadix.hexA.getD k 0#8 := ⟨_, rfl⟩
      rw [← hd] at hcell
      have h0 : (0 : Int) ≤ (k : Int) := by omega
      have h1 : (k : Int) < 16 := by omega
      by_cases hc : d = c.toBitVec
      · have hq : ((d.toNat : Int) == (c.toNat : Int)) = true := by rw [hc]; simp
        have HP : Hid (URadix.place URadix.hexA c.toBitVec = some k) := Lib.hid (URadix.place_hit HN.out hlt (by rw [← hd, hc]))
        clear hc hd
        go_wp2
        go_ret
        exact ⟨by rw [HP.out]; rfl, rfl⟩
      · have hq : ((d.toNat : Int) == (c.toNat : Int)) = false := by
          rw [← Bool.not_eq_true, beq_iff_eq]
          intro h
          exact hc (BitVec.eq_of_toNat_eq (by have : c.toBitVec.toNat = c.toNat := rfl; omega))
        have HP := Lib.hid (HN.out.snoc (by rw [← hd]; exact hc))
        clear hc hd
        go_wp2
        go_round
        case rel => exact ⟨k + 1, by omega, by go_num, HP.out⟩
        case measure => simp [intOf]; omega
    · obtain rfl : k = 16 := by omega
      have HP : Hid (URadix.place URadix.hexA c.toBitVec = none) := Lib.hid (URadix.place_miss HN.out)
      rw [show (((16 : Nat) : Int)) = (16 : Int) from rfl]
      go_wp2
      go_ret
      exact ⟨by rw [HP.out]; rfl, rfl⟩
end Go.Proofs.YtoldmgpnogkjfaaDoor
