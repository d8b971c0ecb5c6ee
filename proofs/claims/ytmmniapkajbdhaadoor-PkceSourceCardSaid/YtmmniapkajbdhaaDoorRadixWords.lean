/- Bytes of a text and searches in it: small facts. -/
import Derived.Test.YtmmniapkajbdhaaDoorBase
import Derived.Test.YtmmniapkajbdhaaDoorRadixMore
namespace Go.Proofs.YtmmniapkajbdhaaDoor
open Go.RowKit
def placeI : Option Nat → Int
  | some k => (k : Int)
  | none => -1
def NotIn (l : List (BitVec 8)) (c : BitVec 8) (k : Nat) : Prop := ∀ j, j < k → l.getD j 0#8 ≠ c
theorem NotIn.zero (l : List (BitVec 8)) (c : BitVec 8) : NotIn l c 0 := fun j hj => absurd hj (Nat.not_lt_zero j)
theorem NotIn.snoc {l : List (BitVec 8)} {c : BitVec 8} {k : Nat} (h : NotIn l c k) (hk : l.getD k 0#8 ≠ c) : NotIn l c (k + 1) := fun j hj => by
  by_cases e : j = k
  · subst e; exact hk
  · exact h j (by omega)
theorem bytesOf_getD (s : ByteArray) (k : Nat) (h : k < s.size) : (bytesOf s).getD k 0#8 = s[k].toBitVec := by
  rw [List.getD_eq_getElem?_getD, bytesOf_get s k h]; rfl
theorem u8_ext {a b : UInt8} : a.toBitVec = b.toBitVec ↔ a = b := ⟨fun h => UInt8.toBitVec_inj.1 h, fun h => by rw [h]⟩
theorem u8_eq (a b : UInt8) : (((a.toNat : Int) == (b.toNat : Int)) = true) ↔ a = b := by
  rw [beq_iff_eq]
  constructor
  · intro h; exact UInt8.toNat_inj.1 (by omega)
  · intro h; rw [h]
end Go.Proofs.YtmmniapkajbdhaaDoor
