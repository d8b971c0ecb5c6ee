/- A strings.Builder that the call itself makes, as a list of bytes; small facts on bits of bytes. -/
import Derived.Test.YtmmniapkajbdhaaDoorShelf
import Derived.Test.YtmmniapkajbdhaaDoorRadixWords
namespace Go.Proofs.YtmmniapkajbdhaaDoor
open Go.RowKit
/-- the builder in block B holds the bytes l -/
def Bld (B : Nat) (l : List (BitVec 8)) (w : World) : Prop := Lib.IsBuilder 74 5 B B (u8s l) w
theorem u8s_cells (l : List (BitVec 8)) : u8s l = Lib.byteCells (l.map UInt8.ofBitVec) := by
  simp [u8s, Lib.byteCells, Function.comp_def]
theorem Bld.new (w : World) : Bld w.heap.size [] (w.alloc (.cells #[.pointer none, .slice none 0 0] 74)) := Lib.fresh_isBuilder _ _ _
theorem bld_write (B : Nat) (l : List (BitVec 8)) (c : BitVec 8) (w : World) (h : Bld B l w) (hlen : l.length + 1 ≤ 140737488355328) (hBw : B ≤ w.heap.size) :
    Calls Tryd.prog 33 #[.pointer (some ⟨B, 0, none⟩), .int .u8 c.toNat] w fun e w' => e = .returned .nilIface ∧ Bld B (l ++ [c]) w' ∧ Below B w w' :=
  (Tryd.bld_WriteByte B B (u8s l) c.toNat w h (by rw [u8s_length]; exact hlen) hBw).mono fun _ _ ⟨e, h1, h2⟩ => ⟨e, by
    unfold Bld
    rw [u8s_append]
    exact Or.inr h1, h2⟩
theorem bld_string (B : Nat) (l : List (BitVec 8)) (w : World) (h : Bld B l w) (hBw : B ≤ w.heap.size) :
    Calls Tryd.prog 34 #[.pointer (some ⟨B, 0, none⟩)] w fun e w' => e = .returned (.string (strOf l)) ∧ Below B w w' := by
  unfold Bld at h
  rw [u8s_cells] at h
  exact Tryd.bld_String B B (l.map UInt8.ofBitVec) w h hBw
theorem and_nat8 (a b : Nat) (ha : a < 256) (hb : b < 256) : bits BinOp.and IntKind.u8 (a : Int) (b : Int) = ((a &&& b : Nat) : Int) := by
  unfold bits
  show IntKind.u8.wrap _ = _
  rw [show IntKind.u8.bits = 8 from rfl, Bv.wrap_u8]
  have e1 : (BitVec.ofInt 8 (a : Int)).toNat = a := by rw [BitVec.toNat_ofInt]; simp; omega
  have e2 : (BitVec.ofInt 8 (b : Int)).toNat = b := by rw [BitVec.toNat_ofInt]; simp; omega
  show ((((BitVec.ofInt 8 (a : Int)) &&& (BitVec.ofInt 8 (b : Int))).toNat % 256 : Nat) : Int) = _
  rw [BitVec.toNat_and, e1, e2]
  have := Nat.and_le_left (n := a) (m := b)
  rw [Nat.mod_eq_of_lt (by omega)]
theorem and15_8 (a : Nat) (ha : a < 256) : bits BinOp.and IntKind.u8 (a : Int) 15 = ((a % 16 : Nat) : Int) := by
  rw [show (15 : Int) = ((15 : Nat) : Int) from rfl, and_nat8 a 15 ha (by omega), show (15 : Nat) = 2 ^ 4 - 1 from rfl, Nat.and_two_pow_sub_one_eq_mod]
theorem spell_at (al : List (BitVec 8)) (v : List Nat) (j : Nat) (h : j < v.length) : (URadix.spell al v)[j]? = some (al.getD (v.getD j 0) 0#8) := by
  unfold URadix.spell
  rw [List.getElem?_map, List.getElem?_eq_getElem h, List.getD_eq_getElem?_getD (l := v), List.getElem?_eq_getElem h]; rfl
theorem at'_bytes (s : ByteArray) (k : Nat) (h : k < s.size) : URadix.at' (bytesOf s) k = s[k].toNat := by
  unfold URadix.at'
  rw [bytesOf_getD s k h]; rfl
theorem take_snoc2 {α : Type} (l : List α) (k : Nat) (x y : α) (h : l[k]? = some x) (h' : l[k + 1]? = some y) : l.take (k + 2) = l.take k ++ [x] ++ [y] := by
  rw [take_snoc l (k + 1) y h', take_snoc l k x h]
end Go.Proofs.YtmmniapkajbdhaaDoor
