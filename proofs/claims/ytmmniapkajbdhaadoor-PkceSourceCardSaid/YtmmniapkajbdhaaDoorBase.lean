/- Bytes and words as lists and vectors; strings as lists of bytes; rows of bytes. -/
import Derived.Test.YtmmniapkajbdhaaDoorProg
import Derived.Test.YtmmniapkajbdhaaDoorBv
import Derived.Test.YtmmniapkajbdhaaDoorLawPost
import Derived.WalkKit
import Derived.BigQuiet
import Derived.Outline
import Derived.Lib.Hide
import Derived.Laws.IdiomStrings
import Derived.Laws.BytesArg
namespace Go.Proofs.YtmmniapkajbdhaaDoor
open Go.RowKit
def u32 (x : BitVec 32) : Value := .int .u32 (x.toNat : Int)
def bytesOf (s : ByteArray) : List (BitVec 8) := s.data.toList.map UInt8.toBitVec
theorem bytesOf_get (s : ByteArray) (k : Nat) (h : k < s.size) : (bytesOf s)[k]? = some s[k].toBitVec := by
  unfold bytesOf
  rw [List.getElem?_map, Array.getElem?_toList, show s.data[k]? = some s[k] from Array.getElem?_eq_getElem h]; rfl
theorem bytesOf_length (s : ByteArray) : (bytesOf s).length = s.size := by simp [bytesOf]
theorem take_snoc {α : Type} (l : List α) (k : Nat) (x : α) (h : l[k]? = some x) : l.take (k + 1) = l.take k ++ [x] := by
  rw [List.take_add_one, h]; rfl
theorem not32 (r : BitVec 32) : bits BinOp.xor IntKind.u32 IntKind.u32.max (r.toNat : Int) = ((~~~r).toNat : Int) := by
  rw [Bv.xor32', show BitVec.ofInt 32 IntKind.u32.max = BitVec.allOnes 32 from rfl, BitVec.allOnes_xor]
theorem not32' (r : BitVec 32) : bits BinOp.xor IntKind.u32 (r.toNat : Int) 4294967295 = ((~~~r).toNat : Int) := by
  rw [Bv.xor32, show BitVec.ofInt 32 4294967295 = BitVec.allOnes 32 from rfl, BitVec.xor_allOnes]
def u8s (l : List (BitVec 8)) : List Value := l.map fun b => .int .u8 (b.toNat : Int)
theorem u8s_append (a b : List (BitVec 8)) : u8s (a ++ b) = u8s a ++ u8s b := by simp [u8s]
theorem u8s_length (a : List (BitVec 8)) : (u8s a).length = a.length := by simp [u8s]
theorem u8s_one (a : List (BitVec 8)) : ∀ u ∈ u8s a, u.oneCell' = true := by
  intro u hu
  simp only [u8s, List.mem_map] at hu
  obtain ⟨b, _, rfl⟩ := hu
  rfl
theorem u8s_snoc (s : ByteArray) (k : Nat) (h : k < s.size) : u8s ((bytesOf s).take (k + 1)) = u8s ((bytesOf s).take k) ++ [.int .u8 (s[k].toNat : Int)] := by
  rw [take_snoc _ _ _ (bytesOf_get s k h), u8s_append]; rfl
theorem info8 : (Tryd.prog.info? 5).map (fun i => (i.zero, i.size, i.bytes)) = some (some (.int .u8 0), 1, 1) := by kernel_rfl
theorem cell_one_new' (w : World) (v : Value) (T : TypeId) : ∀ (j : Nat) (u : Value), [v][j]? = some u → (w.alloc (.cells #[v] T)).cell? ((⟨w.heap.size, 0, none⟩ : Addr).add j) = some u := by
  intro j u hj
  match j, hj with
  | 0, hj => simp at hj; subst hj; simp [Addr.add]
def strOf (l : List (BitVec 8)) : ByteArray := ⟨(l.map UInt8.ofBitVec).toArray⟩
theorem bytesOf_strOf (l : List (BitVec 8)) : bytesOf (strOf l) = l := by
  simp [bytesOf, strOf, Function.comp_def]
theorem strOf_bytesOf (s : ByteArray) : strOf (bytesOf s) = s := by
  simp [bytesOf, strOf, Function.comp_def]
theorem strOf_size (l : List (BitVec 8)) : (strOf l).size = l.length := by
  rw [← bytesOf_length, bytesOf_strOf]
theorem bytesOf_inj {a b : ByteArray} (h : bytesOf a = bytesOf b) : a = b := by rw [← strOf_bytesOf a, h, strOf_bytesOf]
theorem bytesOf_append (a b : ByteArray) : bytesOf (a ++ b) = bytesOf a ++ bytesOf b := by
  simp [bytesOf, ByteArray.data_append]
theorem or8 (a : BitVec 8) (y : Int) : bits .or .u8 (a.toNat : Int) y = ((a ||| BitVec.ofInt 8 y).toNat : Int) := by
  unfold bits
  show IntKind.u8.wrap _ = _
  rw [show IntKind.u8.bits = 8 from rfl, Bv.ofInt_toNat, Bv.wrap_u8, Nat.mod_eq_of_lt (BitVec.isLt _)]
end Go.Proofs.YtmmniapkajbdhaaDoor
