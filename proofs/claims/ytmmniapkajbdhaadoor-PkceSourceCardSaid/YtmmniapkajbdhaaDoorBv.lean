/- Go's operations on uint32 and uint8 as operations on bit vectors. -/
import Derived.WalkKit
import Derived.Laws.BitsAllLaws
namespace Go.Proofs.YtmmniapkajbdhaaDoor.Bv
theorem wrap_u32 (n : Nat) : IntKind.u32.wrap (n : Int) = ((n % 4294967296 : Nat) : Int) := by
  rw [IntKind.wrap_u32]; omega
theorem ofInt_toNat {k : Nat} (a : BitVec k) : BitVec.ofInt k (a.toNat : Int) = a := by
  apply BitVec.eq_of_toNat_eq
  simp
theorem and32 (a : BitVec 32) (y : Int) : bits .and .u32 (a.toNat : Int) y = ((a &&& BitVec.ofInt 32 y).toNat : Int) := by
  unfold bits
  show IntKind.u32.wrap _ = _
  rw [show IntKind.u32.bits = 32 from rfl, ofInt_toNat, wrap_u32, Nat.mod_eq_of_lt (BitVec.isLt _)]
theorem or32 (a : BitVec 32) (y : Int) : bits .or .u32 (a.toNat : Int) y = ((a ||| BitVec.ofInt 32 y).toNat : Int) := by
  unfold bits
  show IntKind.u32.wrap _ = _
  rw [show IntKind.u32.bits = 32 from rfl, ofInt_toNat, wrap_u32, Nat.mod_eq_of_lt (BitVec.isLt _)]
theorem xor32 (a : BitVec 32) (y : Int) : bits .xor .u32 (a.toNat : Int) y = ((a ^^^ BitVec.ofInt 32 y).toNat : Int) := by
  unfold bits
  show IntKind.u32.wrap _ = _
  rw [show IntKind.u32.bits = 32 from rfl, ofInt_toNat, wrap_u32, Nat.mod_eq_of_lt (BitVec.isLt _)]
theorem xor32' (y : Int) (a : BitVec 32) : bits .xor .u32 y (a.toNat : Int) = ((BitVec.ofInt 32 y ^^^ a).toNat : Int) := by
  unfold bits
  show IntKind.u32.wrap _ = _
  rw [show IntKind.u32.bits = 32 from rfl, ofInt_toNat, wrap_u32, Nat.mod_eq_of_lt (BitVec.isLt _)]
theorem add32 (a b : BitVec 32) : IntKind.u32.wrap ((a.toNat : Int) + b.toNat) = ((a + b).toNat : Int) := by
  rw [← Int.natCast_add, wrap_u32, BitVec.toNat_add]
theorem add32' (a b : BitVec 32) : ((a.toNat : Int) + b.toNat) % 4294967296 = ((a + b).toNat : Int) := by
  rw [BitVec.toNat_add]; omega
theorem shr32 (a : BitVec 32) (n : Nat) : (a.toNat : Int) / (2 ^ n : Int) = ((a >>> n).toNat : Int) := by
  rw [BitVec.toNat_ushiftRight, Nat.shiftRight_eq_div_pow]
  simp
theorem shl32 (a : BitVec 32) (n : Nat) : BitVec.ofInt 32 ((a.toNat : Int) * 2 ^ n % 4294967296) = a <<< n := by
  apply BitVec.eq_of_toNat_eq
  rw [BitVec.toNat_ofInt, BitVec.toNat_shiftLeft, Nat.shiftLeft_eq]
  have : ((a.toNat : Int) * 2 ^ n) = ((a.toNat * 2 ^ n : Nat) : Int) := by simp
  rw [this]
  simp
  omega
theorem u8_lt (b : UInt8) : b.toNat < 256 := b.toNat_lt
theorem byte32 (b : UInt8) : (b.toNat : Int) % 4294967296 = ((b.toBitVec.setWidth 32).toNat : Int) := by
  have h := b.toNat_lt
  rw [BitVec.toNat_setWidth]
  have : b.toBitVec.toNat = b.toNat := rfl
  omega
theorem and1 (a : BitVec 32) : ((a &&& 1#32).toNat : Int) = if a.getLsbD 0 then 1 else 0 := by
  have h : (a &&& 1#32) = if a.getLsbD 0 then 1#32 else 0#32 := by
    apply BitVec.eq_of_getLsbD_eq
    intro i hi
    cases i with
    | zero => cases hb : a.getLsbD 0 <;> (rw [BitVec.getLsbD_and, hb]; simp)
    | succ i => cases hb : a.getLsbD 0 <;> simp
  rw [h]; split <;> rfl
theorem bits1 (a : BitVec 32) : bits .and .u32 (a.toNat : Int) 1 = if a.getLsbD 0 then 1 else 0 := by
  rw [and32]; exact and1 a
theorem wrap_u8 (n : Nat) : IntKind.u8.wrap (n : Int) = ((n % 256 : Nat) : Int) := by
  rw [IntKind.wrap_u8]; omega
theorem xor8 (a : BitVec 8) (y : Int) : bits .xor .u8 (a.toNat : Int) y = ((a ^^^ BitVec.ofInt 8 y).toNat : Int) := by
  unfold bits
  show IntKind.u8.wrap _ = _
  rw [show IntKind.u8.bits = 8 from rfl, ofInt_toNat, wrap_u8, Nat.mod_eq_of_lt (BitVec.isLt _)]
theorem shl8 (j : Nat) : BitVec.ofInt 8 ((2 : Int) ^ j % 256) = 1#8 <<< j := by
  apply BitVec.eq_of_toNat_eq
  rw [BitVec.toNat_ofInt, BitVec.toNat_shiftLeft, Nat.shiftLeft_eq]
  have : (2 : Int) ^ j = ((2 ^ j : Nat) : Int) := by simp
  rw [this]
  simp
  omega
theorem flip8 (b : BitVec 8) (j : Nat) : bits .xor .u8 (b.toNat : Int) ((2 : Int) ^ j % 256) = ((b ^^^ (1#8 <<< j)).toNat : Int) := by
  rw [xor8, shl8]
theorem mod32 (x : Int) : x % 4294967296 = ((BitVec.ofInt 32 x).toNat : Int) := by
  rw [BitVec.toNat_ofInt]; simp; omega
theorem ofInt_add (x y : Int) : BitVec.ofInt 32 (x + y) = BitVec.ofInt 32 x + BitVec.ofInt 32 y := by
  apply BitVec.eq_of_toNat_eq
  rw [BitVec.toNat_add, BitVec.toNat_ofInt, BitVec.toNat_ofInt, BitVec.toNat_ofInt]
  simp
  omega
theorem ofInt_ones : BitVec.ofInt 32 4294967295 = BitVec.allOnes 32 := rfl
theorem of_wf32 {n : Int} (h : (Lit.int .u32 n).wf = true) : ∃ c : BitVec 32, n = (c.toNat : Int) := by
  have h1 : 0 ≤ n ∧ n ≤ 4294967295 := by simpa [Lit.wf, IntKind.min, IntKind.max, IntKind.signed, IntKind.bits] using h
  refine ⟨BitVec.ofNat 32 n.toNat, ?_⟩
  rw [BitVec.toNat_ofNat]
  omega
end Go.Proofs.YtmmniapkajbdhaaDoor.Bv
