/- The library's strings.TrimSuffix at this program: laid by hand; of one sign of padding. -/
import Derived.Shelf.Strings.Prefix
import Derived.Test.YtoldmgpnogkjfaaDoorBase
import Derived.Test.YtoldmgpnogkjfaaDoorRadixText
namespace Go.Proofs
open Go.Shelf
def Tryd.laysT_ren : Go.Shelf.Ren := ⟨fun | 102 => 34 | 209 => 40 | 207 => 42 | n => n, fun | 9 => 9 | 4 => 4 | 3 => 3 | n => n, fun | n => n⟩
theorem Tryd.laysT : Go.Proofs.Lays.n102 Tryd.prog Tryd.laysT_ren := {
  mixed := by kernel_rfl
  f102 := Tryd.func34.trans (congrArg some (by kernel_rfl))
  f207 := Tryd.func42.trans (congrArg some (by kernel_rfl))
  f209 := Tryd.func40.trans (congrArg some (by kernel_rfl))
  t3 := Tryd.underlying3
  a3 := Tryd.isAgg3
  z3 := Tryd.sizeOf3
  v3 := Tryd.zeroValue3
  t4 := Tryd.underlying4
  a4 := Tryd.isAgg4
  z4 := Tryd.sizeOf4
  v4 := Tryd.zeroValue4
  t9 := Tryd.underlying9
  a9 := Tryd.isAgg9
  z9 := Tryd.sizeOf9
  v9 := Tryd.zeroValue9 }
namespace YtoldmgpnogkjfaaDoor
open Go.RowKit
theorem trim_list (s : ByteArray) : (⟨(Lib.trimSuffix s.data.toList [61]).toArray⟩ : ByteArray) = strOf (URadix.trimEq (bytesOf s)) := by
  apply bytesOf_inj
  rw [bytesOf_strOf]
  have hb : bytesOf s = s.data.toList.map UInt8.toBitVec := rfl
  have hm : bytesOf (⟨(Lib.trimSuffix s.data.toList [61]).toArray⟩ : ByteArray) = (Lib.trimSuffix s.data.toList [61]).map UInt8.toBitVec := rfl
  rw [hb, hm]
  generalize s.data.toList = l
  unfold Lib.trimSuffix Lib.hasSuffix URadix.trimEq
  rcases List.eq_nil_or_concat l with rfl | ⟨m, x, rfl⟩
  · rfl
  · have e1 : ([61] : List UInt8).isSuffixOf (m.concat x) = (x == 61) := by
      simp [List.isSuffixOf, List.isPrefixOf, BEq.comm]
    rw [e1]
    by_cases hx : x = 61
    · subst hx
      simp
    · have : (x == 61) = false := by simpa using hx
      rw [this]
      have h2 : ¬ ((m.concat x).map UInt8.toBitVec).getLast? = some 61#8 := by
        simp
        intro h
        exact hx (UInt8.toBitVec_inj.1 h)
      rw [if_neg h2]
      simp
theorem trim_any (s : ByteArray) (w : World) (hs : s.size ≤ 33554432) :
    Calls Tryd.prog 34 #[.string s, .string { data := #[61] }] w fun e w' => e = .returned (.string (strOf (URadix.trimEq (bytesOf s)))) ∧ w = w' :=
  (Any.strings_TrimSuffix Tryd.laysT s { data := #[61] } w (by omega)).mono fun e w' ⟨h1, h2⟩ => ⟨by rw [h1, ← trim_list], h2.symm⟩
end YtoldmgpnogkjfaaDoor
end Go.Proofs
