/- The two rotations, at each count that the digest uses. -/
import Derived.Test.YtmkifaddfnodhaaDoorBv
import Derived.Test.YtmkifaddfnodhaaDoorSha
import Derived.Test.YtmkifaddfnodhaaDoorLawPost
namespace Go.Proofs.YtmkifaddfnodhaaDoor
open Go.RowKit
theorem rot_or (x : BitVec 32) (n : Nat) (p q : Int) (hp : p = 2 ^ n) (hq : q = 2 ^ (32 - n)) : bits BinOp.or IntKind.u32 ((x.toNat : Int) / p) ((x.toNat : Int) * q % 4294967296) = ((USha.rotr x n).toNat : Int) := by
  subst hp hq
  rw [Bv.shr32, Bv.or32]
  congr 2
  unfold USha.rotr
  congr 1
  exact Bv.shl32 x (32 - n)
theorem rot_or' (x : BitVec 32) (n : Nat) (p q : Int) (hp : p = 2 ^ n) (hq : q = 2 ^ (32 - n)) : bits BinOp.or IntKind.u32 ((x.toNat : Int) * q % 4294967296) ((x.toNat : Int) / p) = ((USha.rotr x n).toNat : Int) := by
  subst hp hq
  rw [Bv.shr32]
  have e : ((x.toNat : Int) * 2 ^ (32 - n) % 4294967296) = ((x <<< (32 - n)).toNat : Int) := by
    rw [BitVec.toNat_shiftLeft, Nat.shiftLeft_eq]; simp
  rw [e, Bv.or32, Bv.ofInt_toNat]
  unfold USha.rotr
  rw [BitVec.or_comm]
theorem ret_u32 {a b : Int} (h : a = b) : Ending.returned (.int .u32 a) = .returned (.int .u32 b) := by rw [h]
theorem rotl_2 (x : BitVec 32) (w : World) :
    Calls Tryd.prog 53 #[.int .u32 x.toNat, .int .i64 (-2)] w fun e w' => e = .returned (.int .u32 (USha.rotr x 2).toNat) ∧ w = w' := by
  have hb : bits BinOp.and IntKind.u64 (IntKind.u64.wrap (-2)) 31 = 30 := by kernel_rfl
  go_enter Tryd.func53, Tryd.ntmps53
  go_wp2
  go_ret
  exact ⟨ret_u32 (rot_or' x 2 _ _ (by rfl) (by rfl)), rfl⟩
theorem rot_2 (x : BitVec 32) (w : World) :
    Calls Tryd.prog 56 #[.int .u32 x.toNat, .int .u64 2] w fun e w' => e = .returned (.int .u32 (USha.rotr x 2).toNat) ∧ w = w' := by
  go_enter Tryd.func56, Tryd.ntmps56
  go_wp2
  go_ret
  exact ⟨ret_u32 (rot_or x 2 _ _ (by rfl) (by rfl)), rfl⟩
theorem rotl_6 (x : BitVec 32) (w : World) :
    Calls Tryd.prog 53 #[.int .u32 x.toNat, .int .i64 (-6)] w fun e w' => e = .returned (.int .u32 (USha.rotr x 6).toNat) ∧ w = w' := by
  have hb : bits BinOp.and IntKind.u64 (IntKind.u64.wrap (-6)) 31 = 26 := by kernel_rfl
  go_enter Tryd.func53, Tryd.ntmps53
  go_wp2
  go_ret
  exact ⟨ret_u32 (rot_or' x 6 _ _ (by rfl) (by rfl)), rfl⟩
theorem rot_6 (x : BitVec 32) (w : World) :
    Calls Tryd.prog 56 #[.int .u32 x.toNat, .int .u64 6] w fun e w' => e = .returned (.int .u32 (USha.rotr x 6).toNat) ∧ w = w' := by
  go_enter Tryd.func56, Tryd.ntmps56
  go_wp2
  go_ret
  exact ⟨ret_u32 (rot_or x 6 _ _ (by rfl) (by rfl)), rfl⟩
theorem rotl_7 (x : BitVec 32) (w : World) :
    Calls Tryd.prog 53 #[.int .u32 x.toNat, .int .i64 (-7)] w fun e w' => e = .returned (.int .u32 (USha.rotr x 7).toNat) ∧ w = w' := by
  have hb : bits BinOp.and IntKind.u64 (IntKind.u64.wrap (-7)) 31 = 25 := by kernel_rfl
  go_enter Tryd.func53, Tryd.ntmps53
  go_wp2
  go_ret
  exact ⟨ret_u32 (rot_or' x 7 _ _ (by rfl) (by rfl)), rfl⟩
theorem rot_7 (x : BitVec 32) (w : World) :
    Calls Tryd.prog 56 #[.int .u32 x.toNat, .int .u64 7] w fun e w' => e = .returned (.int .u32 (USha.rotr x 7).toNat) ∧ w = w' := by
  go_enter Tryd.func56, Tryd.ntmps56
  go_wp2
  go_ret
  exact ⟨ret_u32 (rot_or x 7 _ _ (by rfl) (by rfl)), rfl⟩
theorem rotl_11 (x : BitVec 32) (w : World) :
    Calls Tryd.prog 53 #[.int .u32 x.toNat, .int .i64 (-11)] w fun e w' => e = .returned (.int .u32 (USha.rotr x 11).toNat) ∧ w = w' := by
  have hb : bits BinOp.and IntKind.u64 (IntKind.u64.wrap (-11)) 31 = 21 := by kernel_rfl
  go_enter Tryd.func53, Tryd.ntmps53
  go_wp2
  go_ret
  exact ⟨ret_u32 (rot_or' x 11 _ _ (by rfl) (by rfl)), rfl⟩
theorem rot_11 (x : BitVec 32) (w : World) :
    Calls Tryd.prog 56 #[.int .u32 x.toNat, .int .u64 11] w fun e w' => e = .returned (.int .u32 (USha.rotr x 11).toNat) ∧ w = w' := by
  go_enter Tryd.func56, Tryd.ntmps56
  go_wp2
  go_ret
  exact ⟨ret_u32 (rot_or x 11 _ _ (by rfl) (by rfl)), rfl⟩
theorem rotl_13 (x : BitVec 32) (w : World) :
    Calls Tryd.prog 53 #[.int .u32 x.toNat, .int .i64 (-13)] w fun e w' => e = .returned (.int .u32 (USha.rotr x 13).toNat) ∧ w = w' := by
  have hb : bits BinOp.and IntKind.u64 (IntKind.u64.wrap (-13)) 31 = 19 := by kernel_rfl
  go_enter Tryd.func53, Tryd.ntmps53
  go_wp2
  go_ret
  exact ⟨ret_u32 (rot_or' x 13 _ _ (by rfl) (by rfl)), rfl⟩
theorem rot_13 (x : BitVec 32) (w : World) :
    Calls Tryd.prog 56 #[.int .u32 x.toNat, .int .u64 13] w fun e w' => e = .returned (.int .u32 (USha.rotr x 13).toNat) ∧ w = w' := by
  go_enter Tryd.func56, Tryd.ntmps56
  go_wp2
  go_ret
  exact ⟨ret_u32 (rot_or x 13 _ _ (by rfl) (by rfl)), rfl⟩
theorem rotl_17 (x : BitVec 32) (w : World) :
    Calls Tryd.prog 53 #[.int .u32 x.toNat, .int .i64 (-17)] w fun e w' => e = .returned (.int .u32 (USha.rotr x 17).toNat) ∧ w = w' := by
  have hb : bits BinOp.and IntKind.u64 (IntKind.u64.wrap (-17)) 31 = 15 := by kernel_rfl
  go_enter Tryd.func53, Tryd.ntmps53
  go_wp2
  go_ret
  exact ⟨ret_u32 (rot_or' x 17 _ _ (by rfl) (by rfl)), rfl⟩
theorem rot_17 (x : BitVec 32) (w : World) :
    Calls Tryd.prog 56 #[.int .u32 x.toNat, .int .u64 17] w fun e w' => e = .returned (.int .u32 (USha.rotr x 17).toNat) ∧ w = w' := by
  go_enter Tryd.func56, Tryd.ntmps56
  go_wp2
  go_ret
  exact ⟨ret_u32 (rot_or x 17 _ _ (by rfl) (by rfl)), rfl⟩
theorem rotl_18 (x : BitVec 32) (w : World) :
    Calls Tryd.prog 53 #[.int .u32 x.toNat, .int .i64 (-18)] w fun e w' => e = .returned (.int .u32 (USha.rotr x 18).toNat) ∧ w = w' := by
  have hb : bits BinOp.and IntKind.u64 (IntKind.u64.wrap (-18)) 31 = 14 := by kernel_rfl
  go_enter Tryd.func53, Tryd.ntmps53
  go_wp2
  go_ret
  exact ⟨ret_u32 (rot_or' x 18 _ _ (by rfl) (by rfl)), rfl⟩
theorem rot_18 (x : BitVec 32) (w : World) :
    Calls Tryd.prog 56 #[.int .u32 x.toNat, .int .u64 18] w fun e w' => e = .returned (.int .u32 (USha.rotr x 18).toNat) ∧ w = w' := by
  go_enter Tryd.func56, Tryd.ntmps56
  go_wp2
  go_ret
  exact ⟨ret_u32 (rot_or x 18 _ _ (by rfl) (by rfl)), rfl⟩
theorem rotl_19 (x : BitVec 32) (w : World) :
    Calls Tryd.prog 53 #[.int .u32 x.toNat, .int .i64 (-19)] w fun e w' => e = .returned (.int .u32 (USha.rotr x 19).toNat) ∧ w = w' := by
  have hb : bits BinOp.and IntKind.u64 (IntKind.u64.wrap (-19)) 31 = 13 := by kernel_rfl
  go_enter Tryd.func53, Tryd.ntmps53
  go_wp2
  go_ret
  exact ⟨ret_u32 (rot_or' x 19 _ _ (by rfl) (by rfl)), rfl⟩
theorem rot_19 (x : BitVec 32) (w : World) :
    Calls Tryd.prog 56 #[.int .u32 x.toNat, .int .u64 19] w fun e w' => e = .returned (.int .u32 (USha.rotr x 19).toNat) ∧ w = w' := by
  go_enter Tryd.func56, Tryd.ntmps56
  go_wp2
  go_ret
  exact ⟨ret_u32 (rot_or x 19 _ _ (by rfl) (by rfl)), rfl⟩
theorem rotl_22 (x : BitVec 32) (w : World) :
    Calls Tryd.prog 53 #[.int .u32 x.toNat, .int .i64 (-22)] w fun e w' => e = .returned (.int .u32 (USha.rotr x 22).toNat) ∧ w = w' := by
  have hb : bits BinOp.and IntKind.u64 (IntKind.u64.wrap (-22)) 31 = 10 := by kernel_rfl
  go_enter Tryd.func53, Tryd.ntmps53
  go_wp2
  go_ret
  exact ⟨ret_u32 (rot_or' x 22 _ _ (by rfl) (by rfl)), rfl⟩
theorem rot_22 (x : BitVec 32) (w : World) :
    Calls Tryd.prog 56 #[.int .u32 x.toNat, .int .u64 22] w fun e w' => e = .returned (.int .u32 (USha.rotr x 22).toNat) ∧ w = w' := by
  go_enter Tryd.func56, Tryd.ntmps56
  go_wp2
  go_ret
  exact ⟨ret_u32 (rot_or x 22 _ _ (by rfl) (by rfl)), rfl⟩
theorem rotl_25 (x : BitVec 32) (w : World) :
    Calls Tryd.prog 53 #[.int .u32 x.toNat, .int .i64 (-25)] w fun e w' => e = .returned (.int .u32 (USha.rotr x 25).toNat) ∧ w = w' := by
  have hb : bits BinOp.and IntKind.u64 (IntKind.u64.wrap (-25)) 31 = 7 := by kernel_rfl
  go_enter Tryd.func53, Tryd.ntmps53
  go_wp2
  go_ret
  exact ⟨ret_u32 (rot_or' x 25 _ _ (by rfl) (by rfl)), rfl⟩
theorem rot_25 (x : BitVec 32) (w : World) :
    Calls Tryd.prog 56 #[.int .u32 x.toNat, .int .u64 25] w fun e w' => e = .returned (.int .u32 (USha.rotr x 25).toNat) ∧ w = w' := by
  go_enter Tryd.func56, Tryd.ntmps56
  go_wp2
  go_ret
  exact ⟨ret_u32 (rot_or x 25 _ _ (by rfl) (by rfl)), rfl⟩
end Go.Proofs.YtmkifaddfnodhaaDoor
