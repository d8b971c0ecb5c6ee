/- The program's check sum, walked: it is the register run over the bytes. -/
import Derived.Test.YtkhfelfdgpfjkaaDoorCrcRef
namespace Go.Proofs.YtkhfelfdgpfjkaaDoor
open Go.RowKit
theorem not32 (r : BitVec 32) : bits BinOp.xor IntKind.u32 IntKind.u32.max (r.toNat : Int) = ((~~~r).toNat : Int) := by
  rw [Bv.xor32', show BitVec.ofInt 32 IntKind.u32.max = BitVec.allOnes 32 from rfl, BitVec.allOnes_xor]
theorem not32' (r : BitVec 32) : bits BinOp.xor IntKind.u32 (r.toNat : Int) 4294967295 = ((~~~r).toNat : Int) := by
  rw [Bv.xor32, show BitVec.ofInt 32 4294967295 = BitVec.allOnes 32 from rfl, BitVec.xor_allOnes]
theorem ref_more (c : BitVec 32) (s : ByteArray) (w : World) (hs : s.size ≤ maxLen) :
    Calls Tryd.prog 17 #[.int .u32 c.toNat, .string s] w fun e w' => e = .returned (.int .u32 (UCrc.more c (bytesOf s)).toNat) ∧ w = w' := by
  have h1 := not32' c
  obtain ⟨d, hd⟩ : ∃ d, d = ~~~c := ⟨_, rfl⟩
  rw [← hd] at h1
  have HD := Lib.hid hd
  clear hd
  go_enter Tryd.func17, Tryd.ntmps17
  go_wp2_with (go_at_call 32; (with_reducible refine (taken_any d s _ hs).mono ?_); rintro e w' ⟨rfl, rfl⟩)
  go_ret
  exact ⟨by rw [not32', HD.out]; rfl, rfl⟩
theorem ref_crc (s : ByteArray) (w : World) (hs : s.size ≤ maxLen) :
    Calls Tryd.prog 15 #[.string s] w fun e w' => e = .returned (.int .u32 (UCrc.more 0#32 (bytesOf s)).toNat) ∧ w = w' := by
  have t := taken_any (~~~0#32) s w hs
  rw [show ((BitVec.toNat (~~~0#32)) : Int) = 4294967295 from rfl] at t
  have T := Lib.hid t
  clear t
  go_enter Tryd.func15, Tryd.ntmps15
  go_wp2_with (go_at_call 32; (with_reducible refine T.out.mono ?_); rintro e w' ⟨rfl, rfl⟩)
  go_ret
  exact ⟨by rw [not32']; rfl, rfl⟩
/-- The table's cells. -/
def CrcTab (w : World) : Prop := ∀ i, i < 16 → w.cell? ⟨0, i, none⟩ = some (.int .u32 (UCrc.rows[i]!).toNat)
theorem nibble (R : BitVec 32) : ∃ (i : Nat) (t : BitVec 32), i < 16 ∧ bits BinOp.and IntKind.u32 (R.toNat : Int) 15 = (i : Int) ∧ t = UCrc.rows[i]! ∧ bits BinOp.xor IntKind.u32 ((R.toNat : Int) / 16) (t.toNat : Int) = ((UCrc.steps 4 R).toNat : Int) := by
  refine ⟨(R &&& 15#32).toNat, _, ?_, ?_, rfl, ?_⟩
  · simp
    exact Nat.lt_of_le_of_lt Nat.and_le_right (by omega)
  · rw [Bv.and32]; rfl
  · have e : (R.toNat : Int) / (16 : Int) = ((R >>> 4).toNat : Int) := by rw [← Bv.shr32]; rfl
    rw [e, Bv.xor32, Bv.ofInt_toNat, UCrc.nib]
theorem byte_step (R : BitVec 32) (b : UInt8) {w : World} (ht : CrcTab w) : ∃ (R1 R2 t1 t2 R3 : BitVec 32) (i1 i2 : Nat), i1 < 16 ∧ i2 < 16 ∧ bits BinOp.xor IntKind.u32 (R.toNat : Int) ((b.toNat : Int) % 4294967296) = (R1.toNat : Int) ∧
    bits BinOp.and IntKind.u32 (R1.toNat : Int) 15 = (i1 : Int) ∧ w.cell? ⟨0, i1, none⟩ = some (.int .u32 t1.toNat) ∧ bits BinOp.xor IntKind.u32 ((R1.toNat : Int) / 16) (t1.toNat : Int) = (R2.toNat : Int) ∧
    bits BinOp.and IntKind.u32 (R2.toNat : Int) 15 = (i2 : Int) ∧ w.cell? ⟨0, i2, none⟩ = some (.int .u32 t2.toNat) ∧ bits BinOp.xor IntKind.u32 ((R2.toNat : Int) / 16) (t2.toNat : Int) = (R3.toNat : Int) ∧ R3 = UCrc.byteStep R b.toBitVec := by
  obtain ⟨i1, t1, h1, e1, rfl, x1⟩ := nibble (R ^^^ b.toBitVec.setWidth 32)
  obtain ⟨i2, t2, h2, e2, rfl, x2⟩ := nibble (UCrc.steps 4 (R ^^^ b.toBitVec.setWidth 32))
  refine ⟨_, _, _, _, _, i1, i2, h1, h2, ?_, e1, ht _ h1, x1, e2, ht _ h2, x2, ?_⟩
  · rw [Bv.byte32, Bv.xor32, Bv.ofInt_toNat]
  · rw [← UCrc.steps_add]; rfl
set_option maxHeartbeats 400000 in
theorem crc_more (c : BitVec 32) (s : ByteArray) (w : World) (hs : s.size ≤ maxLen) (ht : CrcTab w) :
    Calls Tryd.prog 16 #[.int .u32 c.toNat, .string s] w fun e w' => e = .returned (.int .u32 (UCrc.more c (bytesOf s)).toNat) ∧ w = w' := by
  have h1 := not32 c
  obtain ⟨d, hd⟩ : ∃ d, d = ~~~c := ⟨_, rfl⟩
  rw [← hd] at h1
  have HD := Lib.hid hd
  clear hd
  have hsg : IntKind.u32.signed = false := rfl
  unfold maxLen at hs
  have HT := Lib.hid ht
  clear ht
  go_enter Tryd.func16, Tryd.ntmps16
  go_wp2
  clear h1
  go_loop [5, 11] (fun g i => ∃ k : Nat, k ≤ s.size ∧ i = .int .i64 k ∧ g = .int .u32 (UCrc.run d ((bytesOf s).take k)).toNat) (fun _ i => s.size - (intOf i).toNat)
  case atStart => exact ⟨0, Nat.zero_le _, rfl, rfl⟩
  case round =>
    obtain ⟨k, hk, rfl, rfl⟩ := hrel
    by_cases hlt : k < s.size
    · have HS := Lib.hid (run_snoc d s k hlt)
      generalize UCrc.run d ((bytesOf s).take k) = R at *
      obtain ⟨R1, R2, t1, t2, R3, i1, i2, l1, l2, e1, e2, c1, e3, e4, c2, e5, e6⟩ := byte_step R s[k] HT.out
      have HE := Lib.hid e6
      clear e6
      go_wp2
      go_round
      case rel => exact ⟨k + 1, by omega, by go_num, by rw [HS.out, HE.out, UCrc.byteStep_bits]⟩
      case measure => simp [intOf]; omega
    · obtain rfl : k = s.size := by omega
      rw [List.take_of_length_le (by rw [bytesOf_length]; omega)]
      generalize hR : UCrc.run d (bytesOf s) = R
      have H2 := Lib.hid (not32 R)
      have HR := Lib.hid hR
      clear hR
      go_wp2
      go_ret
      exact ⟨by unfold UCrc.more; rw [← HD.out, HR.out]; exact (congrArg (fun n => Ending.returned (Value.int IntKind.u32 n)) H2.out), rfl⟩
theorem crc_any (s : ByteArray) (w : World) (hs : s.size ≤ maxLen) (ht : CrcTab w) :
    Calls Tryd.prog 14 #[.string s] w fun e w' => e = .returned (.int .u32 (UCrc.more 0#32 (bytesOf s)).toNat) ∧ w = w' := by
  have T := Lib.hid (crc_more 0#32 s w hs ht)
  clear ht
  rw [show ((BitVec.toNat 0#32) : Int) = 0 from rfl] at T
  go_enter Tryd.func14, Tryd.ntmps14
  go_wp2_with (go_at_call 16; (with_reducible refine T.out.mono ?_); rintro e w' ⟨rfl, rfl⟩)
  go_ret
  exact ⟨rfl, rfl⟩
end Go.Proofs.YtkhfelfdgpfjkaaDoor
