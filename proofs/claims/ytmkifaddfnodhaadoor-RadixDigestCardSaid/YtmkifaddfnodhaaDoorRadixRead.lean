/- What the program reads out of letters, walked. -/
import Derived.Test.YtmkifaddfnodhaaDoorRadixWrite
import Derived.Test.YtmkifaddfnodhaaDoorRadixFindP
import Derived.Test.YtmkifaddfnodhaaDoorRadixMeantP
namespace Go.Proofs.YtmkifaddfnodhaaDoor
open Go.RowKit
def bitsAt (k : Nat) : Nat := if k % 4 = 0 then 0 else if k % 4 = 1 then 6 else if k % 4 = 2 then 4 else 2
/-- what is handed back -/
def RdRes (o : Option (List (BitVec 8))) : Value := match o with
  | some p => .tuple #[.string (strOf p), .bool true]
  | none => .tuple #[.string { data := #[] }, .bool false]
theorem rd_no_mod {al s : List (BitVec 8)} (h : s.length % 4 = 1) : URadix.rd al s = none := by
  unfold URadix.rd; rw [if_neg (fun x => x.1 h)]
theorem rd_no_letter {al s : List (BitVec 8)} (h : URadix.allIn al s = false) : URadix.rd al s = none := by
  unfold URadix.rd; rw [if_neg (fun x => by rw [h] at x; exact absurd x.2.1 (by decide))]
theorem rd_no_held {al s : List (BitVec 8)} (h : URadix.heldAt (URadix.numsOf al s) s.length ≠ 0) : URadix.rd al s = none := by
  unfold URadix.rd; rw [if_neg (fun x => h x.2.2)]
theorem rd_yes {al s : List (BitVec 8)} (h1 : s.length % 4 ≠ 1) (h2 : URadix.allIn al s = true) (h3 : URadix.heldAt (URadix.numsOf al s) s.length = 0) : URadix.rd al s = some (URadix.dec (URadix.numsOf al s)) := by
  unfold URadix.rd; rw [if_pos ⟨h1, h2, h3⟩]
theorem numsOf_at {al s : List (BitVec 8)} {k : Nat} {c : BitVec 8} {x : Nat} (hc : s[k]? = some c) (hp : URadix.place al c = some x) : (URadix.numsOf al s).getD k 0 = x := by
  unfold URadix.numsOf
  rw [List.getD_eq_getElem?_getD, List.getElem?_map, hc]
  simp [hp]
theorem dec_step {v : List Nat} (_hv : URadix.Small 64 v) (m y : Nat) (hm : m < 6 * v.length / 8) (hy : URadix.decAt v m = y) : (URadix.dec v).take (m + 1) = (URadix.dec v).take m ++ [BitVec.ofNat 8 y] := by
  apply take_snoc
  unfold URadix.dec
  rw [List.getElem?_map, List.getElem?_range hm, ← hy]; rfl
theorem or_shift6 (h x : Nat) (hh : h < 64) (hx : x < 64) : bits BinOp.or IntKind.u32 (((h * 64 : Nat)) : Int) (x : Int) = ((h * 64 + x : Nat) : Int) := by
  have e1 : h * 64 ||| x = h * 64 + x := by
    have := Nat.shiftLeft_add_eq_or_of_lt (i := 6) (b := x) (by omega) h
    rw [show h <<< 6 = h * 64 from (Nat.shiftLeft_eq h 6).trans (congrArg (h * ·) (by decide))] at this
    exact this.symm
  rw [or_32 _ _ (by omega) (by omega), e1]
theorem and15_32 (a : Nat) (ha : a < 4294967296) : bits BinOp.and IntKind.u32 (a : Int) 15 = ((a % 16 : Nat) : Int) := by
  have e : (a : Int) = ((BitVec.ofNat 32 a).toNat : Int) := by rw [BitVec.toNat_ofNat]; omega
  rw [e, Bv.and32, show BitVec.ofInt 32 15 = BitVec.ofNat 32 15 from rfl, BitVec.toNat_and, BitVec.toNat_ofNat, BitVec.toNat_ofNat, show 15 % 2 ^ 32 = 2 ^ 4 - 1 from rfl, Nat.and_two_pow_sub_one_eq_mod]
  rw [Nat.mod_eq_of_lt (by omega : a < 2 ^ 32)]
theorem and3_32 (a : Nat) (ha : a < 4294967296) : bits BinOp.and IntKind.u32 (a : Int) 3 = ((a % 4 : Nat) : Int) := by
  have e : (a : Int) = ((BitVec.ofNat 32 a).toNat : Int) := by rw [BitVec.toNat_ofNat]; omega
  rw [e, Bv.and32, show BitVec.ofInt 32 3 = BitVec.ofNat 32 3 from rfl, BitVec.toNat_and, BitVec.toNat_ofNat, BitVec.toNat_ofNat, show 3 % 2 ^ 32 = 2 ^ 2 - 1 from rfl, Nat.and_two_pow_sub_one_eq_mod]
  rw [Nat.mod_eq_of_lt (by omega : a < 2 ^ 32)]
theorem and0_32 (a : Nat) : bits BinOp.and IntKind.u32 (a : Int) 0 = 0 := by
  unfold bits
  show IntKind.u32.wrap _ = _
  rw [show IntKind.u32.bits = 32 from rfl, show BitVec.ofInt 32 0 = 0#32 from rfl, BitVec.and_zero]; rfl
set_option maxHeartbeats 2000000 in
set_option maxRecDepth 100000 in
theorem read_any (al s : ByteArray) (w : World) (hal : URadix.Alpha 64 (bytesOf al)) (hs : s.size ≤ 33554432) :
    Calls Tryd.prog 34 #[.string al, .string s] w fun e w' => e = .returned (RdRes (URadix.rd (bytesOf al) (bytesOf s))) ∧ Below w.heap.size w w' := by
  have hals : al.size = 64 := by rw [← bytesOf_length]; exact hal.1
  have hal' : al.size ≤ maxLen := by unfold maxLen; omega
  have HAL := Lib.hid hal
  have HALS := Lib.hid hals
  have hsb : (bytesOf s).length = s.size := bytesOf_length s
  have HSB := Lib.hid hsb
  clear hal hals
  by_cases hmod : s.size % 4 = 1
  · have HF := Lib.hid (congrArg RdRes (rd_no_mod (al := bytesOf al) (s := bytesOf s) (by rw [hsb]; exact hmod)))
    have hq : ((s.size : Int) % 4 == 1) = true := by rw [beq_iff_eq]; omega
    clear hmod hsb
    go_enter Tryd.func34, Tryd.ntmps34
    go_wp2
    go_ret2
    exact ⟨by rw [HF.out]; rfl, Below.refl _ _⟩
  have hq : ((s.size : Int) % 4 == 1) = false := by rw [← Bool.not_eq_true, beq_iff_eq]; omega
  have HMOD := Lib.hid hmod
  have HSM := Lib.hid (URadix.small_numsOf (by omega) HAL.out (bytesOf s))
  have HVL : Hid ((URadix.numsOf (bytesOf al) (bytesOf s)).length = s.size) := Lib.hid (by rw [URadix.numsOf_length, hsb])
  clear hmod hsb
  go_enter Tryd.func34, Tryd.ntmps34
  go_wp2
  clear hq
  go_loopw [7, 8, 9, 10, 17] (fun hd bt _ _ i wr => ∃ (k h b : Nat), k ≤ s.size ∧ i = .int .i64 k ∧ hd = .int .u32 h ∧ bt = .int .i64 b ∧ Hid (h = URadix.heldAt (URadix.numsOf (bytesOf al) (bytesOf s)) k) ∧ Hid (b = bitsAt k) ∧ Hid (URadix.allIn (bytesOf al) ((bytesOf s).take k) = true) ∧ Bld w.heap.size ((URadix.dec (URadix.numsOf (bytesOf al) (bytesOf s))).take (6 * k / 8)) wr ∧ Below w.heap.size w wr) (fun _ _ _ _ i _ => s.size - (intOf i).toNat)
  case atStart => exact ⟨0, 0, 0, Nat.zero_le _, rfl, rfl, rfl, Lib.hid rfl, Lib.hid rfl, Lib.hid rfl, Bld.new w, (Below.refl _ _).alloc (Nat.le_refl _) _⟩
  case round =>
    rename World => wr
    obtain ⟨k, h, b, hk, rfl, rfl, rfl, HH, HB, HA, hB, hb⟩ := hrel
    by_cases hlt : k < s.size
    · have HC := Lib.hid (bytesOf_get s k hlt)
      have HP := Lib.hid (number_any al s[k] wr hal')
      cases hp : URadix.place (bytesOf al) s[k].toBitVec with
      | none =>
        rw [hp] at HP
        have HF := Lib.hid (congrArg RdRes (rd_no_letter (allIn_take_false HC.out hp)))
        clear hp
        change Hid (Calls _ _ _ _ fun e w' => e = .returned (.int .i64 (-1)) ∧ _) at HP
        go_wp2_with (go_at_call 44; (with_reducible refine HP.out.mono ?_); rintro e w1 ⟨rfl, rfl⟩)
        go_ret2
        exact ⟨by rw [HF.out]; rfl, hb⟩
      | some x =>
        rw [hp] at HP
        have HA2 : Hid (URadix.allIn (bytesOf al) ((bytesOf s).take (k + 1)) = true) := Lib.hid (by rw [allIn_take_succ _ _ k _ HC.out, HA.out, hp]; rfl)
        have HX := Lib.hid (numsOf_at HC.out hp)
        have hx64 : x < 64 := by
          have := (URadix.place_some hp).1
          rw [HAL.out.1] at this
          exact this
        clear hp HA HC
        change Hid (Calls _ _ _ _ fun e w' => e = .returned (.int .i64 (x : Int)) ∧ _) at HP
        have hxI : (x : Int) < 64 := by omega
        have hx0 : (0 : Int) ≤ (x : Int) := by omega
        generalize URadix.numsOf (bytesOf al) (bytesOf s) = v at *
        have hpv := HSM.out (k - 1)
        have hv64 : h < 64 := by
          rw [HH.out]; unfold URadix.heldAt
          split
          · omega
          · split
            · exact hpv
            · split <;> omega
        obtain ⟨N, hN⟩ : ∃ N, N = h * 64 + x := ⟨_, rfl⟩
        have hN2 : N < 4096 := by omega
        obtain ⟨z, hz⟩ : ∃ z, z = h * 64 := ⟨_, rfl⟩
        have s0 : (h : Int) * 64 = (z : Int) := by omega
        have o0 : bits BinOp.or IntKind.u32 (z : Int) (x : Int) = (N : Int) := by rw [hz, hN]; exact or_shift6 h x hv64 hx64
        have hsg : IntKind.u32.signed = false := rfl
        have hsg2 : IntKind.u64.signed = false := rfl
        have hr : k % 4 = 0 ∨ k % 4 = 1 ∨ k % 4 = 2 ∨ k % 4 = 3 := by omega
        rcases hr with hr | hr | hr | hr
        · have hb0 : b = 0 := by rw [HB.out]; unfold bitsAt; rw [if_pos hr]
          subst hb0
          have HT : Hid (6 * (k + 1) / 8 = 6 * k / 8) := Lib.hid (by omega)
          have HB2 : Hid (6 = bitsAt (k + 1)) := Lib.hid (by unfold bitsAt; rw [if_neg (by omega), if_pos (by omega)])
          have HH2 : Hid (N = URadix.heldAt v (k + 1)) := Lib.hid (by
            unfold URadix.heldAt
            rw [if_neg (by omega), if_pos (by omega), show k + 1 - 1 = k by omega, HX.out]
            have := HH.out
            unfold URadix.heldAt at this
            rw [if_pos hr] at this
            omega)
          rw [show (((0 : Nat)) : Int) = (0 : Int) from rfl]
          clear hz hN hr HH HB
          go_wp2_with (go_at_call 44; (with_reducible refine HP.out.mono ?_); rintro e w1 ⟨rfl, rfl⟩)
          go_roundw
          case rel => exact ⟨k + 1, N, 6, by omega, by go_num, rfl, rfl, HH2, HB2, HA2, by rw [HT.out]; exact hB, hb⟩
          case measure => simp [intOf]; omega
        · have hb0 : b = 6 := by rw [HB.out]; unfold bitsAt; rw [if_neg (by omega), if_pos hr]
          subst hb0
          have hheld : h = v.getD (k - 1) 0 := by rw [HH.out]; unfold URadix.heldAt; rw [if_neg (by omega), if_pos hr]
          obtain ⟨y, hy⟩ : ∃ y, y = N / 16 := ⟨_, rfl⟩
          have hy256 : y < 256 := by omega
          have HDE : Hid (URadix.decAt v (6 * k / 8) = y) := Lib.hid (by
            unfold URadix.decAt
            rw [if_pos (by omega), show 4 * (6 * k / 8 / 3) = k - 1 by omega, show k - 1 + 1 = k by omega, HX.out, hy, hN, hheld]
            omega)
          have HT := Lib.hid (dec_step HSM.out (6 * k / 8) y (by rw [HVL.out]; omega) HDE.out)
          have HT2 : Hid (6 * (k + 1) / 8 = 6 * k / 8 + 1) := Lib.hid (by omega)
          have HB2 : Hid (4 = bitsAt (k + 1)) := Lib.hid (by unfold bitsAt; rw [if_neg (by omega), if_neg (by omega), if_pos (by omega)])
          obtain ⟨h2, hh2⟩ : ∃ h2, h2 = x % 16 := ⟨_, rfl⟩
          have HH2 : Hid (h2 = URadix.heldAt v (k + 1)) := Lib.hid (by
            unfold URadix.heldAt
            rw [if_neg (by omega), if_neg (by omega), if_pos (by omega), show k + 1 - 1 = k by omega, HX.out]; exact hh2)
          have e1 : (N : Int) / 16 = (y : Int) := by omega
          have e2 : bits BinOp.and IntKind.u32 (N : Int) 15 = (h2 : Int) := by rw [and15_32 _ (by omega), hh2, hN]; omega
          have HYY : Hid ((y : Int) = ((BitVec.ofNat 8 y).toNat : Int)) := Lib.hid (by rw [BitVec.toNat_ofNat]; omega)
          have hyI : (y : Int) < 256 := by omega
          have hll : ((URadix.dec v).take (6 * k / 8)).length ≤ 6 * k / 8 := by rw [List.length_take]; omega
          generalize (URadix.dec v).take (6 * k / 8) = l at *
          have HD := Lib.hid (bld_write w.heap.size l (BitVec.ofNat 8 y) wr hB (by omega) hb.size)
          rw [← HYY.out] at HD
          rw [show (((6 : Nat)) : Int) = (6 : Int) from rfl]
          clear hz hN hr HH HB hB hy hheld hll hh2
          go_wp2_with (first
            | (go_at_call 44; (with_reducible refine HP.out.mono ?_); rintro e w1 ⟨rfl, rfl⟩)
            | (go_at_call 32; (with_reducible refine HD.out.mono ?_); rintro e w1 ⟨rfl, hB1, hb1⟩))
          go_roundw
          case rel => exact ⟨k + 1, h2, 4, by omega, by go_num, rfl, rfl, HH2, HB2, HA2, by rw [HT2.out, HT.out]; exact hB1, hb.trans hb1⟩
          case measure => simp [intOf]; omega
        · have hb0 : b = 4 := by rw [HB.out]; unfold bitsAt; rw [if_neg (by omega), if_neg (by omega), if_pos hr]
          subst hb0
          have hheld : h = v.getD (k - 1) 0 % 16 := by rw [HH.out]; unfold URadix.heldAt; rw [if_neg (by omega), if_neg (by omega), if_pos hr]
          obtain ⟨y, hy⟩ : ∃ y, y = N / 4 := ⟨_, rfl⟩
          have hy256 : y < 256 := by omega
          have HDE : Hid (URadix.decAt v (6 * k / 8) = y) := Lib.hid (by
            unfold URadix.decAt
            rw [if_neg (by omega), if_pos (by omega), show 4 * (6 * k / 8 / 3) + 1 = k - 1 by omega, show 4 * (6 * k / 8 / 3) + 2 = k by omega, HX.out, hy, hN, hheld]
            omega)
          have HT := Lib.hid (dec_step HSM.out (6 * k / 8) y (by rw [HVL.out]; omega) HDE.out)
          have HT2 : Hid (6 * (k + 1) / 8 = 6 * k / 8 + 1) := Lib.hid (by omega)
          have HB2 : Hid (2 = bitsAt (k + 1)) := Lib.hid (by unfold bitsAt; rw [if_neg (by omega), if_neg (by omega), if_neg (by omega)])
          obtain ⟨h2, hh2⟩ : ∃ h2, h2 = x % 4 := ⟨_, rfl⟩
          have HH2 : Hid (h2 = URadix.heldAt v (k + 1)) := Lib.hid (by
            unfold URadix.heldAt
            rw [if_neg (by omega), if_neg (by omega), if_neg (by omega), show k + 1 - 1 = k by omega, HX.out]; exact hh2)
          have e1 : (N : Int) / 4 = (y : Int) := by omega
          have e2 : bits BinOp.and IntKind.u32 (N : Int) 3 = (h2 : Int) := by rw [and3_32 _ (by omega), hh2, hN]; omega
          have HYY : Hid ((y : Int) = ((BitVec.ofNat 8 y).toNat : Int)) := Lib.hid (by rw [BitVec.toNat_ofNat]; omega)
          have hyI : (y : Int) < 256 := by omega
          have hll : ((URadix.dec v).take (6 * k / 8)).length ≤ 6 * k / 8 := by rw [List.length_take]; omega
          generalize (URadix.dec v).take (6 * k / 8) = l at *
          have HD := Lib.hid (bld_write w.heap.size l (BitVec.ofNat 8 y) wr hB (by omega) hb.size)
          rw [← HYY.out] at HD
          rw [show (((4 : Nat)) : Int) = (4 : Int) from rfl]
          clear hz hN hr HH HB hB hy hheld hll hh2
          go_wp2_with (first
            | (go_at_call 44; (with_reducible refine HP.out.mono ?_); rintro e w1 ⟨rfl, rfl⟩)
            | (go_at_call 32; (with_reducible refine HD.out.mono ?_); rintro e w1 ⟨rfl, hB1, hb1⟩))
          go_roundw
          case rel => exact ⟨k + 1, h2, 2, by omega, by go_num, rfl, rfl, HH2, HB2, HA2, by rw [HT2.out, HT.out]; exact hB1, hb.trans hb1⟩
          case measure => simp [intOf]; omega
        · have hb0 : b = 2 := by rw [HB.out]; unfold bitsAt; rw [if_neg (by omega), if_neg (by omega), if_neg (by omega)]
          subst hb0
          have hheld : h = v.getD (k - 1) 0 % 4 := by rw [HH.out]; unfold URadix.heldAt; rw [if_neg (by omega), if_neg (by omega), if_neg (by omega)]
          obtain ⟨y, hy⟩ : ∃ y, y = N / 1 := ⟨_, rfl⟩
          have hy256 : y < 256 := by omega
          have HDE : Hid (URadix.decAt v (6 * k / 8) = y) := Lib.hid (by
            unfold URadix.decAt
            rw [if_neg (by omega), if_neg (by omega), show 4 * (6 * k / 8 / 3) + 2 = k - 1 by omega, show 4 * (6 * k / 8 / 3) + 3 = k by omega, HX.out, hy, hN, hheld]
            omega)
          have HT := Lib.hid (dec_step HSM.out (6 * k / 8) y (by rw [HVL.out]; omega) HDE.out)
          have HT2 : Hid (6 * (k + 1) / 8 = 6 * k / 8 + 1) := Lib.hid (by omega)
          have HB2 : Hid (0 = bitsAt (k + 1)) := Lib.hid (by unfold bitsAt; rw [if_pos (by omega)])
          obtain ⟨h2, hh2⟩ : ∃ h2, h2 = 0 := ⟨_, rfl⟩
          have HH2 : Hid (h2 = URadix.heldAt v (k + 1)) := Lib.hid (by
            unfold URadix.heldAt
            rw [if_pos (by omega)]; exact hh2)
          obtain rfl : y = N := by omega
          have hh2z := hh2
          have e2 := and0_32 y
          have HYY : Hid ((y : Int) = ((BitVec.ofNat 8 y).toNat : Int)) := Lib.hid (by rw [BitVec.toNat_ofNat]; omega)
          have hyI : (y : Int) < 256 := by omega
          have hll : ((URadix.dec v).take (6 * k / 8)).length ≤ 6 * k / 8 := by rw [List.length_take]; omega
          generalize (URadix.dec v).take (6 * k / 8) = l at *
          have HD := Lib.hid (bld_write w.heap.size l (BitVec.ofNat 8 y) wr hB (by omega) hb.size)
          rw [← HYY.out] at HD
          rw [show (((2 : Nat)) : Int) = (2 : Int) from rfl]
          clear hz hN hr HH HB hB hy hheld hll hh2
          go_wp2_with (first
            | (go_at_call 44; (with_reducible refine HP.out.mono ?_); rintro e w1 ⟨rfl, rfl⟩)
            | (go_at_call 32; (with_reducible refine HD.out.mono ?_); rintro e w1 ⟨rfl, hB1, hb1⟩))
          go_roundw
          case rel => exact ⟨k + 1, h2, 0, by omega, by go_num, (by rw [hh2z]; rfl), rfl, HH2, HB2, HA2, by rw [HT2.out, HT.out]; exact hB1, hb.trans hb1⟩
          case measure => simp [intOf]; omega
    · obtain rfl : k = s.size := by omega
      have hfull : (URadix.dec (URadix.numsOf (bytesOf al) (bytesOf s))).take (6 * s.size / 8) = URadix.dec (URadix.numsOf (bytesOf al) (bytesOf s)) := List.take_of_length_le (by rw [URadix.dec_length, HVL.out]; omega)
      rw [hfull] at hB
      have HAA : Hid (URadix.allIn (bytesOf al) (bytesOf s) = true) := Lib.hid (by
        have := HA.out
        rwa [List.take_of_length_le (by rw [HSB.out]; omega)] at this)
      clear hfull
      by_cases h0 : h = 0
      · have HF := Lib.hid (congrArg RdRes (rd_yes (by rw [HSB.out]; exact HMOD.out) HAA.out (by rw [HSB.out, ← HH.out]; exact h0)))
        have HD := Lib.hid (bld_string w.heap.size _ wr hB hb.size)
        generalize URadix.dec (URadix.numsOf (bytesOf al) (bytesOf s)) = d at *
        subst h0
        rw [show (((0 : Nat)) : Int) = (0 : Int) from rfl]
        clear hB
        go_wp2_with (go_at_call 33; (with_reducible refine HD.out.mono ?_); rintro e w1 ⟨rfl, hb1⟩)
        go_ret2
        exact ⟨by rw [HF.out]; rfl, hb.trans hb1⟩
      · have HF := Lib.hid (congrArg RdRes (rd_no_held (al := bytesOf al) (s := bytesOf s) (by rw [HSB.out, ← HH.out]; exact h0)))
        have hq : ((h : Int) == 0) = false := by rw [← Bool.not_eq_true, beq_iff_eq]; omega
        clear h0 hB
        go_wp2
        go_ret2
        exact ⟨by rw [HF.out]; rfl, hb⟩
end Go.Proofs.YtmkifaddfnodhaaDoor
