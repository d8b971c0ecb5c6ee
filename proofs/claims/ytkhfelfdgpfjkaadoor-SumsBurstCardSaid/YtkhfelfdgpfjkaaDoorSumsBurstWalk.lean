/- Bits turned within 32 places: the walk, and that the sum turns. -/
import Derived.Test.YtkhfelfdgpfjkaaDoorStr
import Derived.Test.YtkhfelfdgpfjkaaDoorSumsMoreWalk
namespace Go.Proofs.YtkhfelfdgpfjkaaDoor
open Go.RowKit
/-- the text with the first k bits of the mask turned -/
def flipTo (l : List (BitVec 8)) (p : Nat) (m : BitVec 32) : Nat → List (BitVec 8)
  | 0 => l
  | k + 1 => if p + k < 8 * l.length ∧ m.getLsbD k = true then (flipTo l p m k).set ((p + k) / 8) ((flipTo l p m k).getD ((p + k) / 8) 0#8 ^^^ (1#8 <<< ((p + k) % 8))) else flipTo l p m k
def anyTo (l : List (BitVec 8)) (p : Nat) (m : BitVec 32) : Nat → Bool
  | 0 => false
  | k + 1 => if p + k < 8 * l.length ∧ m.getLsbD k = true then true else anyTo l p m k
theorem flipTo_length (l : List (BitVec 8)) (p : Nat) (m : BitVec 32) (k : Nat) : (flipTo l p m k).length = l.length := by
  induction k with
  | zero => rfl
  | succ k ih => simp only [flipTo]; split <;> simp [ih]
theorem mask_bit (m : BitVec 32) (k : Nat) : bits BinOp.and IntKind.u32 ((m.toNat : Int) / 2 ^ k) 1 = if m.getLsbD k then 1 else 0 := by
  rw [Bv.shr32, Bv.bits1]
  have : (m >>> k).getLsbD 0 = m.getLsbD k := by rw [BitVec.getLsbD_ushiftRight]; rfl
  rw [this]
set_option maxHeartbeats 800000 in
theorem flipped_any (s : ByteArray) (p : Nat) (m : BitVec 32) (w : World) (hs : s.size ≤ reachBytes) (hp : p ≤ 8 * s.size) :
    Calls Tryd.prog 19 #[.string s, .int .i64 p, .int .u32 m.toNat] w fun e w' => e = .returned (.tuple #[.string (strOf (flipTo (bytesOf s) p m 32)), .bool (anyTo (bytesOf s) p m 32)]) ∧ Below w.heap.size w w' := by
  have hs' := hs
  unfold reachBytes at hs
  go_enter Tryd.func19, Tryd.ntmps19
  go_wp2_with (go_at_call 31; (with_reducible refine (kit_bytes s _ hs').mono ?_); rintro e w1 ⟨v, rfl, hown, hb⟩)
  obtain ⟨v', hv⟩ : ∃ v', v' = v := ⟨v, rfl⟩
  have hform : ∃ a c, v = .slice a s.size c := by
    rcases hown.2 with ⟨rfl, h0⟩ | ⟨g, cap, cur, rfl, _⟩
    · exact ⟨none, 0, by rw [h0]⟩
    · exact ⟨_, _, rfl⟩
  obtain ⟨a, c, rfl⟩ := hform
  clear hv
  go_loopw [9, 10] (fun g i wr => ∃ k : Nat, k ≤ 32 ∧ i = .int .i64 k ∧ g = .bool (anyTo (bytesOf s) p m k) ∧ wr.ownsRow w.heap.size 5 1 (.slice a s.size c) s.size (u8s (flipTo (bytesOf s) p m k)) ∧ Below w.heap.size w wr) (fun _ i _ => 32 - (intOf i).toNat)
  case atStart => exact ⟨0, by omega, rfl, rfl, hown, hb⟩
  case round =>
    obtain ⟨k, hk, rfl, rfl, hown, hb⟩ := hrel
    by_cases hlt : k < 32
    · have hm := mask_bit m k
      by_cases hin : p + k < 8 * s.size
      · cases hbit : m.getLsbD k
        · have hF := Lib.hid (show flipTo (bytesOf s) p m (k + 1) = flipTo (bytesOf s) p m k from by simp [flipTo, hbit])
          have hA := Lib.hid (show anyTo (bytesOf s) p m (k + 1) = anyTo (bytesOf s) p m k from by simp [anyTo, hbit])
          rw [hbit] at hm
          clear hbit
          go_wp2
          go_roundw
          case rel => exact ⟨k + 1, by omega, by go_num, by rw [hA.out], by rw [hF.out]; exact hown, hb⟩
          case measure => simp [intOf]; omega
        · have hF := Lib.hid (show flipTo (bytesOf s) p m (k + 1) = (flipTo (bytesOf s) p m k).set ((p + k) / 8) ((flipTo (bytesOf s) p m k).getD ((p + k) / 8) 0#8 ^^^ (1#8 <<< ((p + k) % 8))) from by simp [flipTo, hbit, bytesOf_length, hin])
          have hA := Lib.hid (show anyTo (bytesOf s) p m (k + 1) = true from by simp [anyTo, hbit, bytesOf_length, hin])
          have hl := flipTo_length (bytesOf s) p m k
          rw [bytesOf_length] at hl
          generalize flipTo (bytesOf s) p m k = L at *
          obtain ⟨g, hg⟩ : ∃ g, a = some ⟨g, 0, none⟩ := by
            rcases hown.2 with ⟨h0, h1⟩ | ⟨g, cap, cur, h0, _⟩
            · omega
            · simp at h0; exact ⟨g, h0.1⟩
          subst hg
          have hj : (p + k) / 8 < s.size := by omega
          have hc := hown.cellAt ((p + k) / 8) (by omega)
          have hfz := hown.frozenAt ((p + k) / 8)
          obtain ⟨hst, hgr⟩ := hown.stored ((p + k) / 8) (.int .u8 ((L.getD ((p + k) / 8) 0#8 ^^^ (1#8 <<< ((p + k) % 8))).toNat : Int))
          obtain ⟨b, hbL⟩ : ∃ b, L[(p + k) / 8]? = some b := ⟨_, List.getElem?_eq_getElem (by omega)⟩
          rw [show (u8s L)[(p + k) / 8]? = some (.int .u8 (b.toNat : Int)) from by simp [u8s, hbL]] at hc
          rw [List.getD_eq_getElem?_getD, hbL, Option.getD_some] at hst hF hgr
          have HS := Lib.hid hst
          have HG := Lib.hid hgr
          clear hst hgr hbL hl
          rw [hbit] at hm
          clear hbit
          go_wp2
          go_roundw
          case rel =>
            refine ⟨k + 1, by omega, by go_num, by rw [hA.out], ?_, ?_⟩
            · rw [hF.out, Bv.flip8]
              have e : u8s (L.set ((p + k) / 8) (b ^^^ (1#8 <<< ((p + k) % 8)))) = (u8s L).set ((p + k) / 8) (.int .u8 ((b ^^^ (1#8 <<< ((p + k) % 8))).toNat : Int)) := by simp [u8s, List.map_set]
              rw [e]
              exact HS.out
            · exact hb.setCell (by
                rcases hown.2 with ⟨h0, h1⟩ | ⟨g', cap, cur, h0, hge, _⟩
                · simp at h0
                · simp at h0; rw [h0.1]; exact hge) _
          case measure => simp [intOf]; omega
      · have hF := Lib.hid (show flipTo (bytesOf s) p m (k + 1) = flipTo (bytesOf s) p m k from by simp [flipTo, bytesOf_length, hin])
        have hA := Lib.hid (show anyTo (bytesOf s) p m (k + 1) = anyTo (bytesOf s) p m k from by simp [anyTo, bytesOf_length, hin])
        go_wp2
        go_roundw
        case rel => exact ⟨k + 1, by omega, by go_num, by rw [hA.out], by rw [hF.out]; exact hown, hb⟩
        case measure => simp [intOf]; omega
    · obtain rfl : k = 32 := by omega
      have hcv := conv_own hown
      go_wp2
      go_ret2
      exact ⟨rfl, hb⟩
theorem one_shl_bit (i t : Nat) (ht : t < 8) : (1#8 <<< i).getLsbD t = decide (t = i) := by
  rw [BitVec.getLsbD_shiftLeft]
  by_cases h : t = i
  · subst h; simp [ht]
  · by_cases h2 : t < i
    · simp [h2, h]
    · have : (1#8).getLsbD (t - i) = false := by
        rw [BitVec.getLsbD_one]; simp; omega
      simp [this, h]
theorem flipTo_bit (l : List (BitVec 8)) (p : Nat) (m : BitVec 32) (k j : Nat) :
    ((flipTo l p m k).getD (j / 8) 0#8).getLsbD (j % 8) = ((l.getD (j / 8) 0#8).getLsbD (j % 8) ^^ decide (p ≤ j ∧ j - p < k ∧ j < 8 * l.length ∧ m.getLsbD (j - p) = true)) := by
  induction k with
  | zero => simp [flipTo]
  | succ k ih =>
    by_cases hc : p + k < 8 * l.length ∧ m.getLsbD k = true
    · have e : flipTo l p m (k + 1) = (flipTo l p m k).set ((p + k) / 8) ((flipTo l p m k).getD ((p + k) / 8) 0#8 ^^^ (1#8 <<< ((p + k) % 8))) := by simp [flipTo, hc]
      rw [e]
      by_cases hq : j / 8 = (p + k) / 8
      · have hlen : (p + k) / 8 < (flipTo l p m k).length := by rw [flipTo_length]; omega
        have e2 : ((flipTo l p m k).set ((p + k) / 8) ((flipTo l p m k).getD ((p + k) / 8) 0#8 ^^^ (1#8 <<< ((p + k) % 8)))).getD (j / 8) 0#8 = (flipTo l p m k).getD (j / 8) 0#8 ^^^ (1#8 <<< ((p + k) % 8)) := by
          rw [hq, List.getD_eq_getElem?_getD, List.getElem?_set_self hlen]; rfl
        rw [e2, BitVec.getLsbD_xor, ih, one_shl_bit _ _ (by omega)]
        by_cases hj : j = p + k
        · subst hj
          have d1 : decide (p ≤ p + k ∧ p + k - p < k ∧ p + k < 8 * l.length ∧ m.getLsbD (p + k - p) = true) = false := by simp
          have d2 : decide (p ≤ p + k ∧ p + k - p < k + 1 ∧ p + k < 8 * l.length ∧ m.getLsbD (p + k - p) = true) = true := by simp [hc]
          rw [d1, d2]; simp
        · have d1 : decide (j % 8 = (p + k) % 8) = false := by simp; omega
          have d2 : decide (p ≤ j ∧ j - p < k + 1 ∧ j < 8 * l.length ∧ m.getLsbD (j - p) = true) = decide (p ≤ j ∧ j - p < k ∧ j < 8 * l.length ∧ m.getLsbD (j - p) = true) := by
            apply decide_eq_decide.2
            constructor
            · rintro ⟨a, b, c, d⟩; exact ⟨a, by omega, c, d⟩
            · rintro ⟨a, b, c, d⟩; exact ⟨a, by omega, c, d⟩
          rw [d1, d2]; simp
      · have e2 : ((flipTo l p m k).set ((p + k) / 8) ((flipTo l p m k).getD ((p + k) / 8) 0#8 ^^^ (1#8 <<< ((p + k) % 8)))).getD (j / 8) 0#8 = (flipTo l p m k).getD (j / 8) 0#8 := by
          rw [List.getD_eq_getElem?_getD, List.getElem?_set_ne (by omega), List.getD_eq_getElem?_getD]
        rw [e2, ih]
        congr 1
        apply decide_eq_decide.2
        constructor
        · rintro ⟨a, b, c, d⟩; exact ⟨a, by omega, c, d⟩
        · rintro ⟨a, b, c, d⟩
          refine ⟨a, ?_, c, d⟩
          have : j ≠ p + k := by rintro rfl; exact hq rfl
          omega
    · have e : flipTo l p m (k + 1) = flipTo l p m k := by simp only [flipTo]; rw [if_neg hc]
      rw [e, ih]
      congr 1
      apply decide_eq_decide.2
      constructor
      · rintro ⟨a, b, c, d⟩; exact ⟨a, by omega, c, d⟩
      · rintro ⟨a, b, c, d⟩
        refine ⟨a, ?_, c, d⟩
        have : j - p ≠ k := by rintro rfl; exact hc ⟨by omega, d⟩
        omega
theorem anyTo_some (l : List (BitVec 8)) (p : Nat) (m : BitVec 32) (k : Nat) (h : anyTo l p m k = true) : ∃ i, i < k ∧ p + i < 8 * l.length ∧ m.getLsbD i = true := by
  induction k with
  | zero => cases h
  | succ k ih =>
    by_cases hc : p + k < 8 * l.length ∧ m.getLsbD k = true
    · exact ⟨k, by omega, hc⟩
    · have e : anyTo l p m (k + 1) = anyTo l p m k := by simp only [anyTo]; rw [if_neg hc]
      rw [e] at h
      obtain ⟨i, h1, h2⟩ := ih h
      exact ⟨i, by omega, h2⟩
theorem burst_told (l : List (BitVec 8)) (p : Nat) (m : BitVec 32) (h : anyTo l p m 32 = true) : UCrc.more 0#32 l ≠ UCrc.more 0#32 (flipTo l p m 32) := by
  obtain ⟨i, hi, hin, hbit⟩ := anyTo_some l p m 32 h
  intro he
  unfold UCrc.more at he
  have he' : UCrc.run (~~~0#32) l = UCrc.run (~~~0#32) (flipTo l p m 32) := by
    have := congrArg (fun x => ~~~x) he
    simpa only [BitVec.not_not] using this
  have hx := UCrc.run_xor l (flipTo l p m 32) (~~~0#32) (~~~0#32) (flipTo_length l p m 32).symm
  rw [← he', BitVec.xor_self, BitVec.xor_self, UCrc.run_bits] at hx
  have hb : ∀ j, (UCrc.bitsOf (List.zipWith (· ^^^ ·) l (flipTo l p m 32))).getD j false = decide (p ≤ j ∧ j - p < 32 ∧ j < 8 * l.length ∧ m.getLsbD (j - p) = true) := by
    intro j
    rw [UCrc.bitsOf_get]
    have e : (List.zipWith (· ^^^ ·) l (flipTo l p m 32)).getD (j / 8) 0#8 = l.getD (j / 8) 0#8 ^^^ (flipTo l p m 32).getD (j / 8) 0#8 := by
      rw [List.getD_eq_getElem?_getD, List.getElem?_zipWith, List.getD_eq_getElem?_getD, List.getD_eq_getElem?_getD]
      by_cases hj : j / 8 < l.length
      · rw [List.getElem?_eq_getElem hj, List.getElem?_eq_getElem (by rw [flipTo_length]; exact hj)]; rfl
      · rw [List.getElem?_eq_none (by omega), List.getElem?_eq_none (by rw [flipTo_length]; omega)]; rfl
    rw [e, BitVec.getLsbD_xor, flipTo_bit, ← Bool.xor_assoc, Bool.xor_self, Bool.false_xor]
  refine UCrc.burst _ p (fun j hj => ?_) (fun j hj => ?_) (p + i) ?_ hx
  · rw [hb]; simp; omega
  · rw [hb]; simp; omega
  · rw [hb]; simp [hbit, hi, hin]
set_option maxHeartbeats 400000 in
theorem sumsBurst_walk (s : ByteArray) (k : Int) (m : BitVec 32) (W : World) (hs : s.size ≤ reachBytes) (hk : (Lit.int .i64 k).wf = true) (ht : CrcTab W) :
    Calls Tryd.prog 5 #[.agg #[.string s, .int .i64 k, .int .u32 m.toNat]] W fun e w' => e = .returned (.bool true) ∧ Below W.heap.size W w' := by
  have hT : CrcTab (W.alloc (.cells #[.string s, .int .i64 k, .int .u32 m.toNat] 30)) := ht.below ((Below.refl _ _).alloc (Nat.le_refl _) _)
  have hbl : Below W.heap.size W (W.alloc (.cells #[.string s, .int .i64 k, .int .u32 m.toNat] 30)) := (Below.refl _ _).alloc (Nat.le_refl _) _
  have HT := Lib.hid hT
  clear ht hT
  have hs2 := hs
  unfold reachBytes at hs2
  have hsm : s.size ≤ maxLen := by unfold maxLen; omega
  obtain ⟨p, hp, hpick⟩ : ∃ p : Nat, p ≤ 8 * s.size ∧ ∀ w, Calls Tryd.prog 18 #[.int .i64 k, .int .i64 (8 * (s.size : Int))] w fun e w' => (e = .returned (.int .i64 p) ∧ w = w') := by
    by_cases h0 : s.size = 0
    · refine ⟨0, by omega, fun w => ?_⟩
      exact kit_pick_none k _ w (by omega)
    · have h1 := Int.emod_nonneg k (show (8 * (s.size : Int)) ≠ 0 by omega)
      have h2 := Int.emod_lt_of_pos k (show 0 < 8 * (s.size : Int) by omega)
      refine ⟨(k % (8 * (s.size : Int))).toNat, by omega, fun w => ?_⟩
      rw [Int.toNat_of_nonneg h1]
      exact kit_pick k _ w hk (by omega) (by omega)
  have HP := Lib.hid hpick
  clear hpick
  have hbt := burst_told (bytesOf s) p m
  have HB := Lib.hid hbt
  clear hbt
  have hlen : (strOf (flipTo (bytesOf s) p m 32)).size ≤ maxLen := by rw [strOf_size, flipTo_length, bytesOf_length]; exact hsm
  have hbs := bytesOf_strOf (flipTo (bytesOf s) p m 32)
  have HBS := Lib.hid hbs
  clear hbs
  have hfl := fun w => flipped_any s p m w hs hp
  have HF := Lib.hid hfl
  clear hfl hp
  generalize flipTo (bytesOf s) p m 32 = L at *
  cases hany : anyTo (bytesOf s) p m 32
  · rw [hany] at HF
    clear hany
    go_enter Tryd.func5, Tryd.ntmps5
    go_wp2_with (first
      | (go_at_call 18; (with_reducible refine (HP.out _).mono ?_); rintro e w' ⟨rfl, rfl⟩)
      | (go_at_call 19; (with_reducible refine (HF.out _).mono ?_); rintro e w1 ⟨rfl, hb1⟩))
    go_ret
    exact ⟨rfl, hbl.trans (hb1.mono (by simp))⟩
  · have HNE := Lib.hid (HB.out hany)
    rw [hany] at HF
    clear hany
    go_enter Tryd.func5, Tryd.ntmps5
    go_wp2_with (first
      | (go_at_call 18; (with_reducible refine (HP.out _).mono ?_); rintro e w' ⟨rfl, rfl⟩)
      | (go_at_call 19; (with_reducible refine (HF.out _).mono ?_); rintro e w1 ⟨rfl, hb1⟩; have HT1 := Lib.hid (HT.out.below hb1); have hcc := fun o (ho : o < 3) => hb1.cell (p := ⟨W.heap.size, o, none⟩) (by simp); have HCC := Lib.hid hcc; clear hcc; have hc0 := HCC.out 0 (by omega))
      | (go_at_call 14; (with_reducible refine (crc_any s _ hsm HT1.out).mono ?_); rintro e w' ⟨rfl, rfl⟩)
      | (go_at_call 14; (with_reducible refine (crc_any (strOf L) _ hlen HT1.out).mono ?_); rintro e w' ⟨rfl, rfl⟩; rw [HBS.out]))
    go_ret
    refine ⟨?_, hbl.trans (hb1.mono (by simp))⟩
    have hne := HNE.out
    have : ((UCrc.more 0#32 (bytesOf s)).toNat : Int) ≠ ((UCrc.more 0#32 L).toNat : Int) := by
      intro h
      exact hne (BitVec.eq_of_toNat_eq (by omega))
    simpa using this
end Go.Proofs.YtkhfelfdgpfjkaaDoor
