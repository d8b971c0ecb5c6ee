/- Hexadecimal read, the program's and the reference's, walked. -/
import Derived.Test.YtoldmgpnogkjfaaDoorRadixHex
import Derived.Test.YtoldmgpnogkjfaaDoorRadixRefHex
import Derived.Test.YtoldmgpnogkjfaaDoorRadixUnUrl
import Derived.Deep.QuietTactic
import Derived.BigQuiet
import Derived.WalkSmall
namespace Go.Proofs.YtoldmgpnogkjfaaDoor
open Go.RowKit
theorem Bld.drewN {B : Nat} {l : List (BitVec 8)} {w : World} (h : Bld B l w) (n : Nat) : Bld B l (w.drewN n) := h
theorem rdHex_no_mod {s : List (BitVec 8)} (h : s.length % 2 ≠ 0) : URadix.rdHex s = none := by
  unfold URadix.rdHex; rw [if_neg (fun x => h x.1)]
theorem rdHex_no_letter {s : List (BitVec 8)} (h : URadix.allIn URadix.hexA s = false) : URadix.rdHex s = none := by
  unfold URadix.rdHex; rw [if_neg (fun x => by rw [h] at x; exact absurd x.2 (by decide))]
theorem rdHex_yes {s : List (BitVec 8)} (h1 : s.length % 2 = 0) (h2 : URadix.allIn URadix.hexA s = true) : URadix.rdHex s = some (URadix.unhex (URadix.numsOf URadix.hexA s)) := by
  unfold URadix.rdHex; rw [if_pos ⟨h1, h2⟩]
theorem unhex_step (v : List Nat) (m y : Nat) (hm : m < 4 * v.length / 8) (hy : URadix.unhexAt v m = y) : (URadix.unhex v).take (m + 1) = (URadix.unhex v).take m ++ [BitVec.ofNat 8 y] := by
  apply take_snoc
  unfold URadix.unhex
  rw [List.getElem?_map, List.getElem?_range hm, ← hy]; rfl
/-- what the program hands back, the refusal's value known -/
def UnRes (o : Option (List (BitVec 8))) (t : TypeId) (a : Addr) : Value := match o with
  | some p => .tuple #[.string (strOf p), .nilIface]
  | none => .tuple #[.string { data := #[] }, .iface t (.pointer (some a))]
set_option maxHeartbeats 1000000 in
set_option maxRecDepth 100000 in
theorem unHex_any (s : ByteArray) (w : World) (t : TypeId) (a : Addr) (hE : ErrText w t a) (hT : HexTab w) (hs : s.size ≤ 33554432) :
    Calls Tryd.prog 13 #[.string s] w fun e w' => e = .returned (UnRes (URadix.rdHex (bytesOf s)) t a) ∧ Below w.heap.size w w' := by
  have HE := Lib.hid hE
  have HT := Lib.hid hT
  have hsb : (bytesOf s).length = s.size := bytesOf_length s
  clear hT
  by_cases hmod : s.size % 2 = 0
  · have hq : ((s.size : Int) % 2 == 0) = true := by rw [beq_iff_eq]; omega
    have hq' : ((s.size : Int) % 2 != 0) = false := by simp; omega
    have HMOD := Lib.hid hmod
    have HSB := Lib.hid hsb
    have hse : 2 * (s.size / 2) = s.size := by omega
    have HSE := Lib.hid hse
    clear hmod hsb hse hE
    go_enter Tryd.func13, Tryd.ntmps13
    go_wp2
    clear hq hq'
    go_loopw [5, 6, 7, 16] (fun _ _ _ i wr => ∃ k : Nat, k ≤ s.size / 2 ∧ i = .int .i64 k ∧ Hid (URadix.allIn URadix.hexA ((bytesOf s).take (2 * k)) = true) ∧ Bld w.heap.size ((URadix.unhex (URadix.numsOf URadix.hexA (bytesOf s))).take k) wr ∧ Below w.heap.size w wr) (fun _ _ _ i _ => s.size / 2 - (intOf i).toNat)
    case atStart => exact ⟨0, Nat.zero_le _, rfl, Lib.hid rfl, Bld.new w, (Below.refl _ _).alloc (Nat.le_refl _) _⟩
    case round =>
      rename World => wr
      obtain ⟨k, hk, rfl, HA, hB, hb⟩ := hrel
      by_cases hlt : k < s.size / 2
      · obtain ⟨q0, hq0⟩ : ∃ q, q = 2 * k := ⟨_, rfl⟩
        obtain ⟨q1, hq1⟩ : ∃ q, q = q0 + 1 := ⟨_, rfl⟩
        have l0 : q0 < s.size := by omega
        have l1 : q1 < s.size := by omega
        have e0 : IntKind.i64.wrap (2 * (k : Int)) = (q0 : Int) := by rw [IntKind.wrap_i64]; omega
        have e1 : IntKind.i64.wrap ((q0 : Int) + 1) = (q1 : Int) := by rw [IntKind.wrap_i64]; omega
        have n0 : (0 : Int) ≤ (q0 : Int) := by omega
        have n1 : (0 : Int) ≤ (q1 : Int) := by omega
        have m0 : (q0 : Int) < (s.size : Int) := by omega
        have m1 : (q1 : Int) < (s.size : Int) := by omega
        have HC0 := Lib.hid (bytesOf_get s q0 l0)
        have HC1 := Lib.hid (bytesOf_get s q1 l1)
        have HW := Lib.hid (HT.out.below hb)
        have HQ0 := Lib.hid hq0
        have HQ1 := Lib.hid hq1
        clear hq0 hq1
        go_wp2
        go_quiet ((go_at_call 29; exact Calls.quiet_of_same ((digit_any _ _ (by assumption)).mono fun _ _ h => ⟨h.1, h.2.symm⟩)))
        have hBd := hB.drewN nq
        have hbd := below_drewN hb nq
        generalize wr.drewN nq = wd at *
        clear hB hb HW e0 e1
        cases hp0 : URadix.place URadix.hexA s[q0].toBitVec with
        | none =>
          have HF := Lib.hid (congrArg (fun o => UnRes o t a) (rdHex_no_letter (allIn_take_false HC0.out hp0)))
          rw [show placeI none = (-1 : Int) from rfl]
          clear hp0
          go_wp2
          have hc := HE.out.below hbd
          unfold ErrText at hc
          refine wp_region_still_lit (by kernel_rfl) (by kernel_rfl) ?_
          repeat still_step
          refine wpStill_nil ?_
          change Exit.then _ _ _ _ wd.drew
          have hbq := hbd.drew
          generalize wd.drew = wq at *
          clear hc
          go_wp2
          go_ret2
          exact ⟨by rw [HF.out]; rfl, hbq⟩
        | some x0 =>
          cases hp1 : URadix.place URadix.hexA s[q1].toBitVec with
          | none =>
            have HF := Lib.hid (congrArg (fun o => UnRes o t a) (rdHex_no_letter (allIn_take_false HC1.out hp1)))
            have hx0 : (0 : Int) ≤ (x0 : Int) := by omega
            rw [show placeI none = (-1 : Int) from rfl, show placeI (some x0) = (x0 : Int) from rfl]
            clear hp0 hp1
            go_wp2
            have hc := HE.out.below hbd
            unfold ErrText at hc
            refine wp_region_still_lit (by kernel_rfl) (by kernel_rfl) ?_
            repeat still_step
            refine wpStill_nil ?_
            change Exit.then _ _ _ _ wd.drew
            have hbq := hbd.drew
            generalize wd.drew = wq at *
            clear hc
            go_wp2
            go_ret2
            exact ⟨by rw [HF.out]; rfl, hbq⟩
          | some x1 =>
            have hx0 : x0 < 16 := by have := (URadix.place_some hp0).1; exact this
            have hx1 : x1 < 16 := by have := (URadix.place_some hp1).1; exact this
            have HX0 := Lib.hid (numsOf_at HC0.out hp0)
            have HX1 := Lib.hid (numsOf_at HC1.out hp1)
            have HA2 : Hid (URadix.allIn URadix.hexA ((bytesOf s).take (2 * (k + 1))) = true) := Lib.hid (by
              have t1 := allIn_take_succ URadix.hexA (bytesOf s) q1 _ HC1.out
              have t0 := allIn_take_succ URadix.hexA (bytesOf s) q0 _ HC0.out
              rw [hp1] at t1
              rw [hp0, ← HQ1.out] at t0
              rw [show 2 * (k + 1) = q1 + 1 by rw [HQ1.out, HQ0.out]; omega, t1, t0, HQ0.out, HA.out]; rfl)
            rw [show placeI (some x0) = (x0 : Int) from rfl, show placeI (some x1) = (x1 : Int) from rfl]
            clear hp0 hp1 HA
            obtain ⟨y, hy⟩ : ∃ y, y = x0 * 16 + x1 := ⟨_, rfl⟩
            have HT2 := Lib.hid (unhex_step (URadix.numsOf URadix.hexA (bytesOf s)) k y (by rw [URadix.numsOf_length, HSB.out]; omega) (by
              unfold URadix.unhexAt
              rw [show 2 * k = q0 from HQ0.out.symm, show q0 + 1 = q1 from HQ1.out.symm, HX0.out, HX1.out, hy]))
            have hll : ((URadix.unhex (URadix.numsOf URadix.hexA (bytesOf s))).take k).length ≤ k := by rw [List.length_take]; omega
            generalize (URadix.unhex (URadix.numsOf URadix.hexA (bytesOf s))).take k = l at *
            have hyI : 16 * (x0 : Int) + (x1 : Int) = (y : Int) := by omega
            have hy256 : (y : Int) < 256 := by omega
            have HYY : Hid ((y : Int) = ((BitVec.ofNat 8 y).toNat : Int)) := Lib.hid (by rw [BitVec.toNat_ofNat]; omega)
            have HD := Lib.hid (bld_write w.heap.size l (BitVec.ofNat 8 y) wd hBd (by omega) hbd.size)
            rw [← HYY.out] at HD
            have z0 : (0 : Int) ≤ (x0 : Int) := by omega
            have z1 : (0 : Int) ≤ (x1 : Int) := by omega
            have z2 : (x0 : Int) < 16 := by omega
            have z3 : (x1 : Int) < 16 := by omega
            clear hy hBd hll
            go_wp2_with (go_at_call 25; (with_reducible refine HD.out.mono ?_); rintro e w1 ⟨rfl, hB1, hb1⟩)
            go_roundw
            case rel => exact ⟨k + 1, by omega, by go_num, HA2, by rw [HT2.out]; exact hB1, hbd.trans hb1⟩
            case measure => simp [intOf]; omega
      · obtain rfl : k = s.size / 2 := by omega
        have HAA : Hid (URadix.allIn URadix.hexA (bytesOf s) = true) := Lib.hid (by
          have := HA.out
          rwa [HSE.out, List.take_of_length_le (by rw [HSB.out]; omega)] at this)
        have HF := Lib.hid (congrArg (fun o => UnRes o t a) (rdHex_yes (by rw [HSB.out]; exact HMOD.out) HAA.out))
        rw [List.take_of_length_le (by rw [URadix.unhex_length, URadix.numsOf_length, HSB.out]; omega)] at hB
        have HD := Lib.hid (bld_string w.heap.size _ wr hB hb.size)
        generalize URadix.unhex (URadix.numsOf URadix.hexA (bytesOf s)) = d at *
        clear hB
        go_wp2_with (go_at_call 26; (with_reducible refine HD.out.mono ?_); rintro e w1 ⟨rfl, hb1⟩)
        go_ret2
        exact ⟨by rw [HF.out]; rfl, hb.trans hb1⟩
  · have HF := Lib.hid (congrArg (fun o => UnRes o t a) (rdHex_no_mod (s := bytesOf s) (by rw [hsb]; exact hmod)))
    have hq : ((s.size : Int) % 2 == 0) = false := by rw [← Bool.not_eq_true, beq_iff_eq]; omega
    have hb := Below.refl w.heap.size w
    clear hmod hsb hE
    go_enter Tryd.func13, Tryd.ntmps13
    go_wp2
    have hc := HE.out.below hb
    unfold ErrText at hc
    refine wp_region_still_lit (by kernel_rfl) (by kernel_rfl) ?_
    repeat still_step
    refine wpStill_nil ?_
    change Exit.then _ _ _ _ w.drew
    have hbq := hb.drew
    generalize w.drew = wq at *
    clear hc
    go_wp2
    go_ret2
    exact ⟨by rw [HF.out]; rfl, hbq⟩
end Go.Proofs.YtoldmgpnogkjfaaDoor
