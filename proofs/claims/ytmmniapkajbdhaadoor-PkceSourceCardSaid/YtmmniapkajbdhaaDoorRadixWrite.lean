/- The program's letters of a text, walked. -/
import Derived.Test.YtmmniapkajbdhaaDoorRadixBld
import Derived.BigQuiet
import Derived.StillTailTactics
import Derived.Deep.Cut
namespace Go.Proofs.YtmmniapkajbdhaaDoor
open Go.RowKit
theorem bytesOf_drop (a : ByteArray) (n : Nat) : bytesOf (a.extract n a.size) = (bytesOf a).drop n := by
  simp [bytesOf, ByteArray.data_extract, List.map_drop]
  exact List.take_of_length_le (by simp)
theorem Bld.drew {B : Nat} {l : List (BitVec 8)} {w : World} (h : Bld B l w) : Bld B l w.drew := h
theorem and63_32 (a : Nat) (ha : a < 4294967296) : bits BinOp.and IntKind.u32 (a : Int) 63 = ((a % 64 : Nat) : Int) := by
  have e : (a : Int) = ((BitVec.ofNat 32 a).toNat : Int) := by rw [BitVec.toNat_ofNat]; omega
  rw [e, Bv.and32, show BitVec.ofInt 32 63 = BitVec.ofNat 32 63 from rfl, BitVec.toNat_and, BitVec.toNat_ofNat, BitVec.toNat_ofNat, show 63 % 2 ^ 32 = 2 ^ 6 - 1 from rfl, Nat.and_two_pow_sub_one_eq_mod]
  rw [Nat.mod_eq_of_lt (by omega : a < 2 ^ 32)]
theorem or_32 (a b : Nat) (ha : a < 4294967296) (hb : b < 4294967296) : bits BinOp.or IntKind.u32 (a : Int) (b : Int) = ((a ||| b : Nat) : Int) := by
  have e : (a : Int) = ((BitVec.ofNat 32 a).toNat : Int) := by rw [BitVec.toNat_ofNat]; omega
  rw [e, Bv.or32, show BitVec.ofInt 32 (b : Int) = BitVec.ofNat 32 b by apply BitVec.eq_of_toNat_eq; rw [BitVec.toNat_ofInt, BitVec.toNat_ofNat]; simp; omega, BitVec.toNat_or, BitVec.toNat_ofNat, BitVec.toNat_ofNat]
  rw [Nat.mod_eq_of_lt (by omega : a < 2 ^ 32), Nat.mod_eq_of_lt (by omega : b < 2 ^ 32)]
/-- three bytes put together -/
theorem join3 (a b c : Nat) (ha : a < 256) (hb : b < 256) (hc : c < 256) :
    bits BinOp.or IntKind.u32 (bits BinOp.or IntKind.u32 (((a * 65536 : Nat) : Int)) ((b * 256 : Nat) : Int)) (c : Int) = ((a * 65536 + b * 256 + c : Nat) : Int) := by
  have h16 : ∀ x : Nat, x <<< 16 = x * 65536 := fun x => (Nat.shiftLeft_eq x 16).trans (congrArg (x * ·) (by decide))
  have h8 : ∀ x : Nat, x <<< 8 = x * 256 := fun x => (Nat.shiftLeft_eq x 8).trans (congrArg (x * ·) (by decide))
  have e1 : a * 65536 ||| b * 256 = a * 65536 + b * 256 := by
    have := Nat.shiftLeft_add_eq_or_of_lt (i := 16) (b := b * 256) (by omega) a
    rw [h16] at this
    exact this.symm
  have e2 : (a * 65536 + b * 256) ||| c = a * 65536 + b * 256 + c := by
    have := Nat.shiftLeft_add_eq_or_of_lt (i := 8) (b := c) (by omega) (a * 256 + b)
    rw [h8, Nat.add_mul, Nat.mul_assoc] at this
    exact this.symm
  rw [or_32 _ _ (by omega) (by omega), e1, or_32 _ _ (by omega) (by omega), e2]
theorem enc_take4 (p : List (BitVec 8)) (al : List (BitVec 8)) (k : Nat) (hk : 4 * k + 3 < (8 * p.length + 5) / 6) :
    (URadix.wr al p).take (4 * (k + 1)) = (URadix.wr al p).take (4 * k) ++ [al.getD (URadix.encAt p (4 * k)) 0#8] ++ [al.getD (URadix.encAt p (4 * k + 1)) 0#8] ++ [al.getD (URadix.encAt p (4 * k + 2)) 0#8] ++ [al.getD (URadix.encAt p (4 * k + 3)) 0#8] := by
  have hg : ∀ j, j < (8 * p.length + 5) / 6 → (URadix.wr al p)[j]? = some (al.getD (URadix.encAt p j) 0#8) := fun j hj => by
    unfold URadix.wr
    rw [spell_at _ _ _ (by rw [URadix.enc_length]; exact hj), URadix.enc_getD _ _ hj]
  rw [show 4 * (k + 1) = 4 * k + 2 + 2 by omega, take_snoc2 _ (4 * k + 2) _ _ (hg _ (by omega)) (hg _ (by omega)), take_snoc2 _ (4 * k) _ _ (hg _ (by omega)) (hg _ (by omega))]
theorem enc4 (p : List (BitVec 8)) (k a b c : Nat) (ha : URadix.at' p (3 * k) = a) (hb : URadix.at' p (3 * k + 1) = b) (hc : URadix.at' p (3 * k + 2) = c) :
    URadix.encAt p (4 * k) = a / 4 ∧ URadix.encAt p (4 * k + 1) = a % 4 * 16 + b / 16 ∧ URadix.encAt p (4 * k + 2) = b % 16 * 4 + c / 64 ∧ URadix.encAt p (4 * k + 3) = c % 64 := by
  unfold URadix.encAt
  rw [show 4 * k / 4 = k by omega, show (4 * k + 1) / 4 = k by omega, show (4 * k + 2) / 4 = k by omega, show (4 * k + 3) / 4 = k by omega, ha, hb, hc]
  refine ⟨by rw [if_pos (by omega)], by rw [if_neg (by omega), if_pos (by omega)], by rw [if_neg (by omega), if_neg (by omega), if_pos (by omega)], by rw [if_neg (by omega), if_neg (by omega), if_neg (by omega)]⟩
theorem strAt (al : ByteArray) (j : Nat) (h : j < al.size) : (al[j].toNat : Int) = (((bytesOf al).getD j 0#8).toNat : Int) := by
  rw [bytesOf_getD al j h]; rfl
set_option maxHeartbeats 1000000 in
theorem write_any (al p : ByteArray) (w : World) (hal : al.size = 64) (hp : p.size ≤ 16777216) :
    Calls Tryd.prog 32 #[.string al, .string p] w fun e w' => e = .returned (.string (strOf (URadix.wr (bytesOf al) (bytesOf p)))) ∧ Below w.heap.size w w' := by
  have HAL := Lib.hid hal
  have hal1 : al.size ≤ 64 := by omega
  have hal2 : 64 ≤ al.size := by omega
  clear hal
  go_enter Tryd.func32, Tryd.ntmps32
  go_wp2
  go_loopw [7, 8, 15] (fun _ _ i wr => ∃ k : Nat, k ≤ p.size / 3 ∧ i = .int .i64 k ∧ Bld w.heap.size ((URadix.wr (bytesOf al) (bytesOf p)).take (4 * k)) wr ∧ Below w.heap.size w wr) (fun _ _ i _ => p.size / 3 - (intOf i).toNat)
  case atStart => exact ⟨0, Nat.zero_le _, rfl, Bld.new w, (Below.refl _ _).alloc (Nat.le_refl _) _⟩
  case round =>
    rename World => wr
    obtain ⟨k, hk, rfl, hB, hb⟩ := hrel
    by_cases hlt : k < p.size / 3
    · have b0 : 3 * k < p.size := by omega
      have b1 : 3 * k + 1 < p.size := by omega
      have b2 : 3 * k + 2 < p.size := by omega
      obtain ⟨q0, hq0⟩ : ∃ q, q = 3 * k := ⟨_, rfl⟩
      obtain ⟨q1, hq1⟩ : ∃ q, q = q0 + 1 := ⟨_, rfl⟩
      obtain ⟨q2, hq2⟩ : ∃ q, q = q0 + 2 := ⟨_, rfl⟩
      have l0 : q0 < p.size := by omega
      have l1 : q1 < p.size := by omega
      have l2 : q2 < p.size := by omega
      obtain ⟨x0, hx0⟩ : ∃ x, x = p[q0].toNat := ⟨_, rfl⟩
      obtain ⟨x1, hx1⟩ : ∃ x, x = p[q1].toNat := ⟨_, rfl⟩
      obtain ⟨x2, hx2⟩ : ∃ x, x = p[q2].toNat := ⟨_, rfl⟩
      have y0 : x0 < 256 := by rw [hx0]; exact p[q0].toNat_lt
      have y1 : x1 < 256 := by rw [hx1]; exact p[q1].toNat_lt
      have y2 : x2 < 256 := by rw [hx2]; exact p[q2].toNat_lt
      have e0 : IntKind.i64.wrap (3 * (k : Int)) = (q0 : Int) := by rw [IntKind.wrap_i64]; omega
      have e1 : IntKind.i64.wrap ((q0 : Int) + 1) = (q1 : Int) := by rw [IntKind.wrap_i64]; omega
      have e2 : IntKind.i64.wrap ((q0 : Int) + 2) = (q2 : Int) := by rw [IntKind.wrap_i64]; omega
      have n0 : (0 : Int) ≤ (q0 : Int) := by omega
      have n1 : (0 : Int) ≤ (q1 : Int) := by omega
      have n2 : (0 : Int) ≤ (q2 : Int) := by omega
      have m0 : (q0 : Int) < (p.size : Int) := by omega
      have m1 : (q1 : Int) < (p.size : Int) := by omega
      have m2 : (q2 : Int) < (p.size : Int) := by omega
      have c0 : IntKind.u32.wrap (p[q0].toNat : Int) = (x0 : Int) := by rw [IntKind.wrap_u32]; omega
      have c1 : IntKind.u32.wrap (p[q1].toNat : Int) = (x1 : Int) := by rw [IntKind.wrap_u32]; omega
      have c2 : IntKind.u32.wrap (p[q2].toNat : Int) = (x2 : Int) := by rw [IntKind.wrap_u32]; omega
      have hsg : IntKind.u32.signed = false := rfl
      have hsg2 : IntKind.u64.signed = false := rfl
      have HQ := Lib.hid (enc4 (bytesOf p) k x0 x1 x2 (by rw [← hq0, at'_bytes p q0 l0, hx0]) (by rw [← hq0, ← hq1, at'_bytes p q1 l1, hx1]) (by rw [← hq0, ← hq2, at'_bytes p q2 l2, hx2]))
      obtain ⟨z0, hz0⟩ : ∃ z, z = x0 * 65536 := ⟨_, rfl⟩
      obtain ⟨z1, hz1⟩ : ∃ z, z = x1 * 256 := ⟨_, rfl⟩
      obtain ⟨N, hN⟩ : ∃ z, z = z0 + z1 + x2 := ⟨_, rfl⟩
      obtain ⟨z01, hz01⟩ : ∃ z : Nat, (z : Int) = bits BinOp.or IntKind.u32 (z0 : Int) (z1 : Int) := ⟨z0 ||| z1, (or_32 _ _ (by omega) (by omega)).symm⟩
      have s0 : IntKind.u32.wrap ((x0 : Int) * 65536) = (z0 : Int) := by rw [IntKind.wrap_u32]; omega
      have s1 : IntKind.u32.wrap ((x1 : Int) * 256) = (z1 : Int) := by rw [IntKind.wrap_u32]; omega
      have o1 := hz01.symm
      have o2 : bits BinOp.or IntKind.u32 (z01 : Int) (x2 : Int) = (N : Int) := by
        rw [hz01, hN, hz0, hz1]
        exact join3 x0 x1 x2 y0 y1 y2
      obtain ⟨t1, ht1⟩ : ∃ t, t = N / 4096 := ⟨_, rfl⟩
      obtain ⟨t2, ht2⟩ : ∃ t, t = N / 64 := ⟨_, rfl⟩
      obtain ⟨j0, hj0⟩ : ∃ t, t = N / 262144 := ⟨_, rfl⟩
      obtain ⟨j1, hj1⟩ : ∃ t, t = t1 % 64 := ⟨_, rfl⟩
      obtain ⟨j2, hj2⟩ : ∃ t, t = t2 % 64 := ⟨_, rfl⟩
      obtain ⟨j3, hj3⟩ : ∃ t, t = N % 64 := ⟨_, rfl⟩
      have g0 : (N : Int) / 262144 = (j0 : Int) := by omega
      have g1 : (N : Int) / 4096 = (t1 : Int) := by omega
      have g2 : (N : Int) / 64 = (t2 : Int) := by omega
      have f1 : bits BinOp.and IntKind.u32 (t1 : Int) 63 = (j1 : Int) := by rw [and63_32 _ (by omega), hj1]
      have f2 : bits BinOp.and IntKind.u32 (t2 : Int) 63 = (j2 : Int) := by rw [and63_32 _ (by omega), hj2]
      have f3 : bits BinOp.and IntKind.u32 (N : Int) 63 = (j3 : Int) := by rw [and63_32 _ (by omega), hj3]
      have i0 : j0 < al.size := by omega
      have i1 : j1 < al.size := by omega
      have i2 : j2 < al.size := by omega
      have i3 : j3 < al.size := by omega
      have a0 : (0 : Int) ≤ (j0 : Int) ∧ (j0 : Int) < (al.size : Int) := by omega
      have a1 : (0 : Int) ≤ (j1 : Int) ∧ (j1 : Int) < (al.size : Int) := by omega
      have a2 : (0 : Int) ≤ (j2 : Int) ∧ (j2 : Int) < (al.size : Int) := by omega
      have a3 : (0 : Int) ≤ (j3 : Int) ∧ (j3 : Int) < (al.size : Int) := by omega
      have v0 := strAt al j0 i0
      have v1 := strAt al j1 i1
      have v2 := strAt al j2 i2
      have v3 := strAt al j3 i3
      have HT := Lib.hid (enc_take4 (bytesOf p) (bytesOf al) k (by rw [bytesOf_length]; omega))
      rw [HQ.out.1, HQ.out.2.1, HQ.out.2.2.1, HQ.out.2.2.2, show x0 / 4 = j0 by omega, show x0 % 4 * 16 + x1 / 16 = j1 by omega, show x1 % 16 * 4 + x2 / 64 = j2 by omega, show x2 % 64 = j3 by omega] at HT
      have hl4 : ((URadix.wr (bytesOf al) (bytesOf p)).take (4 * k)).length ≤ 4 * k := by rw [List.length_take]; omega
      have hk4 : 4 * k ≤ 33554432 := by omega
      generalize (URadix.wr (bytesOf al) (bytesOf p)).take (4 * k) = l at *
      generalize (bytesOf al).getD j0 0#8 = d0 at *
      generalize (bytesOf al).getD j1 0#8 = d1 at *
      generalize (bytesOf al).getD j2 0#8 = d2 at *
      generalize (bytesOf al).getD j3 0#8 = d3 at *
      have HB := Lib.hid hB
      have h1l : Hid ((l ++ [d0]).length + 1 ≤ 140737488355328) := Lib.hid (by simp; omega)
      have h2l : Hid ((l ++ [d0] ++ [d1]).length + 1 ≤ 140737488355328) := Lib.hid (by simp; omega)
      have h3l : Hid ((l ++ [d0] ++ [d1] ++ [d2]).length + 1 ≤ 140737488355328) := Lib.hid (by simp; omega)
      have HL0 : Hid (l.length + 1 ≤ 140737488355328) := Lib.hid (by omega)
      clear hq0 hq1 hq2 hx0 hx1 hx2 hz0 hz1 hN hz01 ht1 ht2 hj0 hj1 hj2 hj3 HQ hB
      go_wp2
      refine wp_region_still_lit (by kernel_rfl) (by kernel_rfl) ?_
      repeat still_step
      refine wpStill_nil ?_
      change Exit.then _ _ _ _ wr.drew
      have HBd := Lib.hid HB.out.drew
      have hbd := hb.drew
      generalize wr.drew = wd at *
      have HD0 := Lib.hid (bld_write w.heap.size l d0 wd HBd.out HL0.out hbd.size)
      clear e0 e1 e2 c0 c1 c2 s0 s1 o1 o2 hb HB HBd
      go_wp2_with (first
        | (go_at_call 33; (with_reducible refine HD0.out.mono ?_); rintro e w1 ⟨rfl, hB1, hb1⟩; have hb1' := hbd.trans hb1; have HD1 := Lib.hid (bld_write w.heap.size (l ++ [d0]) d1 w1 hB1 h1l.out hb1'.size))
        | (go_at_call 33; (with_reducible refine HD1.out.mono ?_); rintro e w2 ⟨rfl, hB2, hb2⟩; have hb2' := hb1'.trans hb2; have HD2 := Lib.hid (bld_write w.heap.size (l ++ [d0] ++ [d1]) d2 w2 hB2 h2l.out hb2'.size))
        | (go_at_call 33; (with_reducible refine HD2.out.mono ?_); rintro e w3 ⟨rfl, hB3, hb3⟩; have hb3' := hb2'.trans hb3; have HD3 := Lib.hid (bld_write w.heap.size (l ++ [d0] ++ [d1] ++ [d2]) d3 w3 hB3 h3l.out hb3'.size))
        | (go_at_call 33; (with_reducible refine HD3.out.mono ?_); rintro e w4 ⟨rfl, hB4, hb4⟩))
      go_roundw
      case rel => exact ⟨k + 1, by omega, by go_num, by rw [HT.out]; exact hB4, hb3'.trans hb4⟩
      case measure => simp [intOf]; omega
    · obtain rfl : k = p.size / 3 := by omega
      obtain ⟨R, hR⟩ : ∃ R, R = p.extract (3 * (p.size / 3)) p.size := ⟨_, rfl⟩
      have hRb : bytesOf R = (bytesOf p).drop (3 * (p.size / 3)) := by rw [hR, bytesOf_drop]
      have hRs : R.size = p.size % 3 := by rw [← bytesOf_length, hRb, List.length_drop, bytesOf_length]; omega
      have HG := Lib.hid (fun j (hj : j < (8 * (bytesOf p).length + 5) / 6) => show (URadix.wr (bytesOf al) (bytesOf p))[j]? = some ((bytesOf al).getD (URadix.encAt (bytesOf p) j) 0#8) from by
        unfold URadix.wr
        rw [spell_at _ _ _ (by rw [URadix.enc_length]; exact hj), URadix.enc_getD _ _ hj])
      have HLEN : Hid ((URadix.wr (bytesOf al) (bytesOf p)).length = (8 * p.size + 5) / 6) := Lib.hid (by rw [URadix.wr_length, bytesOf_length])
      have HAT : Hid (∀ i, URadix.at' (bytesOf p) (3 * (p.size / 3) + i) = URadix.at' (bytesOf R) i) := Lib.hid (fun i => by
        unfold URadix.at'
        rw [hRb, List.getD_eq_getElem?_getD, List.getD_eq_getElem?_getD, List.getElem?_drop])
      have HQ := Lib.hid (enc4 (bytesOf p) (p.size / 3) _ _ _ (HAT.out 0) (HAT.out 1) (HAT.out 2))
      have hl4 : ((URadix.wr (bytesOf al) (bytesOf p)).take (4 * (p.size / 3))).length ≤ 4 * (p.size / 3) := by rw [List.length_take]; omega
      have hsg : IntKind.u32.signed = false := rfl
      have hsg2 : IntKind.u64.signed = false := rfl
      have HRb := Lib.hid hRb
      clear hRb
      go_upto_region 14 with fail
      rw [← hR]
      clear hR
      have hr : R.size = 0 ∨ R.size = 1 ∨ R.size = 2 := by omega
      rcases hr with hr | hr | hr
      · have HFULL : Hid ((URadix.wr (bytesOf al) (bytesOf p)).take (4 * (p.size / 3)) = URadix.wr (bytesOf al) (bytesOf p)) := Lib.hid (List.take_of_length_le (by rw [HLEN.out]; omega))
        rw [HFULL.out] at hB
        have t2 : ((R.size : Int) == 2) = false := by rw [← Bool.not_eq_true, beq_iff_eq]; omega
        have t1 : ((R.size : Int) == 1) = false := by rw [← Bool.not_eq_true, beq_iff_eq]; omega
        have HD := Lib.hid (bld_string w.heap.size _ wr hB hb.size)
        generalize hres : strOf (URadix.wr (bytesOf al) (bytesOf p)) = res at *
        have HRES := Lib.hid hres
        clear hB hres hr hRs hl4
        go_wp2_with (go_at_call 34; (with_reducible refine HD.out.mono ?_); rintro e w1 ⟨rfl, hb1⟩)
        go_ret
        exact ⟨by rw [HRES.out]; rfl, hb.trans hb1⟩
      · have l0 : 0 < R.size := by omega
        obtain ⟨x0, hx0⟩ : ∃ x, x = R[0].toNat := ⟨_, rfl⟩
        have y0 : x0 < 256 := by rw [hx0]; exact R[0].toNat_lt
        have c0 : (R[0].toNat : Int) = (x0 : Int) := by rw [hx0]
        obtain ⟨z0, hz0⟩ : ∃ z, z = x0 * 65536 := ⟨_, rfl⟩
        have s0 : (x0 : Int) * 65536 = (z0 : Int) := by omega
        have o0 : bits BinOp.or IntKind.u32 0 (z0 : Int) = (z0 : Int) := by
          rw [show (0 : Int) = ((0 : Nat) : Int) from rfl, or_32 _ _ (by omega) (by omega), Nat.zero_or]
        obtain ⟨t1, ht1⟩ : ∃ t, t = z0 / 4096 := ⟨_, rfl⟩
        obtain ⟨j0, hj0⟩ : ∃ t, t = z0 / 262144 := ⟨_, rfl⟩
        obtain ⟨j1, hj1⟩ : ∃ t, t = t1 % 64 := ⟨_, rfl⟩
        have g0 : (z0 : Int) / 262144 = (j0 : Int) := by omega
        have g1 : (z0 : Int) / 4096 = (t1 : Int) := by omega
        have f1 : bits BinOp.and IntKind.u32 (t1 : Int) 63 = (j1 : Int) := by rw [and63_32 _ (by omega), hj1]
        have i0 : j0 < al.size := by omega
        have i1 : j1 < al.size := by omega
        have a0 : (0 : Int) ≤ (j0 : Int) ∧ (j0 : Int) < (al.size : Int) := by omega
        have a1 : (0 : Int) ≤ (j1 : Int) ∧ (j1 : Int) < (al.size : Int) := by omega
        have v0 := strAt al j0 i0
        have v1 := strAt al j1 i1
        have hq0 : URadix.at' (bytesOf R) 0 = x0 := by rw [at'_bytes R 0 l0, hx0]
        have hq1 : URadix.at' (bytesOf R) 1 = 0 := URadix.at'_none _ _ (by rw [bytesOf_length]; omega)
        have HT : Hid (URadix.wr (bytesOf al) (bytesOf p) = (URadix.wr (bytesOf al) (bytesOf p)).take (4 * (p.size / 3)) ++ [(bytesOf al).getD j0 0#8] ++ [(bytesOf al).getD j1 0#8]) := Lib.hid (by
          have h := take_snoc2 _ (4 * (p.size / 3)) _ _ (HG.out _ (by rw [bytesOf_length]; omega)) (HG.out _ (by rw [bytesOf_length]; omega))
          rw [List.take_of_length_le (by rw [HLEN.out]; omega), HQ.out.1, HQ.out.2.1, hq0, hq1, show x0 / 4 = j0 by omega, show x0 % 4 * 16 + 0 / 16 = j1 by omega] at h
          exact h)
        have t2 : ((R.size : Int) == 2) = false := by rw [← Bool.not_eq_true, beq_iff_eq]; omega
        have tt1 : ((R.size : Int) == 1) = true := by rw [beq_iff_eq]; omega
        have hk4 : 4 * (p.size / 3) ≤ 33554432 := by omega
        generalize hres : strOf (URadix.wr (bytesOf al) (bytesOf p)) = res at *
        have HRES := Lib.hid hres
        have HFIN : Hid (strOf ((URadix.wr (bytesOf al) (bytesOf p)).take (4 * (p.size / 3)) ++ [(bytesOf al).getD j0 0#8] ++ [(bytesOf al).getD j1 0#8]) = res) := Lib.hid (by rw [← HT.out]; exact hres)
        clear HT
        generalize (URadix.wr (bytesOf al) (bytesOf p)).take (4 * (p.size / 3)) = l at *
        generalize (bytesOf al).getD j0 0#8 = d0 at *
        generalize (bytesOf al).getD j1 0#8 = d1 at *
        have HD0 := Lib.hid (bld_write w.heap.size l d0 wr hB (by omega) hb.size)
        have h1l : Hid ((l ++ [d0]).length + 1 ≤ 140737488355328) := Lib.hid (by simp; omega)
        have lI : (0 : Int) < (R.size : Int) := by omega
        clear hB hres hr hRs hx0 hz0 ht1 hj0 hj1 hq0 hq1 hl4 hk4
        go_wp2_with (first
          | (go_at_call 33; (with_reducible refine HD0.out.mono ?_); rintro e w1 ⟨rfl, hB1, hb1⟩; have hb1' := hb.trans hb1; have HD1 := Lib.hid (bld_write w.heap.size (l ++ [d0]) d1 w1 hB1 h1l.out hb1'.size))
          | (go_at_call 33; (with_reducible refine HD1.out.mono ?_); rintro e w2 ⟨rfl, hB2, hb2⟩; have hb2' := hb1'.trans hb2; have HDS := Lib.hid (bld_string w.heap.size _ w2 hB2 hb2'.size); rw [HFIN.out] at HDS)
          | (go_at_call 34; (with_reducible refine HDS.out.mono ?_); rintro e w3 ⟨rfl, hb3⟩))
        go_ret
        exact ⟨by rw [HRES.out]; rfl, hb2'.trans hb3⟩
      · have l0 : 0 < R.size := by omega
        have l1 : 1 < R.size := by omega
        obtain ⟨x0, hx0⟩ : ∃ x, x = R[0].toNat := ⟨_, rfl⟩
        obtain ⟨x1, hx1⟩ : ∃ x, x = R[1].toNat := ⟨_, rfl⟩
        have y0 : x0 < 256 := by rw [hx0]; exact R[0].toNat_lt
        have y1 : x1 < 256 := by rw [hx1]; exact R[1].toNat_lt
        have c0 : (R[0].toNat : Int) = (x0 : Int) := by rw [hx0]
        have c1 : (R[1].toNat : Int) = (x1 : Int) := by rw [hx1]
        obtain ⟨z0, hz0⟩ : ∃ z, z = x0 * 65536 := ⟨_, rfl⟩
        obtain ⟨z1, hz1⟩ : ∃ z, z = x1 * 256 := ⟨_, rfl⟩
        obtain ⟨N, hN⟩ : ∃ z, z = z0 + z1 := ⟨_, rfl⟩
        have s0 : (x0 : Int) * 65536 = (z0 : Int) := by omega
        have s1 : (x1 : Int) * 256 = (z1 : Int) := by omega
        have o0 : bits BinOp.or IntKind.u32 (z1 : Int) (z0 : Int) = (N : Int) := by
          have h := join3 x0 x1 0 y0 y1 (by omega)
          rw [or_32 _ _ (by omega) (by omega), or_32 _ _ (by rw [← hz0, ← hz1]; exact Nat.or_lt_two_pow (n := 32) (by omega) (by omega)) (by omega), Nat.or_zero, ← hz0, ← hz1] at h
          rw [or_32 _ _ (by omega) (by omega), Nat.or_comm]
          omega
        obtain ⟨t1, ht1⟩ : ∃ t, t = N / 4096 := ⟨_, rfl⟩
        obtain ⟨t2, ht2⟩ : ∃ t, t = N / 64 := ⟨_, rfl⟩
        obtain ⟨j0, hj0⟩ : ∃ t, t = N / 262144 := ⟨_, rfl⟩
        obtain ⟨j1, hj1⟩ : ∃ t, t = t1 % 64 := ⟨_, rfl⟩
        obtain ⟨j2, hj2⟩ : ∃ t, t = t2 % 64 := ⟨_, rfl⟩
        have g0 : (N : Int) / 262144 = (j0 : Int) := by omega
        have g1 : (N : Int) / 4096 = (t1 : Int) := by omega
        have g2 : (N : Int) / 64 = (t2 : Int) := by omega
        have f1 : bits BinOp.and IntKind.u32 (t1 : Int) 63 = (j1 : Int) := by rw [and63_32 _ (by omega), hj1]
        have f2 : bits BinOp.and IntKind.u32 (t2 : Int) 63 = (j2 : Int) := by rw [and63_32 _ (by omega), hj2]
        have i0 : j0 < al.size := by omega
        have i1 : j1 < al.size := by omega
        have i2 : j2 < al.size := by omega
        have a0 : (0 : Int) ≤ (j0 : Int) ∧ (j0 : Int) < (al.size : Int) := by omega
        have a1 : (0 : Int) ≤ (j1 : Int) ∧ (j1 : Int) < (al.size : Int) := by omega
        have a2 : (0 : Int) ≤ (j2 : Int) ∧ (j2 : Int) < (al.size : Int) := by omega
        have v0 := strAt al j0 i0
        have v1 := strAt al j1 i1
        have v2 := strAt al j2 i2
        have hq0 : URadix.at' (bytesOf R) 0 = x0 := by rw [at'_bytes R 0 l0, hx0]
        have hq1 : URadix.at' (bytesOf R) 1 = x1 := by rw [at'_bytes R 1 l1, hx1]
        have hq2 : URadix.at' (bytesOf R) 2 = 0 := URadix.at'_none _ _ (by rw [bytesOf_length]; omega)
        have HT : Hid (URadix.wr (bytesOf al) (bytesOf p) = (URadix.wr (bytesOf al) (bytesOf p)).take (4 * (p.size / 3)) ++ [(bytesOf al).getD j0 0#8] ++ [(bytesOf al).getD j1 0#8] ++ [(bytesOf al).getD j2 0#8]) := Lib.hid (by
          have h := take_snoc2 _ (4 * (p.size / 3)) _ _ (HG.out _ (by rw [bytesOf_length]; omega)) (HG.out _ (by rw [bytesOf_length]; omega))
          have h3 := take_snoc _ (4 * (p.size / 3) + 2) _ (HG.out _ (by rw [bytesOf_length]; omega))
          rw [h, List.take_of_length_le (by rw [HLEN.out]; omega), HQ.out.1, HQ.out.2.1, HQ.out.2.2.1, hq0, hq1, hq2, show x0 / 4 = j0 by omega, show x0 % 4 * 16 + x1 / 16 = j1 by omega, show x1 % 16 * 4 + 0 / 64 = j2 by omega] at h3
          exact h3)
        have t2 : ((R.size : Int) == 2) = true := by rw [beq_iff_eq]; omega
        have hk4 : 4 * (p.size / 3) ≤ 33554432 := by omega
        generalize hres : strOf (URadix.wr (bytesOf al) (bytesOf p)) = res at *
        have HRES := Lib.hid hres
        have HFIN : Hid (strOf ((URadix.wr (bytesOf al) (bytesOf p)).take (4 * (p.size / 3)) ++ [(bytesOf al).getD j0 0#8] ++ [(bytesOf al).getD j1 0#8] ++ [(bytesOf al).getD j2 0#8]) = res) := Lib.hid (by rw [← HT.out]; exact hres)
        clear HT
        generalize (URadix.wr (bytesOf al) (bytesOf p)).take (4 * (p.size / 3)) = l at *
        generalize (bytesOf al).getD j0 0#8 = d0 at *
        generalize (bytesOf al).getD j1 0#8 = d1 at *
        generalize (bytesOf al).getD j2 0#8 = d2 at *
        have HD0 := Lib.hid (bld_write w.heap.size l d0 wr hB (by omega) hb.size)
        have h1l : Hid ((l ++ [d0]).length + 1 ≤ 140737488355328) := Lib.hid (by simp; omega)
        have h2l : Hid ((l ++ [d0] ++ [d1]).length + 1 ≤ 140737488355328) := Lib.hid (by simp; omega)
        have lI : (0 : Int) < (R.size : Int) := by omega
        have lI1 : (1 : Int) < (R.size : Int) := by omega
        clear hB hres hr hRs hx0 hx1 hz0 hz1 hN ht1 ht2 hj0 hj1 hj2 hq0 hq1 hq2 hl4 hk4
        go_wp2_with (first
          | (go_at_call 33; (with_reducible refine HD0.out.mono ?_); rintro e w1 ⟨rfl, hB1, hb1⟩; have hb1' := hb.trans hb1; have HD1 := Lib.hid (bld_write w.heap.size (l ++ [d0]) d1 w1 hB1 h1l.out hb1'.size))
          | (go_at_call 33; (with_reducible refine HD1.out.mono ?_); rintro e w2 ⟨rfl, hB2, hb2⟩; have hb2' := hb1'.trans hb2; have HD2 := Lib.hid (bld_write w.heap.size (l ++ [d0] ++ [d1]) d2 w2 hB2 h2l.out hb2'.size))
          | (go_at_call 33; (with_reducible refine HD2.out.mono ?_); rintro e w3 ⟨rfl, hB3, hb3⟩; have hb3' := hb2'.trans hb3; have HDS := Lib.hid (bld_string w.heap.size _ w3 hB3 hb3'.size); rw [HFIN.out] at HDS)
          | (go_at_call 34; (with_reducible refine HDS.out.mono ?_); rintro e w4 ⟨rfl, hb4⟩))
        go_ret
        exact ⟨by rw [HRES.out]; rfl, hb3'.trans hb4⟩
end Go.Proofs.YtmmniapkajbdhaaDoor
