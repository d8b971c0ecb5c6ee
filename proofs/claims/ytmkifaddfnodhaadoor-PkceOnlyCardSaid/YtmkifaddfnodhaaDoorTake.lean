/- The program's step over one piece, walked. -/
import Derived.Test.YtmkifaddfnodhaaDoorShaRef
namespace Go.Proofs.YtmkifaddfnodhaaDoor
open Go.RowKit
def byteFn (l : List (BitVec 8)) : Nat → BitVec 8 := fun i => l.getD i 0#8
theorem u8s_get (l : List (BitVec 8)) (i : Nat) (h : i < l.length) : (u8s l)[i]? = some (.int .u8 ((byteFn l i).toNat : Int)) := by
  unfold u8s byteFn
  rw [List.getElem?_map, List.getElem?_eq_getElem h, List.getD_eq_getElem?_getD, List.getElem?_eq_getElem h]; rfl
theorem word_eq_p (b0 b1 b2 b3 : BitVec 8) :
    bits BinOp.or IntKind.u32 (bits BinOp.or IntKind.u32 (bits BinOp.or IntKind.u32 (IntKind.u32.wrap (IntKind.u32.wrap (b0.toNat : Int) * 16777216)) (IntKind.u32.wrap (IntKind.u32.wrap (b1.toNat : Int) * 65536))) (IntKind.u32.wrap (IntKind.u32.wrap (b2.toNat : Int) * 256))) (IntKind.u32.wrap (b3.toNat : Int)) =
      (((b0.setWidth 32 <<< 24) ||| (b1.setWidth 32 <<< 16) ||| (b2.setWidth 32 <<< 8) ||| b3.setWidth 32 : BitVec 32).toNat : Int) := by
  have h0 := b0.isLt
  have h1 := b1.isLt
  have h2 := b2.isLt
  have h3 := b3.isLt
  have w : ∀ b : BitVec 8, IntKind.u32.wrap (b.toNat : Int) = (b.toNat : Int) := by
    intro b; have := b.isLt; rw [Bv.wrap_u32, Nat.mod_eq_of_lt (by omega)]
  rw [w, w, w, w, ← word_eq]
  rw [IntKind.wrap_u32, IntKind.wrap_u32, IntKind.wrap_u32]
  rw [show (b0.toNat : Int) * 16777216 % 4294967296 = (b0.toNat : Int) * 16777216 by omega, show (b1.toNat : Int) * 65536 % 4294967296 = (b1.toNat : Int) * 65536 by omega, show (b2.toNat : Int) * 256 % 4294967296 = (b2.toNat : Int) * 256 by omega]
theorem arrW_zero (l : List (BitVec 32)) (n i : Nat) (h : l.length ≤ i) (hi : i < n) : (arrW l n)[i]? = some (.int .u32 0) := by
  unfold arrW
  rw [List.getElem?_append_right (by simpa using h), List.getElem?_replicate]
  simp; omega
theorem ix0 (A B C D E F G H : Value) (w : World) : (Instr.index 66 (.agg #[A, B, C, D, E, F, G, H]) (.int .i64 0)).run Tryd.prog w = .ok A w := by kernel_rfl
theorem ix1 (A B C D E F G H : Value) (w : World) : (Instr.index 66 (.agg #[A, B, C, D, E, F, G, H]) (.int .i64 1)).run Tryd.prog w = .ok B w := by kernel_rfl
theorem ix2 (A B C D E F G H : Value) (w : World) : (Instr.index 66 (.agg #[A, B, C, D, E, F, G, H]) (.int .i64 2)).run Tryd.prog w = .ok C w := by kernel_rfl
theorem ix3 (A B C D E F G H : Value) (w : World) : (Instr.index 66 (.agg #[A, B, C, D, E, F, G, H]) (.int .i64 3)).run Tryd.prog w = .ok D w := by kernel_rfl
theorem ix4 (A B C D E F G H : Value) (w : World) : (Instr.index 66 (.agg #[A, B, C, D, E, F, G, H]) (.int .i64 4)).run Tryd.prog w = .ok E w := by kernel_rfl
theorem ix5 (A B C D E F G H : Value) (w : World) : (Instr.index 66 (.agg #[A, B, C, D, E, F, G, H]) (.int .i64 5)).run Tryd.prog w = .ok F w := by kernel_rfl
theorem ix6 (A B C D E F G H : Value) (w : World) : (Instr.index 66 (.agg #[A, B, C, D, E, F, G, H]) (.int .i64 6)).run Tryd.prog w = .ok G w := by kernel_rfl
theorem ix7 (A B C D E F G H : Value) (w : World) : (Instr.index 66 (.agg #[A, B, C, D, E, F, G, H]) (.int .i64 7)).run Tryd.prog w = .ok H w := by kernel_rfl
theorem index8 (V : USha.St) (k : Nat) (hk : k < 8) (w : World) : (Instr.index 66 (.agg (vl V).toArray) (.int .i64 (k : Int))).run Tryd.prog w = .ok ((vl V).getD k undef) w := by
  have h : k = 0 ∨ k = 1 ∨ k = 2 ∨ k = 3 ∨ k = 4 ∨ k = 5 ∨ k = 6 ∨ k = 7 := by omega
  rcases h with rfl | rfl | rfl | rfl | rfl | rfl | rfl | rfl
  · exact ix0 _ _ _ _ _ _ _ _ w
  · exact ix1 _ _ _ _ _ _ _ _ w
  · exact ix2 _ _ _ _ _ _ _ _ w
  · exact ix3 _ _ _ _ _ _ _ _ w
  · exact ix4 _ _ _ _ _ _ _ _ w
  · exact ix5 _ _ _ _ _ _ _ _ w
  · exact ix6 _ _ _ _ _ _ _ _ w
  · exact ix7 _ _ _ _ _ _ _ _ w
theorem and_eq (x y : BitVec 32) : bits BinOp.and IntKind.u32 (x.toNat : Int) (y.toNat : Int) = ((x &&& y).toNat : Int) := by rw [Bv.and32, Bv.ofInt_toNat]
theorem xor_eq (x y : BitVec 32) : bits BinOp.xor IntKind.u32 (x.toNat : Int) (y.toNat : Int) = ((x ^^^ y).toNat : Int) := by rw [Bv.xor32, Bv.ofInt_toNat]
theorem S1_eq (e : BitVec 32) : bits BinOp.xor IntKind.u32 (bits BinOp.xor IntKind.u32 ((USha.rotr e 6).toNat : Int) ((USha.rotr e 11).toNat : Int)) ((USha.rotr e 25).toNat : Int) = ((USha.S1 e).toNat : Int) := by
  rw [xor_eq, xor_eq]; rfl
set_option maxRecDepth 100000 in
set_option maxHeartbeats 16000000 in
theorem take_any (v : USha.St) (l : List (BitVec 8)) (w : World) (hl : l.length = 64) (hr : U32Tab w 18 USha.round) :
    Calls Tryd.prog 42 #[.agg (vl v).toArray, .agg (u8s l).toArray] w fun e w' => e = .returned (.agg (vl (USha.compress v (USha.word (byteFn l)))).toArray) ∧ Below w.heap.size w w' := by
  have HR := Lib.hid hr
  clear hr
  have HL := Lib.hid hl
  have hlu : (u8s l).length = 64 := by rw [u8s_length]; exact hl
  have HU := Lib.hid hlu
  clear hl hlu
  generalize hU : u8s l = U at *
  have HUE := Lib.hid hU
  clear hU
  go_enter Tryd.func42, Tryd.ntmps42
  go_wp2
  have k0 : Blk ((((w.alloc (.cells (vl v).toArray 66)).alloc (.cells U.toArray 67)).alloc (.cells zeros8.toArray 66)).alloc (.cells zeros64.toArray 76)) w.heap.size 66 (vl v) := (((Blk.new w _ _).alloc _).alloc _).alloc _
  have k1 : Blk ((((w.alloc (.cells (vl v).toArray 66)).alloc (.cells U.toArray 67)).alloc (.cells zeros8.toArray 66)).alloc (.cells zeros64.toArray 76)) (w.heap.size + 1) 67 U := by
    have := ((Blk.new (w.alloc (.cells (vl v).toArray 66)) 67 U).alloc (.cells zeros8.toArray 66)).alloc (.cells zeros64.toArray 76)
    simpa using this
  have k2 : Blk ((((w.alloc (.cells (vl v).toArray 66)).alloc (.cells U.toArray 67)).alloc (.cells zeros8.toArray 66)).alloc (.cells zeros64.toArray 76)) (w.heap.size + 1 + 1) 66 zeros8 := by
    have := (Blk.new ((w.alloc (.cells (vl v).toArray 66)).alloc (.cells U.toArray 67)) 66 zeros8).alloc (.cells zeros64.toArray 76)
    simpa using this
  have k3 : Blk ((((w.alloc (.cells (vl v).toArray 66)).alloc (.cells U.toArray 67)).alloc (.cells zeros8.toArray 66)).alloc (.cells zeros64.toArray 76)) (w.heap.size + 1 + 1 + 1) 76 (arrW (USha.sched (USha.word (byteFn l)) 0) 64) := by
    have := Blk.new (((w.alloc (.cells (vl v).toArray 66)).alloc (.cells U.toArray 67)).alloc (.cells zeros8.toArray 66)) 76 zeros64
    simp at this
    exact this
  have kb : Below w.heap.size w ((((w.alloc (.cells (vl v).toArray 66)).alloc (.cells U.toArray 67)).alloc (.cells zeros8.toArray 66)).alloc (.cells zeros64.toArray 76)) :=
    ((((Below.refl _ _).alloc (Nat.le_refl _) _).alloc (by simp) _).alloc (by simp; omega) _).alloc (by simp; omega) _
  have K0 := Lib.hid k0
  have K1 := Lib.hid k1
  have K2 := Lib.hid k2
  have K3 := Lib.hid k3
  have KB := Lib.hid kb
  clear k0 k1 k2 k3 kb
  obtain ⟨g0, hg0⟩ : ∃ g0, w.heap.size = g0 := ⟨_, rfl⟩
  obtain ⟨g1, hg1⟩ : ∃ g1, w.heap.size + 1 = g1 := ⟨_, rfl⟩
  obtain ⟨g2, hg2⟩ : ∃ g2, w.heap.size + 1 + 1 = g2 := ⟨_, rfl⟩
  obtain ⟨g3, hg3⟩ : ∃ g3, w.heap.size + 1 + 1 + 1 = g3 := ⟨_, rfl⟩
  have o1 : w.heap.size < g1 := by omega
  have o2 : g1 < g2 := by omega
  have o3 : g2 < g3 := by omega
  rw [hg3] at K3
  rw [hg2] at K2
  rw [hg1] at K1
  rw [hg3, hg2, hg1]
  clear hg1 hg2 hg3 hg0
  generalize hm : USha.word (byteFn l) = m at *
  have HM := Lib.hid hm
  go_loopw [27] (fun i wr => ∃ t : Nat, t ≤ 16 ∧ i = .int .i64 t ∧ Blk wr g3 76 (arrW (USha.sched m t) 64) ∧ Blk wr g1 67 U ∧ Blk wr w.heap.size 66 (vl v) ∧ Blk wr g2 66 zeros8 ∧ Below w.heap.size w wr) (fun i _ => 16 - (intOf i).toNat)
  case atStart => exact ⟨0, by omega, rfl, K3.out, K1.out, K0.out, K2.out, KB.out⟩
  case round =>
    clear K0 K1 K2 K3 KB
    obtain ⟨t, ht, rfl, hW, hU, hV, hZ, hb⟩ := hrel
    by_cases hlt : t < 16
    · have hnx : USha.next m (USha.sched m t) t = USha.word (byteFn l) t := by unfold USha.next; rw [if_pos hlt, hm]
      have hwd : USha.word (byteFn l) t = (((byteFn l (4 * t)).setWidth 32 <<< 24) ||| ((byteFn l (4 * t + 1)).setWidth 32 <<< 16) ||| ((byteFn l (4 * t + 2)).setWidth 32 <<< 8) ||| (byteFn l (4 * t + 3)).setWidth 32) := rfl
      rw [hwd] at hnx
      have p0 := hU.cell (4 * t)
      have p1 := hU.cell (4 * t + 1)
      have p2 := hU.cell (4 * t + 2)
      have p3 := hU.cell (4 * t + 3)
      rw [← HUE.out, u8s_get _ _ (by rw [HL.out]; omega)] at p0 p1 p2 p3
      generalize byteFn l (4 * t) = b0 at *
      generalize byteFn l (4 * t + 1) = b1 at *
      generalize byteFn l (4 * t + 2) = b2 at *
      generalize byteFn l (4 * t + 3) = b3 at *
      have hct := hW.cell t
      rw [arrW_zero _ _ _ (by rw [USha.sched_length]; omega) (by omega)] at hct
      have hfz := hW.frozen t
      obtain ⟨i0, e0⟩ : ∃ i, i = 4 * t := ⟨_, rfl⟩
      obtain ⟨i1, e1⟩ : ∃ i, i = 4 * t + 1 := ⟨_, rfl⟩
      obtain ⟨i2, e2⟩ : ∃ i, i = 4 * t + 2 := ⟨_, rfl⟩
      obtain ⟨i3, e3⟩ : ∃ i, i = 4 * t + 3 := ⟨_, rfl⟩
      have q0 : IntKind.i64.wrap (4 * (t : Int)) = (i0 : Int) := by rw [IntWalk.i64_in _ (by omega)]; omega
      have q1 : IntKind.i64.wrap ((i0 : Int) + 1) = (i1 : Int) := by rw [IntWalk.i64_in _ (by omega)]; omega
      have q2 : IntKind.i64.wrap ((i0 : Int) + 2) = (i2 : Int) := by rw [IntWalk.i64_in _ (by omega)]; omega
      have q3 : IntKind.i64.wrap ((i0 : Int) + 3) = (i3 : Int) := by rw [IntWalk.i64_in _ (by omega)]; omega
      have r0 : (i0 : Int) < 64 := by omega
      have rt : (t : Int) < 64 := by omega
      have r1 : (i1 : Int) < 64 := by omega
      have r2 : (i2 : Int) < 64 := by omega
      have r3 : (i3 : Int) < 64 := by omega
      rw [← e0] at p0
      rw [← e1] at p1
      rw [← e2] at p2
      rw [← e3] at p3
      clear e0 e1 e2 e3
      have HNX := Lib.hid hnx
      clear hnx hwd
      go_wp2
      refine wp_region_still_tail 31 (by kernel_rfl) (by kernel_rfl) ?_
      simp only [List.take_succ_cons, List.take_zero, List.drop_succ_cons, List.drop_zero]
      repeat still_step
      refine wpStill_nil ?_
      change wpList _ _ _ _ _ wr.drew
      clear q0 q1 q2 q3 p0 p1 p2 p3
      go_wp2
      go_roundw
      case rel =>
        refine ⟨t + 1, by omega, by go_num, ?_, hU.drew.far _ _ (by simp; omega), hV.drew.far _ _ (by simp; omega), hZ.drew.far _ _ (by simp; omega), hb.drew.setCell (by simp; omega) _⟩
        rw [word_eq]
        have h1 := hW.drew.set t (.int .u32 ((USha.next m (USha.sched m t) t).toNat : Int))
        have e := arrW_snoc (USha.sched m t) 64 (USha.next m (USha.sched m t) t) (by rw [USha.sched_length]; omega)
        rw [USha.sched_length] at e
        rw [e] at h1
        rw [show USha.sched m (t + 1) = USha.sched m t ++ [USha.next m (USha.sched m t) t] from rfl]
        rw [HNX.out] at h1 ⊢
        exact h1
      case measure => simp [intOf]; omega
    · obtain rfl : t = 16 := by omega
      rw [show (((16 : Nat) : Int)) = (16 : Int) from rfl]
      clear hU HU HUE
      go_wp2
      go_loopw [7] (fun i wr => ∃ t : Nat, 16 ≤ t ∧ t ≤ 64 ∧ i = .int .i64 t ∧ Blk wr g3 76 (arrW (USha.sched m t) 64) ∧ Blk wr w.heap.size 66 (vl v) ∧ Blk wr g2 66 zeros8 ∧ Below w.heap.size w wr) (fun i _ => 64 - (intOf i).toNat)
      case atStart => exact ⟨16, by omega, by omega, rfl, hW, hV, hZ, hb⟩
      case round =>
        rename World => wr2
        clear hW hV hZ hb
        obtain ⟨t, ht0, ht, rfl, hW, hV, hZ, hb⟩ := hrel
        by_cases hlt2 : t < 64
        · have hsl := USha.sched_length m t
          obtain ⟨i15, e15⟩ : ∃ i, i = t - 15 := ⟨_, rfl⟩
          obtain ⟨i2, e2⟩ : ∃ i, i = t - 2 := ⟨_, rfl⟩
          obtain ⟨i16, e16⟩ : ∃ i, i = t - 16 := ⟨_, rfl⟩
          obtain ⟨i7, e7⟩ : ∃ i, i = t - 7 := ⟨_, rfl⟩
          have hx := hW.cell i15
          have hy := hW.cell i2
          have h16 := hW.cell i16
          have h7 := hW.cell i7
          rw [arrW_get _ _ _ (by omega)] at hx hy h16 h7
          have hnx : USha.next m (USha.sched m t) t = (USha.sched m t).getD i16 0#32 + USha.s0 ((USha.sched m t).getD i15 0#32) + (USha.sched m t).getD i7 0#32 + USha.s1 ((USha.sched m t).getD i2 0#32) := by
            unfold USha.next; rw [if_neg (by omega), e16, e15, e7, e2]; rfl
          have hct := hW.cell t
          rw [arrW_zero _ _ _ (by omega) (by omega)] at hct
          have hfz := hW.frozen t
          have q15 : IntKind.i64.wrap ((t : Int) - 15) = (i15 : Int) := by rw [IntWalk.i64_in _ (by omega)]; omega
          have q2 : IntKind.i64.wrap ((t : Int) - 2) = (i2 : Int) := by rw [IntWalk.i64_in _ (by omega)]; omega
          have q16 : IntKind.i64.wrap ((t : Int) - 16) = (i16 : Int) := by rw [IntWalk.i64_in _ (by omega)]; omega
          have q7 : IntKind.i64.wrap ((t : Int) - 7) = (i7 : Int) := by rw [IntWalk.i64_in _ (by omega)]; omega
          have r15 : (i15 : Int) < 64 := by omega
          have r2 : (i2 : Int) < 64 := by omega
          have r16 : (i16 : Int) < 64 := by omega
          have r7 : (i7 : Int) < 64 := by omega
          have rt : (t : Int) < 64 := by omega
          generalize (USha.sched m t).getD i15 0#32 = x at *
          generalize (USha.sched m t).getD i2 0#32 = y at *
          generalize (USha.sched m t).getD i16 0#32 = x16 at *
          generalize (USha.sched m t).getD i7 0#32 = x7 at *
          clear e15 e2 e16 e7
          have qs0 := s0_eq x
          have qs1 := s1_eq y
          generalize USha.s0 x = a0 at *
          generalize USha.s1 y = a1 at *
          have HN := Lib.hid hnx
          clear hnx hsl
          go_wp2
          refine wp_region_still_lit (by kernel_rfl) (by kernel_rfl) ?_
          repeat still_step
          refine wpStill_nil ?_
          change Exit.then _ _ _ _ wr2.drew
          have hWd := hW.drew
          have hVd := hV.drew
          have hZd := hZ.drew
          have hbd := hb.drew
          change (wr2.drew).cell? _ = _ at hx hy h16 h7 hct
          change (wr2.drew).frozen? _ = _ at hfz
          generalize wr2.drew = wd at *
          clear hW hV hZ hb
          go_wp2_with (first
            | (go_at_call 53; (with_reducible refine (rotl_7 x _).mono ?_); rintro e w' ⟨rfl, rfl⟩)
            | (go_at_call 53; (with_reducible refine (rotl_18 x _).mono ?_); rintro e w' ⟨rfl, rfl⟩)
            | (go_at_call 53; (with_reducible refine (rotl_17 y _).mono ?_); rintro e w' ⟨rfl, rfl⟩)
            | (go_at_call 53; (with_reducible refine (rotl_19 y _).mono ?_); rintro e w' ⟨rfl, rfl⟩))
          have e1 := Bv.add32 x16 a0
          have e2 := Bv.add32 (x16 + a0) x7
          have e3 := Bv.add32 (x16 + a0 + x7) a1
          generalize x16 + a0 + x7 + a1 = z3 at *
          generalize x16 + a0 + x7 = z2 at *
          generalize x16 + a0 = z1 at *
          refine wp_region_still_tail 15 (by kernel_rfl) (by kernel_rfl) ?_
          simp only [List.take_succ_cons, List.take_zero, List.drop_succ_cons, List.drop_zero]
          repeat still_step
          refine wpStill_nil ?_
          change wpList _ _ _ _ _ wd.drew
          clear e1 e2 e3 q15 q2 q16 q7 hx hy h16 h7
          go_wp2
          go_roundw
          case rel =>
            refine ⟨t + 1, by omega, by omega, by go_num, ?_, hVd.drew.far _ _ (by simp; omega), hZd.drew.far _ _ (by simp; omega), hbd.drew.setCell (by simp; omega) _⟩
            have h1 := hWd.drew.set t (.int .u32 (z3.toNat : Int))
            have e := arrW_snoc (USha.sched m t) 64 z3 (by rw [USha.sched_length]; omega)
            rw [USha.sched_length] at e
            rw [e] at h1
            rw [show USha.sched m (t + 1) = USha.sched m t ++ [USha.next m (USha.sched m t) t] from rfl, HN.out]
            exact h1
          case measure => simp [intOf]; omega
        · obtain rfl : t = 64 := by omega
          rw [show (((64 : Nat) : Int)) = (64 : Int) from rfl]
          rw [arrW_full _ _ (USha.sched_length m 64)] at hW
          have hlW : (USha.sched m 64).length = 64 := USha.sched_length m 64
          have hcmp : USha.compress v m = USha.add v (USha.rnds v (USha.sched m 64) 64) := rfl
          have HCMP := Lib.hid hcmp
          clear hcmp
          generalize USha.sched m 64 = ws at *
          have HlW := Lib.hid hlW
          clear hlW
          obtain ⟨a, b, c, d, e, f, g, h⟩ := v
          have c0 := hV.cell 0
          have c1 := hV.cell 1
          have c2 := hV.cell 2
          have c3 := hV.cell 3
          have c4 := hV.cell 4
          have c5 := hV.cell 5
          have c6 := hV.cell 6
          have c7 := hV.cell 7
          change _ = some (Value.int .u32 (a.toNat : Int)) at c0
          change _ = some (Value.int .u32 (b.toNat : Int)) at c1
          change _ = some (Value.int .u32 (c.toNat : Int)) at c2
          change _ = some (Value.int .u32 (d.toNat : Int)) at c3
          change _ = some (Value.int .u32 (e.toNat : Int)) at c4
          change _ = some (Value.int .u32 (f.toNat : Int)) at c5
          change _ = some (Value.int .u32 (g.toNat : Int)) at c6
          change _ = some (Value.int .u32 (h.toNat : Int)) at c7
          go_wp2
          refine wp_region_still_lit (by kernel_rfl) (by kernel_rfl) ?_
          repeat still_step
          refine wpStill_nil ?_
          change Exit.then _ _ _ _ wr2.drew
          have hWd := hW.drew
          have hVd := hV.drew
          have hZd := hZ.drew
          have hbd := hb.drew
          clear c0 c1 c2 c3 c4 c5 c6 c7 hW hV hZ hb
          generalize wr2.drew = wd at *
          go_wp2
          go_loopw [12, 13, 14, 15, 16, 17, 18, 19, 121] (fun s12 s13 s14 s15 s16 s17 s18 s19 i wr => ∃ t : Nat, t ≤ 64 ∧ i = .int .i64 t ∧ s12 = u32v (USha.rnds ⟨a, b, c, d, e, f, g, h⟩ ws t).a ∧ s13 = u32v (USha.rnds ⟨a, b, c, d, e, f, g, h⟩ ws t).b ∧ s14 = u32v (USha.rnds ⟨a, b, c, d, e, f, g, h⟩ ws t).c ∧ s15 = u32v (USha.rnds ⟨a, b, c, d, e, f, g, h⟩ ws t).d ∧ s16 = u32v (USha.rnds ⟨a, b, c, d, e, f, g, h⟩ ws t).e ∧ s17 = u32v (USha.rnds ⟨a, b, c, d, e, f, g, h⟩ ws t).f ∧ s18 = u32v (USha.rnds ⟨a, b, c, d, e, f, g, h⟩ ws t).g ∧ s19 = u32v (USha.rnds ⟨a, b, c, d, e, f, g, h⟩ ws t).h ∧
              Blk wr g3 76 (ws.map u32v) ∧ Blk wr w.heap.size 66 (vl ⟨a, b, c, d, e, f, g, h⟩) ∧ Blk wr g2 66 zeros8 ∧ Below w.heap.size w wr) (fun _ _ _ _ _ _ _ _ i _ => 64 - (intOf i).toNat)
          case atStart => exact ⟨0, by omega, rfl, rfl, rfl, rfl, rfl, rfl, rfl, rfl, rfl, hWd, hVd, hZd, hbd⟩
          case round =>
            rename World => wr3
            clear hWd hVd hZd hbd
            obtain ⟨t, ht, rfl, rfl, rfl, rfl, rfl, rfl, rfl, rfl, rfl, hW, hV, hZ, hb⟩ := hrel
            have hst : USha.rnds ⟨a, b, c, d, e, f, g, h⟩ ws (t + 1) = USha.rnd (USha.rnds ⟨a, b, c, d, e, f, g, h⟩ ws t) (USha.round.toList.getD t 0#32) (ws.getD t 0#32) := rfl
            have HNX := Lib.hid hst
            clear hst
            generalize hV0 : USha.rnds ⟨a, b, c, d, e, f, g, h⟩ ws t = V at *
            have HV0 := Lib.hid hV0
            clear hV0
            obtain ⟨A, B, C, D, E, F, G, H⟩ := V
            simp only [u32v]
            by_cases hlt4 : t < 64
            · have hk := HR.out.below hb t hlt4
              have hx := hW.cell t
              rw [List.getElem?_map, show ws[t]? = some (ws.getD t 0#32) from by rw [List.getD_eq_getElem?_getD, List.getElem?_eq_getElem (by rw [HlW.out]; exact hlt4)]; rfl] at hx
              simp only [Option.map_some, u32v] at hx
              generalize USha.round.toList.getD t 0#32 = kt at *
              generalize ws.getD t 0#32 = xt at *
              have l0 : (0 : Int) ≤ (t : Int) := by omega
              have l1 : (t : Int) < 64 := by omega
              have hsg : IntKind.u32.signed = false := rfl
              have x1 := S1_eq E
              have x2 := and_eq E F
              have x3 := not32 E
              obtain ⟨nE, hnE⟩ : ∃ n, n = ~~~E := ⟨_, rfl⟩
              rw [← hnE] at x3
              have x4 := and_eq nE G
              have x5 := xor_eq (E &&& F) (nE &&& G)
              have y1 := Bv.add32 H (USha.S1 E)
              have y2 := Bv.add32 (H + USha.S1 E) ((E &&& F) ^^^ (nE &&& G))
              have y3 := Bv.add32 (H + USha.S1 E + ((E &&& F) ^^^ (nE &&& G))) kt
              have y4 := Bv.add32 (H + USha.S1 E + ((E &&& F) ^^^ (nE &&& G)) + kt) xt
              have hz : H + USha.S1 E + ((E &&& F) ^^^ (nE &&& G)) + kt + xt = USha.t1 ⟨A, B, C, D, E, F, G, H⟩ kt xt := by rw [hnE]; rfl
              have HZ := Lib.hid hz
              have HNE := Lib.hid hnE
              clear hz hnE
              generalize H + USha.S1 E + ((E &&& F) ^^^ (nE &&& G)) + kt + xt = z4 at *
              generalize H + USha.S1 E + ((E &&& F) ^^^ (nE &&& G)) + kt = z3 at *
              generalize H + USha.S1 E + ((E &&& F) ^^^ (nE &&& G)) = z2 at *
              generalize H + USha.S1 E = z1 at *
              generalize (E &&& F) ^^^ (nE &&& G) = ch at *
              generalize nE &&& G = ng at *
              generalize E &&& F = ef at *
              generalize USha.S1 E = se at *
              go_wp2_with (first
                | (go_at_call 53; (with_reducible refine (rotl_6 E _).mono ?_); rintro e' w' ⟨rfl, rfl⟩)
                | (go_at_call 53; (with_reducible refine (rotl_11 E _).mono ?_); rintro e' w' ⟨rfl, rfl⟩)
                | (go_at_call 53; (with_reducible refine (rotl_25 E _).mono ?_); rintro e' w' ⟨rfl, rfl⟩))
              refine wp_region_still_lit (by kernel_rfl) (by kernel_rfl) ?_
              repeat still_step
              refine wpStill_nil ?_
              change Exit.then _ _ _ _ wr3.drew
              have hWd := hW.drew
              have hVd := hV.drew
              have hZd := hZ.drew
              have hbd := hb.drew
              clear hW hV hZ hb hk hx x1 x2 x3 x4 x5 y1 y2 y3 y4
              generalize wr3.drew = wd3 at *
              go_wp2_with (first
                | (go_at_call 53; (with_reducible refine (rotl_2 A _).mono ?_); rintro e' w' ⟨rfl, rfl⟩)
                | (go_at_call 53; (with_reducible refine (rotl_13 A _).mono ?_); rintro e' w' ⟨rfl, rfl⟩)
                | (go_at_call 53; (with_reducible refine (rotl_22 A _).mono ?_); rintro e' w' ⟨rfl, rfl⟩))
              go_roundw
              case rel =>
                refine ⟨t + 1, by omega, by go_num, ?_, ?_, ?_, ?_, ?_, ?_, ?_, ?_, hWd, hVd, hZd, hbd⟩ <;> rw [HNX.out]
                all_goals first
                  | rfl
                  | (refine congrArg (Value.int .u32) ?_; simp only [USha.rnd]; rw [← HZ.out]; simp only [Bv.and32, Bv.xor32, Bv.ofInt_toNat, Bv.mod32, Bv.ofInt_add, USha.t2, USha.S0])
              case measure => simp [intOf]; omega
            · obtain rfl : t = 64 := by omega
              go_wp2
              have hM : Blk wr3 w.heap.size 66 (mix (vl (USha.add ⟨a, b, c, d, e, f, g, h⟩ ⟨A, B, C, D, E, F, G, H⟩)) (vl ⟨a, b, c, d, e, f, g, h⟩) 0) := hV
              clear hV hW HNX
              go_loopw [25, 26, 195] (fun _ _ i wr => ∃ k : Nat, k ≤ 8 ∧ i = .int .i64 k ∧ Blk wr w.heap.size 66 (mix (vl (USha.add ⟨a, b, c, d, e, f, g, h⟩ ⟨A, B, C, D, E, F, G, H⟩)) (vl ⟨a, b, c, d, e, f, g, h⟩) k) ∧ Blk wr g2 66 zeros8 ∧ Below w.heap.size w wr) (fun _ _ i _ => 8 - (intOf i).toNat)
              case atStart => exact ⟨0, by omega, rfl, hM, hZ, hb⟩
              case round =>
                rename World => wr4
                clear hM hZ hb
                obtain ⟨k, hk, rfl, hM, hZ, hb⟩ := hrel
                by_cases hlt5 : k < 8
                · obtain ⟨x, y, hx, hy, hxy⟩ := add_at ⟨a, b, c, d, e, f, g, h⟩ ⟨A, B, C, D, E, F, G, H⟩ k hlt5
                  have hidx := index8 ⟨A, B, C, D, E, F, G, H⟩ k hlt5 wr4
                  rw [List.getD_eq_getElem?_getD, hy, Option.getD_some] at hidx
                  change Sem.run _ (Instr.index _ (.agg #[.int .u32 A.toNat, .int .u32 B.toNat, .int .u32 C.toNat, .int .u32 D.toNat, .int .u32 E.toNat, .int .u32 F.toNat, .int .u32 G.toNat, .int .u32 H.toNat]) _) _ = _ at hidx
                  have cx := hM.cell k
                  rw [mix_get _ _ _ (by rw [vl_length, vl_length]) (by rw [vl_length]; exact hlt5), hx] at cx
                  have hfz := hM.frozen k
                  have hset := hM.set k (.int .u32 ((x + y).toNat : Int))
                  rw [mix_set _ _ _ _ (by rw [vl_length, vl_length]) hxy] at hset
                  have e1 := Bv.add32 x y
                  have e2 := Bv.add32' x y
                  generalize x + y = z at *
                  have HSET := Lib.hid hset
                  clear hset hx hy hxy
                  go_wp2
                  go_roundw
                  case rel => exact ⟨k + 1, by omega, by go_num, HSET.out, hZ.far _ _ (by simp; omega), hb.setCell (Nat.le_refl _) _⟩
                  case measure => simp [intOf]; omega
                · obtain rfl : k = 8 := by omega
                  have hM2 : Blk wr4 w.heap.size 66 (vl (USha.add ⟨a, b, c, d, e, f, g, h⟩ ⟨A, B, C, D, E, F, G, H⟩)) := hM
                  clear hM
                  have hfin : USha.compress ⟨a, b, c, d, e, f, g, h⟩ m = USha.add ⟨a, b, c, d, e, f, g, h⟩ ⟨A, B, C, D, E, F, G, H⟩ := by rw [HCMP.out, HV0.out]
                  have HFIN := Lib.hid hfin
                  clear hfin
                  generalize USha.add ⟨a, b, c, d, e, f, g, h⟩ ⟨A, B, C, D, E, F, G, H⟩ = R at *
                  go_wp2_with (first
                    | (refine wpList_load_seg (off := 0) (n := 8) (by rfl) 66 (.tmp 2) (by rfl) (by rfl) hM2 _ Tryd.underlying66 rfl (by kernel_rfl) (Nat.le_refl 8) ?_; rw [show (List.take 8 (List.drop 0 (vl R))) = vl R from rfl])
                    | (refine wpList_store_seg (off := 0) (cs := vl R) (by rfl) 66 (.tmp 4) (.tmp 206) (by rfl) (by rfl) (by rfl) hZ (by rw [vl_length]; kernel_rfl) (Nat.le_refl 8) (vl_one _) ?_; rw [seg_all zeros8 (vl R) rfl]))
                  refine bodyPost_ret (results_cell_row rfl _ _ g2 66 _ (0, 0) _ rfl (hZ.row (vl R)) Tryd.underlying66 rfl (by rw [List.size_toArray, vl_length]; kernel_rfl)) rfl ⟨?_, below_setRow hb (by omega) _⟩
                  rw [HM.out, HFIN.out]
end Go.Proofs.YtmkifaddfnodhaaDoor
