/- The reference's 64 words of a piece, walked. -/
import Derived.Test.YtmkifaddfnodhaaDoorByteAt
import Derived.Test.YtmkifaddfnodhaaDoorBlk
import Derived.StillTailTactics
namespace Go.Proofs.YtmkifaddfnodhaaDoor
open Go.RowKit
def u32v (x : BitVec 32) : Value := .int .u32 (x.toNat : Int)
/-- an array of n words, the first ones known, zeros behind them -/
def arrW (l : List (BitVec 32)) (n : Nat) : List Value := l.map u32v ++ List.replicate (n - l.length) (.int .u32 0)
theorem arrW_length (l : List (BitVec 32)) (n : Nat) (h : l.length ≤ n) : (arrW l n).length = n := by simp [arrW]; omega
theorem arrW_get (l : List (BitVec 32)) (n i : Nat) (h : i < l.length) : (arrW l n)[i]? = some (.int .u32 ((l.getD i 0#32).toNat : Int)) := by
  unfold arrW
  rw [List.getElem?_append_left (by simpa using h), List.getElem?_map, List.getElem?_eq_getElem h, List.getD_eq_getElem?_getD, List.getElem?_eq_getElem h]; rfl
theorem arrW_snoc (l : List (BitVec 32)) (n : Nat) (x : BitVec 32) (h : l.length < n) : (arrW l n).set l.length (.int .u32 (x.toNat : Int)) = arrW (l ++ [x]) n := by
  unfold arrW
  rw [List.set_append_right _ _ (by simp)]
  simp only [List.length_map, Nat.sub_self, List.map_append, List.length_append, List.length_cons, List.length_nil, List.append_assoc]
  congr 1
  rw [show n - l.length = (n - (l.length + 1)) + 1 by omega, List.replicate_succ, List.set_cons_zero]
  simp [u32v]
theorem arrW_full (l : List (BitVec 32)) (n : Nat) (h : l.length = n) : arrW l n = l.map u32v := by
  unfold arrW; rw [h]; simp
theorem arrW_one (l : List (BitVec 32)) (n : Nat) : ∀ v ∈ arrW l n, v.oneCell' = true := by
  intro v hv
  simp only [arrW, List.mem_append, List.mem_map, List.mem_replicate] at hv
  rcases hv with ⟨x, _, rfl⟩ | ⟨_, rfl⟩ <;> rfl
theorem word_eq (b0 b1 b2 b3 : BitVec 8) :
    bits BinOp.or IntKind.u32 (bits BinOp.or IntKind.u32 (bits BinOp.or IntKind.u32 ((b0.toNat : Int) * 16777216) ((b1.toNat : Int) * 65536)) ((b2.toNat : Int) * 256)) (b3.toNat : Int) =
      (((b0.setWidth 32 <<< 24) ||| (b1.setWidth 32 <<< 16) ||| (b2.setWidth 32 <<< 8) ||| b3.setWidth 32 : BitVec 32).toNat : Int) := by
  have z : ∀ b : BitVec 8, (b.toNat : Int) = ((b.setWidth 32 : BitVec 32).toNat : Int) := by
    intro b; rw [BitVec.toNat_setWidth, Nat.mod_eq_of_lt (by have := b.isLt; omega)]
  have s : ∀ (x : BitVec 32) (n : Nat) (q : Int), q = 2 ^ n → ((x.toNat : Int) * q % 4294967296) = ((x <<< n).toNat : Int) := by
    intro x n q hq; subst hq; rw [BitVec.toNat_shiftLeft, Nat.shiftLeft_eq]; simp
  have h0 := b0.isLt
  have h1 := b1.isLt
  have h2 := b2.isLt
  rw [show (b0.toNat : Int) * 16777216 = (b0.toNat : Int) * 16777216 % 4294967296 by omega, show (b1.toNat : Int) * 65536 = (b1.toNat : Int) * 65536 % 4294967296 by omega, show (b2.toNat : Int) * 256 = (b2.toNat : Int) * 256 % 4294967296 by omega]
  rw [z b0, z b1, z b2, z b3, s _ 24 _ (by rfl), s _ 16 _ (by rfl), s _ 8 _ (by rfl), Bv.or32, Bv.ofInt_toNat, Bv.or32, Bv.ofInt_toNat, Bv.or32, Bv.ofInt_toNat]
theorem s0_eq (x : BitVec 32) : bits BinOp.xor IntKind.u32 (bits BinOp.xor IntKind.u32 ((USha.rotr x 7).toNat : Int) ((USha.rotr x 18).toNat : Int)) ((x.toNat : Int) / 8) = ((USha.s0 x).toNat : Int) := by
  have e : (x.toNat : Int) / (8 : Int) = ((x >>> 3).toNat : Int) := by rw [← Bv.shr32]; rfl
  rw [e, Bv.xor32, Bv.ofInt_toNat, Bv.xor32, Bv.ofInt_toNat]; rfl
theorem s1_eq (x : BitVec 32) : bits BinOp.xor IntKind.u32 (bits BinOp.xor IntKind.u32 ((USha.rotr x 17).toNat : Int) ((USha.rotr x 19).toNat : Int)) ((x.toNat : Int) / 1024) = ((USha.s1 x).toNat : Int) := by
  have e : (x.toNat : Int) / (1024 : Int) = ((x >>> 10).toNat : Int) := by rw [← Bv.shr32]; rfl
  rw [e, Bv.xor32, Bv.ofInt_toNat, Bv.xor32, Bv.ofInt_toNat]; rfl
def zeros64 : List Value := arrW [] 64
/-- the bytes of a piece that begins at a place of the padded text -/
def pieceAt (s : ByteArray) (p : Nat) : Nat → BitVec 8 := fun i => USha.padAt (bytesOf s) (p + i)
set_option maxRecDepth 100000 in
set_option maxHeartbeats 4000000 in
theorem plan_any (s : ByteArray) (p : Nat) (w : World) (hs : s.size ≤ 281474976710656) (hp : p + 64 ≤ USha.whole s.size) :
    Calls Tryd.prog 45 #[.string s, .int .i64 (USha.whole s.size), .int .i64 p] w fun e w' => e = .returned (.agg ((USha.sched (USha.word (pieceAt s p)) 64).map u32v).toArray) ∧ Below w.heap.size w w' := by
  have hs' := hs
  have hw1 : USha.whole s.size ≤ s.size + 128 := by unfold USha.whole; omega
  go_enter Tryd.func45, Tryd.ntmps45
  go_wp2
  go_loopw [8] (fun i wr => ∃ t : Nat, t ≤ 16 ∧ i = .int .i64 t ∧ Blk wr (w.heap.size + 1) 77 (arrW (USha.sched (USha.word (pieceAt s p)) t) 64) ∧ Below (w.heap.size + 1) (w.alloc (.cells zeros64.toArray 77)) wr) (fun i _ => 16 - (intOf i).toNat)
  case atStart => exact ⟨0, by omega, rfl, heap_alloc2_new w _ _, (Below.refl _ _).alloc (by simp) _⟩
  case round =>
    obtain ⟨t, ht, rfl, hB, hb⟩ := hrel
    by_cases hlt : t < 16
    · have C0 := byteAt_any s ((p : Int) + 4 * (t : Int)) wr hs' (by omega) (by omega)
      have C1 := byteAt_any s ((p : Int) + 4 * (t : Int) + 1) wr hs' (by omega) (by omega)
      have C2 := byteAt_any s ((p : Int) + 4 * (t : Int) + 2) wr hs' (by omega) (by omega)
      have C3 := byteAt_any s ((p : Int) + 4 * (t : Int) + 3) wr hs' (by omega) (by omega)
      rw [show ((p : Int) + 4 * (t : Int)).toNat = p + 4 * t by omega] at C0
      rw [show ((p : Int) + 4 * (t : Int) + 1).toNat = p + (4 * t + 1) by omega] at C1
      rw [show ((p : Int) + 4 * (t : Int) + 2).toNat = p + (4 * t + 2) by omega] at C2
      rw [show ((p : Int) + 4 * (t : Int) + 3).toNat = p + (4 * t + 3) by omega] at C3
      have hwd : USha.next (USha.word (pieceAt s p)) (USha.sched (USha.word (pieceAt s p)) t) t = ((USha.padAt (bytesOf s) (p + 4 * t)).setWidth 32 <<< 24) ||| ((USha.padAt (bytesOf s) (p + (4 * t + 1))).setWidth 32 <<< 16) ||| ((USha.padAt (bytesOf s) (p + (4 * t + 2))).setWidth 32 <<< 8) ||| (USha.padAt (bytesOf s) (p + (4 * t + 3))).setWidth 32 := by
        unfold USha.next; rw [if_pos hlt]; rfl
      generalize USha.padAt (bytesOf s) (p + 4 * t) = b0 at *
      generalize USha.padAt (bytesOf s) (p + (4 * t + 1)) = b1 at *
      generalize USha.padAt (bytesOf s) (p + (4 * t + 2)) = b2 at *
      generalize USha.padAt (bytesOf s) (p + (4 * t + 3)) = b3 at *
      have H0 := Lib.hid C0
      have H1 := Lib.hid C1
      have H2 := Lib.hid C2
      have H3 := Lib.hid C3
      have HW := Lib.hid hwd
      clear C0 C1 C2 C3 hwd
      have hcell := hB.cell t
      rw [show (arrW (USha.sched (USha.word (pieceAt s p)) t) 64)[t]? = some (.int .u32 0) from by
        unfold arrW
        rw [List.getElem?_append_right (by simp [USha.sched_length]), List.getElem?_replicate]
        simp [USha.sched_length]; omega] at hcell
      have hfz := hB.frozen t
      go_wp2_with (first
        | (go_at_call 55; (with_reducible refine H0.out.mono ?_); rintro e w' ⟨rfl, rfl⟩)
        | (go_at_call 55; (with_reducible refine H1.out.mono ?_); rintro e w' ⟨rfl, rfl⟩)
        | (go_at_call 55; (with_reducible refine H2.out.mono ?_); rintro e w' ⟨rfl, rfl⟩)
        | (go_at_call 55; (with_reducible refine H3.out.mono ?_); rintro e w' ⟨rfl, rfl⟩))
      go_roundw
      case rel =>
        refine ⟨t + 1, by omega, by go_num, ?_, hb.setCell (by simp) _⟩
        have := hB.set t (.int .u32 ((USha.next (USha.word (pieceAt s p)) (USha.sched (USha.word (pieceAt s p)) t) t).toNat : Int))
        have e := arrW_snoc (USha.sched (USha.word (pieceAt s p)) t) 64 (USha.next (USha.word (pieceAt s p)) (USha.sched (USha.word (pieceAt s p)) t) t) (by rw [USha.sched_length]; omega)
        rw [USha.sched_length] at e
        rw [e, HW.out, ← word_eq] at this
        rw [show USha.sched (USha.word (pieceAt s p)) (t + 1) = USha.sched (USha.word (pieceAt s p)) t ++ [USha.next (USha.word (pieceAt s p)) (USha.sched (USha.word (pieceAt s p)) t) t] from rfl, HW.out]
        exact this
      case measure => simp [intOf]; omega
    · obtain rfl : t = 16 := by omega
      rw [show (((16 : Nat) : Int)) = (16 : Int) from rfl]
      go_wp2
      generalize hm : USha.word (pieceAt s p) = m at *
      have HM := Lib.hid hm
      clear hm
      go_loopw [13] (fun i wr => ∃ t : Nat, 16 ≤ t ∧ t ≤ 64 ∧ i = .int .i64 t ∧ Blk wr (w.heap.size + 1) 77 (arrW (USha.sched m t) 64) ∧ Below (w.heap.size + 1) (w.alloc (.cells zeros64.toArray 77)) wr) (fun i _ => 64 - (intOf i).toNat)
      case atStart => exact ⟨16, by omega, by omega, rfl, hB, hb⟩
      case round =>
        rename World => wr2
        obtain ⟨t, ht0, ht, rfl, hB, hb⟩ := hrel
        by_cases hlt : t < 64
        · have hsl := USha.sched_length m t
          have hx := hB.cell (t - 15)
          have hy := hB.cell (t - 2)
          have h16 := hB.cell (t - 16)
          have h7 := hB.cell (t - 7)
          rw [arrW_get _ _ _ (by omega)] at hx hy h16 h7
          have hnx : USha.next m (USha.sched m t) t = (USha.sched m t).getD (t - 16) 0#32 + USha.s0 ((USha.sched m t).getD (t - 15) 0#32) + (USha.sched m t).getD (t - 7) 0#32 + USha.s1 ((USha.sched m t).getD (t - 2) 0#32) := by
            unfold USha.next; rw [if_neg (by omega)]; rfl
          generalize (USha.sched m t).getD (t - 15) 0#32 = x at *
          generalize (USha.sched m t).getD (t - 2) 0#32 = y at *
          generalize (USha.sched m t).getD (t - 16) 0#32 = x16 at *
          generalize (USha.sched m t).getD (t - 7) 0#32 = x7 at *
          have q0 := s0_eq x
          have q1 := s1_eq y
          generalize USha.s0 x = a0 at *
          generalize USha.s1 y = a1 at *
          have HN := Lib.hid hnx
          clear hnx hsl
          have hct := hB.cell t
          rw [show (arrW (USha.sched m t) 64)[t]? = some (.int .u32 0) from by
            unfold arrW
            rw [List.getElem?_append_right (by simp [USha.sched_length]), List.getElem?_replicate]
            simp [USha.sched_length]; omega] at hct
          have hfz := hB.frozen t
          go_wp2_with (first
            | (go_at_call 56; (with_reducible refine (rot_7 x _).mono ?_); rintro e w' ⟨rfl, rfl⟩)
            | (go_at_call 56; (with_reducible refine (rot_18 x _).mono ?_); rintro e w' ⟨rfl, rfl⟩)
            | (go_at_call 56; (with_reducible refine (rot_17 y _).mono ?_); rintro e w' ⟨rfl, rfl⟩)
            | (go_at_call 56; (with_reducible refine (rot_19 y _).mono ?_); rintro e w' ⟨rfl, rfl⟩))
          refine wp_region_still_tail 15 (by kernel_rfl) (by kernel_rfl) ?_
          simp only [List.take_succ_cons, List.take_zero, List.drop_succ_cons, List.drop_zero]
          have g16 : IntKind.i64.wrap ((t : Int) - 16) = ((t - 16 : Nat) : Int) := by rw [IntWalk.i64_in _ (by omega)]; omega
          have l16 : ((t - 16 : Nat) : Int) < 64 := by omega
          have g7 : IntKind.i64.wrap ((t : Int) - 7) = ((t - 7 : Nat) : Int) := by rw [IntWalk.i64_in _ (by omega)]; omega
          have l7 : ((t - 7 : Nat) : Int) < 64 := by omega
          have l0 : (0 : Int) ≤ (t : Int) := by omega
          have lt : (t : Int) < 64 := by omega
          have e1 := Bv.add32 x16 a0
          have e2 := Bv.add32 (x16 + a0) x7
          have e3 := Bv.add32 (x16 + a0 + x7) a1
          generalize x16 + a0 + x7 + a1 = z3 at *
          generalize x16 + a0 + x7 = z2 at *
          generalize x16 + a0 = z1 at *
          repeat still_step
          refine wpStill_nil ?_
          change wpList _ _ _ _ _ wr2.drew
          clear e1 e2 e3 g16 g7
          go_wp2
          go_roundw
          case rel =>
            refine ⟨t + 1, by omega, by omega, by go_num, ?_, (hb.drew).setCell (by simp) _⟩
            have := hB.drew.set t (.int .u32 (z3.toNat : Int))
            have e := arrW_snoc (USha.sched m t) 64 z3 (by rw [USha.sched_length]; omega)
            rw [USha.sched_length] at e
            rw [e] at this
            rw [show USha.sched m (t + 1) = USha.sched m t ++ [USha.next m (USha.sched m t) t] from rfl, HN.out]
            exact this
          case measure => simp [intOf]; omega
        · obtain rfl : t = 64 := by omega
          have hB0 : Blk wr2 w.heap.size 77 zeros64 := (Blk.new w _ _).below hb (by omega)
          have hl := arrW_length (USha.sched m 64) 64 (by rw [USha.sched_length]; omega)
          have HF := Lib.hid (arrW_full (USha.sched m 64) 64 (USha.sched_length m 64))
          have H1 := Lib.hid (arrW_one (USha.sched m 64) 64)
          generalize arrW (USha.sched m 64) 64 = A at *
          go_wp2_with (first
            | (refine wpList_load_seg rfl 77 (.tmp 7) rfl (n := 64) rfl hB _ Tryd.underlying77 rfl (by kernel_rfl) (by omega) ?_; rw [List.drop_zero, List.take_of_length_le (by omega)])
            | (refine wpList_store_seg rfl 77 (.tmp 6) (.tmp 108) rfl rfl rfl hB0 (by rw [hl]; kernel_rfl) (by rw [hl]; decide) H1.out ?_))
          have hz : zeros64.length = 64 := arrW_length [] 64 (by simp)
          have hseg : seg zeros64 0 A = A := by
            unfold seg
            rw [List.take_zero, List.nil_append, List.drop_of_length_le (by omega), List.append_nil]
          rw [hseg]
          have hR := hB0.row A
          refine bodyPost_ret (v := .agg A.toArray) (results_cell_row rfl _ _ w.heap.size 77 A.toArray (0, 0) _ rfl hR Tryd.underlying77 rfl (by rw [List.size_toArray, hl]; kernel_rfl)) rfl ⟨by rw [HF.out, HM.out], ?_⟩
          exact below_setRow (((Below.refl _ _).alloc (Nat.le_refl _) _).trans (hb.mono (by omega))) (Nat.le_refl _) _
end Go.Proofs.YtmkifaddfnodhaaDoor
