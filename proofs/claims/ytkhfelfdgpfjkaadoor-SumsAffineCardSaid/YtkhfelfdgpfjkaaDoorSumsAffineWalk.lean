/- Three texts of one length: their sums, xored, are the sum of the texts xored: the walk. -/
import Derived.Test.YtkhfelfdgpfjkaaDoorStr
import Derived.Test.YtkhfelfdgpfjkaaDoorSumsMoreWalk
import Derived.Deep.AppendLies
import Derived.Deep.RegionHeld3
namespace Go.Proofs.YtkhfelfdgpfjkaaDoor
open Go.RowKit
def x3 (a b c : List (BitVec 8)) : List (BitVec 8) := List.zipWith (· ^^^ ·) (List.zipWith (· ^^^ ·) a b) c
theorem xor8 (a b : BitVec 8) : bits .xor .u8 (a.toNat : Int) (b.toNat : Int) = ((a ^^^ b).toNat : Int) := by
  rw [Bv.xor8, Bv.ofInt_toNat]
theorem x3_get (a b c : ByteArray) (k : Nat) (ha : k < a.size) (hb : k < b.size) (hc : k < c.size) : (x3 (bytesOf a) (bytesOf b) (bytesOf c))[k]? = some (a[k].toBitVec ^^^ b[k].toBitVec ^^^ c[k].toBitVec) := by
  unfold x3
  rw [List.getElem?_zipWith, List.getElem?_zipWith, bytesOf_get a k ha, bytesOf_get b k hb, bytesOf_get c k hc]
theorem x3_snoc (a b c : ByteArray) (k : Nat) (ha : k < a.size) (hb : k < b.size) (hc : k < c.size) : u8s ((x3 (bytesOf a) (bytesOf b) (bytesOf c)).take (k + 1)) = u8s ((x3 (bytesOf a) (bytesOf b) (bytesOf c)).take k) ++ [.int .u8 (bits BinOp.xor IntKind.u8 (bits BinOp.xor IntKind.u8 (a[k].toNat : Int) (b[k].toNat : Int)) (c[k].toNat : Int))] := by
  rw [take_snoc _ _ _ (x3_get a b c k ha hb hc), u8s_append]
  have e1 : bits BinOp.xor IntKind.u8 (a[k].toNat : Int) (b[k].toNat : Int) = ((a[k].toBitVec ^^^ b[k].toBitVec).toNat : Int) := xor8 a[k].toBitVec b[k].toBitVec
  have e2 : bits BinOp.xor IntKind.u8 ((a[k].toBitVec ^^^ b[k].toBitVec).toNat : Int) (c[k].toNat : Int) = ((a[k].toBitVec ^^^ b[k].toBitVec ^^^ c[k].toBitVec).toNat : Int) := xor8 _ c[k].toBitVec
  rw [e1, e2]
  rfl
theorem bytesOf_take (a : ByteArray) (n : Nat) : bytesOf (a.extract 0 n) = (bytesOf a).take n := by
  simp [bytesOf, ByteArray.data_extract, List.map_take]
theorem affine (a b c : List (BitVec 8)) (n : Nat) (ha : n ≤ a.length) (hb : n ≤ b.length) (hc : n ≤ c.length) : UCrc.more 0#32 (a.take n) ^^^ UCrc.more 0#32 (b.take n) ^^^ UCrc.more 0#32 (c.take n) = UCrc.more 0#32 ((x3 a b c).take n) := by
  have e : (x3 a b c).take n = List.zipWith (· ^^^ ·) (List.zipWith (· ^^^ ·) (a.take n) (b.take n)) (c.take n) := by
    unfold x3; rw [List.take_zipWith, List.take_zipWith]
  have l1 : (a.take n).length = (b.take n).length := by simp; omega
  have l2 : (List.zipWith (· ^^^ ·) (a.take n) (b.take n)).length = (c.take n).length := by simp; omega
  unfold UCrc.more
  have h1 := UCrc.run_xor _ _ (~~~0#32) (~~~0#32) l1
  have h2 := UCrc.run_xor _ _ ((~~~0#32) ^^^ (~~~0#32)) (~~~0#32) l2
  rw [← e, h1] at h2
  rw [show (~~~0#32 ^^^ ~~~0#32 ^^^ ~~~0#32 : BitVec 32) = ~~~0#32 from rfl] at h2
  rw [h2]
  generalize UCrc.run (~~~0#32) (a.take n) = x
  generalize UCrc.run (~~~0#32) (b.take n) = y
  generalize UCrc.run (~~~0#32) (c.take n) = z
  apply BitVec.eq_of_getLsbD_eq
  intro i hi
  simp only [BitVec.getLsbD_xor, BitVec.getLsbD_not, hi, decide_true, Bool.true_and]
  cases x.getLsbD i <;> cases y.getLsbD i <;> cases z.getLsbD i <;> rfl
theorem known_answer : UCrc.more 0#32 (bytesOf ⟨#[49, 50, 51, 52, 53, 54, 55, 56, 57]⟩) = 3421780262#32 := by decide +kernel
theorem crc_known (w : World) (ht : CrcTab w) :
    Calls Tryd.prog 14 #[.string ⟨#[49, 50, 51, 52, 53, 54, 55, 56, 57]⟩] w fun e w' => e = .returned (.int .u32 3421780262) ∧ w = w' := by
  have := crc_any ⟨#[49, 50, 51, 52, 53, 54, 55, 56, 57]⟩ w (by decide) ht
  rw [known_answer] at this
  exact this
theorem xor32s (x y z : BitVec 32) : bits BinOp.xor IntKind.u32 (bits BinOp.xor IntKind.u32 (x.toNat : Int) (y.toNat : Int)) (z.toNat : Int) = ((x ^^^ y ^^^ z).toNat : Int) := by
  rw [Bv.xor32, Bv.ofInt_toNat, Bv.xor32, Bv.ofInt_toNat]
set_option maxHeartbeats 1000000 in
theorem sumsAffine_way1 (a b c : ByteArray) (W : World) (ha : a.size ≤ reachBytes) (hb : b.size ≤ reachBytes) (hc : c.size ≤ reachBytes) (ht : CrcTab W) (t1 : ¬ b.size < a.size) (t2 : ¬ c.size < a.size) :
    Calls Tryd.prog 6 #[.agg #[.string a, .string b, .string c]] W fun e w' => e = .returned (.bool true) ∧ Below W.heap.size W w' := by
  have hT : CrcTab (W.alloc (.cells #[.string a, .string b, .string c] 36)) := ht.below ((Below.refl _ _).alloc (Nat.le_refl _) _)
  have hbl : Below W.heap.size W (W.alloc (.cells #[.string a, .string b, .string c] 36)) := (Below.refl _ _).alloc (Nat.le_refl _) _
  have HT := Lib.hid hT
  clear ht hT
  unfold reachBytes at ha hb hc
  obtain ⟨i0, hi, hz0, hz1, hz2⟩ := info_parts info8
  have la : a.size ≤ maxLen := by unfold maxLen; omega
  have lb : b.size ≤ maxLen := by unfold maxLen; omega
  have lc : c.size ≤ maxLen := by unfold maxLen; omega
  go_enter Tryd.func6, Tryd.ntmps6
  go_wp2
  go_loopw [4, 5] (fun v i wr => ∃ k : Nat, k ≤ a.size ∧ i = .int .i64 k ∧ wr.ownsRow (W.heap.size + 1) 5 1 v k (u8s ((x3 (bytesOf a) (bytesOf b) (bytesOf c)).take k)) ∧ Below (W.heap.size + 1) (W.alloc (.cells #[.string a, .string b, .string c] 36)) wr) (fun _ i _ => a.size - (intOf i).toNat)
  case atStart => exact ⟨0, Nat.zero_le _, rfl, World.ownsRow_nil _ _ _ _, Below.refl _ _⟩
  case round =>
    obtain ⟨k, hk, rfl, hown, hb⟩ := hrel
    have hc0 := hb.cell (p := ⟨W.heap.size, 0, none⟩) (by simp)
    have hc1 := hb.cell (p := ⟨W.heap.size, 1, none⟩) (by simp)
    have hc2 := hb.cell (p := ⟨W.heap.size, 2, none⟩) (by simp)
    simp [World.cell?_alloc_new] at hc0 hc1 hc2
    by_cases hlt : k < a.size
    · have HS := Lib.hid (x3_snoc a b c k (by omega) (by omega) (by omega))
      have hka : k < a.size := by omega
      have hkb : k < b.size := by omega
      have hkc : k < c.size := by omega
      have hsz := hb.size
      have hk0 : (0 : Int) ≤ (k : Int) := Int.natCast_nonneg _
      have ka : (k : Int) < (a.size : Int) := by omega
      have kb : (k : Int) < (b.size : Int) := by omega
      have kc : (k : Int) < (c.size : Int) := by omega
      have ag : u4.ownBlock ≠ some W.heap.size := fun h => by have := (hown.lt _ h).1; omega
      have hszw : W.heap.size + 1 ≤ wr.heap.size := by simpa using hsz
      go_wp2_with fail
      go_region_held3 (fun w' => w'.cell? ⟨W.heap.size, 0, none⟩ = some (.string a) ∧ w'.cell? ⟨W.heap.size, 1, none⟩ = some (.string b) ∧ w'.cell? ⟨W.heap.size, 2, none⟩ = some (.string c))
        (first
          | go_keep
          | (go_split_ands
             refine ⟨?_, ?_, ?_⟩
             · (rw [hgrow.cell_far _ (by simp; omega) (Ne.symm ag)]; assumption)
             · (rw [hgrow.cell_far _ (by simp; omega) (Ne.symm ag)]; assumption)
             · (rw [hgrow.cell_far _ (by simp; omega) (Ne.symm ag)]; assumption)))
        ((refine step_append_lies _ (by rfl) _ _ _ (by rfl) (W.heap.size + 1) 5 i0 _ 1 1 Tryd.underlying37 hi hz0 hz1 hz2 rfl (by omega) u4 k _ (by rfl) ((hown.alloc _).drew)
            ⟨wr.heap.size, 0, none⟩ 1 1 [.int .u8 (bits BinOp.xor IntKind.u8 (bits BinOp.xor IntKind.u8 (a[k].toNat : Int) (b[k].toNat : Int)) (c[k].toNat : Int))] (by rfl) (by rfl) (World.news_of_block (cs := #[.int .u8 (bits BinOp.xor IntKind.u8 (bits BinOp.xor IntKind.u8 (a[k].toNat : Int) (b[k].toNat : Int)) (c[k].toNat : Int))]) (t := 5) (fr := (0, 0)) (heap_alloc_new wr _)) (by simp [Value.oneCell'])
            (by omega) (by unfold maxLen; omega) (by omega) (by simp; omega) (wr.heap.size + 1) (by simp) ?_; intro gg cap w1 hown1 hgrow hat hlt2))
      all_goals
        have hb1 : Below (W.heap.size + 1) (W.alloc (.cells #[.string a, .string b, .string c] 36)) w1 := ((hb.alloc hszw _).drew).grown hgrow (by simp; omega) (fun g hg => (hown.lt g hg).1)
        clear hgrow hb hown
        go_wp2
        go_roundw
        case rel => exact ⟨k + 1, by omega, by go_num, by rw [HS.out]; exact hown1, hb1⟩
        case measure => simp [intOf]; omega
    · obtain rfl : k = a.size := by omega
      have HT1 := Lib.hid (HT.out.below (hb.mono (by simp)))
      have hcv := conv_own hown
      have aff := affine (bytesOf a) (bytesOf b) (bytesOf c) a.size (by rw [bytesOf_length]; omega) (by rw [bytesOf_length]; omega) (by rw [bytesOf_length]; omega)
      have hsl : (strOf ((x3 (bytesOf a) (bytesOf b) (bytesOf c)).take a.size)).size ≤ maxLen := by rw [strOf_size, List.length_take]; omega
      have hbs := bytesOf_strOf ((x3 (bytesOf a) (bytesOf b) (bytesOf c)).take a.size)
      have ea : bytesOf (a) = (bytesOf a).take a.size := (List.take_of_length_le (by rw [bytesOf_length]; omega)).symm
      have eb : bytesOf (b.extract 0 a.size) = (bytesOf b).take a.size := bytesOf_take b _
      have ec : bytesOf (c.extract 0 a.size) = (bytesOf c).take a.size := bytesOf_take c _
      have za : (a).size ≤ maxLen := by rw [← bytesOf_length, ea, List.length_take, bytesOf_length]; omega
      have zb : (b.extract 0 a.size).size ≤ maxLen := by rw [← bytesOf_length, eb, List.length_take, bytesOf_length]; omega
      have zc : (c.extract 0 a.size).size ≤ maxLen := by rw [← bytesOf_length, ec, List.length_take, bytesOf_length]; omega
      rw [← ea, ← eb, ← ec] at aff
      rw [← hbs] at aff
      clear ea eb ec hbs hown
      generalize strOf ((x3 (bytesOf a) (bytesOf b) (bytesOf c)).take a.size) = S at *
      have TA := Lib.hid (crc_any (a) wr za HT1.out)
      have TB := Lib.hid (crc_any (b.extract 0 a.size) wr zb HT1.out)
      have TC := Lib.hid (crc_any (c.extract 0 a.size) wr zc HT1.out)
      have TS := Lib.hid (crc_any S wr hsl HT1.out)
      have TK := Lib.hid (crc_known wr HT1.out)
      generalize UCrc.more 0#32 (bytesOf (a)) = x at *
      generalize UCrc.more 0#32 (bytesOf (b.extract 0 a.size)) = y at *
      generalize UCrc.more 0#32 (bytesOf (c.extract 0 a.size)) = z at *
      generalize UCrc.more 0#32 (bytesOf S) = q at *
      have hg : (bits BinOp.xor IntKind.u32 (bits BinOp.xor IntKind.u32 (x.toNat : Int) (y.toNat : Int)) (z.toNat : Int) == (q.toNat : Int)) = true := by rw [xor32s, aff]; simp
      clear aff
      go_wp2_with (first
        | (go_at_call 14; (with_reducible refine TK.out.mono ?_); rintro e w' ⟨rfl, rfl⟩)
        | (go_at_call 14; (with_reducible refine TA.out.mono ?_); rintro e w' ⟨rfl, rfl⟩)
        | (go_at_call 14; (with_reducible refine TB.out.mono ?_); rintro e w' ⟨rfl, rfl⟩)
        | (go_at_call 14; (with_reducible refine TC.out.mono ?_); rintro e w' ⟨rfl, rfl⟩)
        | (go_at_call 14; (with_reducible refine TS.out.mono ?_); rintro e w' ⟨rfl, rfl⟩))
      go_ret
      exact ⟨rfl, hbl.trans (hb.mono (by omega))⟩
set_option maxHeartbeats 1000000 in
theorem sumsAffine_way2 (a b c : ByteArray) (W : World) (ha : a.size ≤ reachBytes) (hb : b.size ≤ reachBytes) (hc : c.size ≤ reachBytes) (ht : CrcTab W) (t1 : ¬ b.size < a.size) (t2 : c.size < a.size) :
    Calls Tryd.prog 6 #[.agg #[.string a, .string b, .string c]] W fun e w' => e = .returned (.bool true) ∧ Below W.heap.size W w' := by
  have hT : CrcTab (W.alloc (.cells #[.string a, .string b, .string c] 36)) := ht.below ((Below.refl _ _).alloc (Nat.le_refl _) _)
  have hbl : Below W.heap.size W (W.alloc (.cells #[.string a, .string b, .string c] 36)) := (Below.refl _ _).alloc (Nat.le_refl _) _
  have HT := Lib.hid hT
  clear ht hT
  unfold reachBytes at ha hb hc
  obtain ⟨i0, hi, hz0, hz1, hz2⟩ := info_parts info8
  have la : a.size ≤ maxLen := by unfold maxLen; omega
  have lb : b.size ≤ maxLen := by unfold maxLen; omega
  have lc : c.size ≤ maxLen := by unfold maxLen; omega
  go_enter Tryd.func6, Tryd.ntmps6
  go_wp2
  go_loopw [4, 5] (fun v i wr => ∃ k : Nat, k ≤ c.size ∧ i = .int .i64 k ∧ wr.ownsRow (W.heap.size + 1) 5 1 v k (u8s ((x3 (bytesOf a) (bytesOf b) (bytesOf c)).take k)) ∧ Below (W.heap.size + 1) (W.alloc (.cells #[.string a, .string b, .string c] 36)) wr) (fun _ i _ => c.size - (intOf i).toNat)
  case atStart => exact ⟨0, Nat.zero_le _, rfl, World.ownsRow_nil _ _ _ _, Below.refl _ _⟩
  case round =>
    obtain ⟨k, hk, rfl, hown, hb⟩ := hrel
    have hc0 := hb.cell (p := ⟨W.heap.size, 0, none⟩) (by simp)
    have hc1 := hb.cell (p := ⟨W.heap.size, 1, none⟩) (by simp)
    have hc2 := hb.cell (p := ⟨W.heap.size, 2, none⟩) (by simp)
    simp [World.cell?_alloc_new] at hc0 hc1 hc2
    by_cases hlt : k < c.size
    · have HS := Lib.hid (x3_snoc a b c k (by omega) (by omega) (by omega))
      have hka : k < a.size := by omega
      have hkb : k < b.size := by omega
      have hkc : k < c.size := by omega
      have hsz := hb.size
      have hk0 : (0 : Int) ≤ (k : Int) := Int.natCast_nonneg _
      have ka : (k : Int) < (a.size : Int) := by omega
      have kb : (k : Int) < (b.size : Int) := by omega
      have kc : (k : Int) < (c.size : Int) := by omega
      have ag : u4.ownBlock ≠ some W.heap.size := fun h => by have := (hown.lt _ h).1; omega
      have hszw : W.heap.size + 1 ≤ wr.heap.size := by simpa using hsz
      go_wp2_with fail
      go_region_held3 (fun w' => w'.cell? ⟨W.heap.size, 0, none⟩ = some (.string a) ∧ w'.cell? ⟨W.heap.size, 1, none⟩ = some (.string b) ∧ w'.cell? ⟨W.heap.size, 2, none⟩ = some (.string c))
        (first
          | go_keep
          | (go_split_ands
             refine ⟨?_, ?_, ?_⟩
             · (rw [hgrow.cell_far _ (by simp; omega) (Ne.symm ag)]; assumption)
             · (rw [hgrow.cell_far _ (by simp; omega) (Ne.symm ag)]; assumption)
             · (rw [hgrow.cell_far _ (by simp; omega) (Ne.symm ag)]; assumption)))
        ((refine step_append_lies _ (by rfl) _ _ _ (by rfl) (W.heap.size + 1) 5 i0 _ 1 1 Tryd.underlying37 hi hz0 hz1 hz2 rfl (by omega) u4 k _ (by rfl) ((hown.alloc _).drew)
            ⟨wr.heap.size, 0, none⟩ 1 1 [.int .u8 (bits BinOp.xor IntKind.u8 (bits BinOp.xor IntKind.u8 (a[k].toNat : Int) (b[k].toNat : Int)) (c[k].toNat : Int))] (by rfl) (by rfl) (World.news_of_block (cs := #[.int .u8 (bits BinOp.xor IntKind.u8 (bits BinOp.xor IntKind.u8 (a[k].toNat : Int) (b[k].toNat : Int)) (c[k].toNat : Int))]) (t := 5) (fr := (0, 0)) (heap_alloc_new wr _)) (by simp [Value.oneCell'])
            (by omega) (by unfold maxLen; omega) (by omega) (by simp; omega) (wr.heap.size + 1) (by simp) ?_; intro gg cap w1 hown1 hgrow hat hlt2))
      all_goals
        have hb1 : Below (W.heap.size + 1) (W.alloc (.cells #[.string a, .string b, .string c] 36)) w1 := ((hb.alloc hszw _).drew).grown hgrow (by simp; omega) (fun g hg => (hown.lt g hg).1)
        clear hgrow hb hown
        go_wp2
        go_roundw
        case rel => exact ⟨k + 1, by omega, by go_num, by rw [HS.out]; exact hown1, hb1⟩
        case measure => simp [intOf]; omega
    · obtain rfl : k = c.size := by omega
      have HT1 := Lib.hid (HT.out.below (hb.mono (by simp)))
      have hcv := conv_own hown
      have aff := affine (bytesOf a) (bytesOf b) (bytesOf c) c.size (by rw [bytesOf_length]; omega) (by rw [bytesOf_length]; omega) (by rw [bytesOf_length]; omega)
      have hsl : (strOf ((x3 (bytesOf a) (bytesOf b) (bytesOf c)).take c.size)).size ≤ maxLen := by rw [strOf_size, List.length_take]; omega
      have hbs := bytesOf_strOf ((x3 (bytesOf a) (bytesOf b) (bytesOf c)).take c.size)
      have ea : bytesOf (a.extract 0 c.size) = (bytesOf a).take c.size := bytesOf_take a _
      have eb : bytesOf (b.extract 0 c.size) = (bytesOf b).take c.size := bytesOf_take b _
      have ec : bytesOf (c) = (bytesOf c).take c.size := (List.take_of_length_le (by rw [bytesOf_length]; omega)).symm
      have za : (a.extract 0 c.size).size ≤ maxLen := by rw [← bytesOf_length, ea, List.length_take, bytesOf_length]; omega
      have zb : (b.extract 0 c.size).size ≤ maxLen := by rw [← bytesOf_length, eb, List.length_take, bytesOf_length]; omega
      have zc : (c).size ≤ maxLen := by rw [← bytesOf_length, ec, List.length_take, bytesOf_length]; omega
      rw [← ea, ← eb, ← ec] at aff
      rw [← hbs] at aff
      clear ea eb ec hbs hown
      generalize strOf ((x3 (bytesOf a) (bytesOf b) (bytesOf c)).take c.size) = S at *
      have TA := Lib.hid (crc_any (a.extract 0 c.size) wr za HT1.out)
      have TB := Lib.hid (crc_any (b.extract 0 c.size) wr zb HT1.out)
      have TC := Lib.hid (crc_any (c) wr zc HT1.out)
      have TS := Lib.hid (crc_any S wr hsl HT1.out)
      have TK := Lib.hid (crc_known wr HT1.out)
      generalize UCrc.more 0#32 (bytesOf (a.extract 0 c.size)) = x at *
      generalize UCrc.more 0#32 (bytesOf (b.extract 0 c.size)) = y at *
      generalize UCrc.more 0#32 (bytesOf (c)) = z at *
      generalize UCrc.more 0#32 (bytesOf S) = q at *
      have hg : (bits BinOp.xor IntKind.u32 (bits BinOp.xor IntKind.u32 (x.toNat : Int) (y.toNat : Int)) (z.toNat : Int) == (q.toNat : Int)) = true := by rw [xor32s, aff]; simp
      clear aff
      go_wp2_with (first
        | (go_at_call 14; (with_reducible refine TK.out.mono ?_); rintro e w' ⟨rfl, rfl⟩)
        | (go_at_call 14; (with_reducible refine TA.out.mono ?_); rintro e w' ⟨rfl, rfl⟩)
        | (go_at_call 14; (with_reducible refine TB.out.mono ?_); rintro e w' ⟨rfl, rfl⟩)
        | (go_at_call 14; (with_reducible refine TC.out.mono ?_); rintro e w' ⟨rfl, rfl⟩)
        | (go_at_call 14; (with_reducible refine TS.out.mono ?_); rintro e w' ⟨rfl, rfl⟩))
      go_ret
      exact ⟨rfl, hbl.trans (hb.mono (by omega))⟩
set_option maxHeartbeats 1000000 in
theorem sumsAffine_way3 (a b c : ByteArray) (W : World) (ha : a.size ≤ reachBytes) (hb : b.size ≤ reachBytes) (hc : c.size ≤ reachBytes) (ht : CrcTab W) (t1 : b.size < a.size) (t2 : ¬ c.size < b.size) :
    Calls Tryd.prog 6 #[.agg #[.string a, .string b, .string c]] W fun e w' => e = .returned (.bool true) ∧ Below W.heap.size W w' := by
  have hT : CrcTab (W.alloc (.cells #[.string a, .string b, .string c] 36)) := ht.below ((Below.refl _ _).alloc (Nat.le_refl _) _)
  have hbl : Below W.heap.size W (W.alloc (.cells #[.string a, .string b, .string c] 36)) := (Below.refl _ _).alloc (Nat.le_refl _) _
  have HT := Lib.hid hT
  clear ht hT
  unfold reachBytes at ha hb hc
  obtain ⟨i0, hi, hz0, hz1, hz2⟩ := info_parts info8
  have la : a.size ≤ maxLen := by unfold maxLen; omega
  have lb : b.size ≤ maxLen := by unfold maxLen; omega
  have lc : c.size ≤ maxLen := by unfold maxLen; omega
  go_enter Tryd.func6, Tryd.ntmps6
  go_wp2
  go_loopw [4, 5] (fun v i wr => ∃ k : Nat, k ≤ b.size ∧ i = .int .i64 k ∧ wr.ownsRow (W.heap.size + 1) 5 1 v k (u8s ((x3 (bytesOf a) (bytesOf b) (bytesOf c)).take k)) ∧ Below (W.heap.size + 1) (W.alloc (.cells #[.string a, .string b, .string c] 36)) wr) (fun _ i _ => b.size - (intOf i).toNat)
  case atStart => exact ⟨0, Nat.zero_le _, rfl, World.ownsRow_nil _ _ _ _, Below.refl _ _⟩
  case round =>
    obtain ⟨k, hk, rfl, hown, hb⟩ := hrel
    have hc0 := hb.cell (p := ⟨W.heap.size, 0, none⟩) (by simp)
    have hc1 := hb.cell (p := ⟨W.heap.size, 1, none⟩) (by simp)
    have hc2 := hb.cell (p := ⟨W.heap.size, 2, none⟩) (by simp)
    simp [World.cell?_alloc_new] at hc0 hc1 hc2
    by_cases hlt : k < b.size
    · have HS := Lib.hid (x3_snoc a b c k (by omega) (by omega) (by omega))
      have hka : k < a.size := by omega
      have hkb : k < b.size := by omega
      have hkc : k < c.size := by omega
      have hsz := hb.size
      have hk0 : (0 : Int) ≤ (k : Int) := Int.natCast_nonneg _
      have ka : (k : Int) < (a.size : Int) := by omega
      have kb : (k : Int) < (b.size : Int) := by omega
      have kc : (k : Int) < (c.size : Int) := by omega
      have ag : u4.ownBlock ≠ some W.heap.size := fun h => by have := (hown.lt _ h).1; omega
      have hszw : W.heap.size + 1 ≤ wr.heap.size := by simpa using hsz
      go_wp2_with fail
      go_region_held3 (fun w' => w'.cell? ⟨W.heap.size, 0, none⟩ = some (.string a) ∧ w'.cell? ⟨W.heap.size, 1, none⟩ = some (.string b) ∧ w'.cell? ⟨W.heap.size, 2, none⟩ = some (.string c))
        (first
          | go_keep
          | (go_split_ands
             refine ⟨?_, ?_, ?_⟩
             · (rw [hgrow.cell_far _ (by simp; omega) (Ne.symm ag)]; assumption)
             · (rw [hgrow.cell_far _ (by simp; omega) (Ne.symm ag)]; assumption)
             · (rw [hgrow.cell_far _ (by simp; omega) (Ne.symm ag)]; assumption)))
        ((refine step_append_lies _ (by rfl) _ _ _ (by rfl) (W.heap.size + 1) 5 i0 _ 1 1 Tryd.underlying37 hi hz0 hz1 hz2 rfl (by omega) u4 k _ (by rfl) ((hown.alloc _).drew)
            ⟨wr.heap.size, 0, none⟩ 1 1 [.int .u8 (bits BinOp.xor IntKind.u8 (bits BinOp.xor IntKind.u8 (a[k].toNat : Int) (b[k].toNat : Int)) (c[k].toNat : Int))] (by rfl) (by rfl) (World.news_of_block (cs := #[.int .u8 (bits BinOp.xor IntKind.u8 (bits BinOp.xor IntKind.u8 (a[k].toNat : Int) (b[k].toNat : Int)) (c[k].toNat : Int))]) (t := 5) (fr := (0, 0)) (heap_alloc_new wr _)) (by simp [Value.oneCell'])
            (by omega) (by unfold maxLen; omega) (by omega) (by simp; omega) (wr.heap.size + 1) (by simp) ?_; intro gg cap w1 hown1 hgrow hat hlt2))
      all_goals
        have hb1 : Below (W.heap.size + 1) (W.alloc (.cells #[.string a, .string b, .string c] 36)) w1 := ((hb.alloc hszw _).drew).grown hgrow (by simp; omega) (fun g hg => (hown.lt g hg).1)
        clear hgrow hb hown
        go_wp2
        go_roundw
        case rel => exact ⟨k + 1, by omega, by go_num, by rw [HS.out]; exact hown1, hb1⟩
        case measure => simp [intOf]; omega
    · obtain rfl : k = b.size := by omega
      have HT1 := Lib.hid (HT.out.below (hb.mono (by simp)))
      have hcv := conv_own hown
      have aff := affine (bytesOf a) (bytesOf b) (bytesOf c) b.size (by rw [bytesOf_length]; omega) (by rw [bytesOf_length]; omega) (by rw [bytesOf_length]; omega)
      have hsl : (strOf ((x3 (bytesOf a) (bytesOf b) (bytesOf c)).take b.size)).size ≤ maxLen := by rw [strOf_size, List.length_take]; omega
      have hbs := bytesOf_strOf ((x3 (bytesOf a) (bytesOf b) (bytesOf c)).take b.size)
      have ea : bytesOf (a.extract 0 b.size) = (bytesOf a).take b.size := bytesOf_take a _
      have eb : bytesOf (b) = (bytesOf b).take b.size := (List.take_of_length_le (by rw [bytesOf_length]; omega)).symm
      have ec : bytesOf (c.extract 0 b.size) = (bytesOf c).take b.size := bytesOf_take c _
      have za : (a.extract 0 b.size).size ≤ maxLen := by rw [← bytesOf_length, ea, List.length_take, bytesOf_length]; omega
      have zb : (b).size ≤ maxLen := by rw [← bytesOf_length, eb, List.length_take, bytesOf_length]; omega
      have zc : (c.extract 0 b.size).size ≤ maxLen := by rw [← bytesOf_length, ec, List.length_take, bytesOf_length]; omega
      rw [← ea, ← eb, ← ec] at aff
      rw [← hbs] at aff
      clear ea eb ec hbs hown
      generalize strOf ((x3 (bytesOf a) (bytesOf b) (bytesOf c)).take b.size) = S at *
      have TA := Lib.hid (crc_any (a.extract 0 b.size) wr za HT1.out)
      have TB := Lib.hid (crc_any (b) wr zb HT1.out)
      have TC := Lib.hid (crc_any (c.extract 0 b.size) wr zc HT1.out)
      have TS := Lib.hid (crc_any S wr hsl HT1.out)
      have TK := Lib.hid (crc_known wr HT1.out)
      generalize UCrc.more 0#32 (bytesOf (a.extract 0 b.size)) = x at *
      generalize UCrc.more 0#32 (bytesOf (b)) = y at *
      generalize UCrc.more 0#32 (bytesOf (c.extract 0 b.size)) = z at *
      generalize UCrc.more 0#32 (bytesOf S) = q at *
      have hg : (bits BinOp.xor IntKind.u32 (bits BinOp.xor IntKind.u32 (x.toNat : Int) (y.toNat : Int)) (z.toNat : Int) == (q.toNat : Int)) = true := by rw [xor32s, aff]; simp
      clear aff
      go_wp2_with (first
        | (go_at_call 14; (with_reducible refine TK.out.mono ?_); rintro e w' ⟨rfl, rfl⟩)
        | (go_at_call 14; (with_reducible refine TA.out.mono ?_); rintro e w' ⟨rfl, rfl⟩)
        | (go_at_call 14; (with_reducible refine TB.out.mono ?_); rintro e w' ⟨rfl, rfl⟩)
        | (go_at_call 14; (with_reducible refine TC.out.mono ?_); rintro e w' ⟨rfl, rfl⟩)
        | (go_at_call 14; (with_reducible refine TS.out.mono ?_); rintro e w' ⟨rfl, rfl⟩))
      go_ret
      exact ⟨rfl, hbl.trans (hb.mono (by omega))⟩
set_option maxHeartbeats 1000000 in
theorem sumsAffine_way4 (a b c : ByteArray) (W : World) (ha : a.size ≤ reachBytes) (hb : b.size ≤ reachBytes) (hc : c.size ≤ reachBytes) (ht : CrcTab W) (t1 : b.size < a.size) (t2 : c.size < b.size) :
    Calls Tryd.prog 6 #[.agg #[.string a, .string b, .string c]] W fun e w' => e = .returned (.bool true) ∧ Below W.heap.size W w' := by
  have hT : CrcTab (W.alloc (.cells #[.string a, .string b, .string c] 36)) := ht.below ((Below.refl _ _).alloc (Nat.le_refl _) _)
  have hbl : Below W.heap.size W (W.alloc (.cells #[.string a, .string b, .string c] 36)) := (Below.refl _ _).alloc (Nat.le_refl _) _
  have HT := Lib.hid hT
  clear ht hT
  unfold reachBytes at ha hb hc
  obtain ⟨i0, hi, hz0, hz1, hz2⟩ := info_parts info8
  have la : a.size ≤ maxLen := by unfold maxLen; omega
  have lb : b.size ≤ maxLen := by unfold maxLen; omega
  have lc : c.size ≤ maxLen := by unfold maxLen; omega
  go_enter Tryd.func6, Tryd.ntmps6
  go_wp2
  go_loopw [4, 5] (fun v i wr => ∃ k : Nat, k ≤ c.size ∧ i = .int .i64 k ∧ wr.ownsRow (W.heap.size + 1) 5 1 v k (u8s ((x3 (bytesOf a) (bytesOf b) (bytesOf c)).take k)) ∧ Below (W.heap.size + 1) (W.alloc (.cells #[.string a, .string b, .string c] 36)) wr) (fun _ i _ => c.size - (intOf i).toNat)
  case atStart => exact ⟨0, Nat.zero_le _, rfl, World.ownsRow_nil _ _ _ _, Below.refl _ _⟩
  case round =>
    obtain ⟨k, hk, rfl, hown, hb⟩ := hrel
    have hc0 := hb.cell (p := ⟨W.heap.size, 0, none⟩) (by simp)
    have hc1 := hb.cell (p := ⟨W.heap.size, 1, none⟩) (by simp)
    have hc2 := hb.cell (p := ⟨W.heap.size, 2, none⟩) (by simp)
    simp [World.cell?_alloc_new] at hc0 hc1 hc2
    by_cases hlt : k < c.size
    · have HS := Lib.hid (x3_snoc a b c k (by omega) (by omega) (by omega))
      have hka : k < a.size := by omega
      have hkb : k < b.size := by omega
      have hkc : k < c.size := by omega
      have hsz := hb.size
      have hk0 : (0 : Int) ≤ (k : Int) := Int.natCast_nonneg _
      have ka : (k : Int) < (a.size : Int) := by omega
      have kb : (k : Int) < (b.size : Int) := by omega
      have kc : (k : Int) < (c.size : Int) := by omega
      have ag : u4.ownBlock ≠ some W.heap.size := fun h => by have := (hown.lt _ h).1; omega
      have hszw : W.heap.size + 1 ≤ wr.heap.size := by simpa using hsz
      go_wp2_with fail
      go_region_held3 (fun w' => w'.cell? ⟨W.heap.size, 0, none⟩ = some (.string a) ∧ w'.cell? ⟨W.heap.size, 1, none⟩ = some (.string b) ∧ w'.cell? ⟨W.heap.size, 2, none⟩ = some (.string c))
        (first
          | go_keep
          | (go_split_ands
             refine ⟨?_, ?_, ?_⟩
             · (rw [hgrow.cell_far _ (by simp; omega) (Ne.symm ag)]; assumption)
             · (rw [hgrow.cell_far _ (by simp; omega) (Ne.symm ag)]; assumption)
             · (rw [hgrow.cell_far _ (by simp; omega) (Ne.symm ag)]; assumption)))
        ((refine step_append_lies _ (by rfl) _ _ _ (by rfl) (W.heap.size + 1) 5 i0 _ 1 1 Tryd.underlying37 hi hz0 hz1 hz2 rfl (by omega) u4 k _ (by rfl) ((hown.alloc _).drew)
            ⟨wr.heap.size, 0, none⟩ 1 1 [.int .u8 (bits BinOp.xor IntKind.u8 (bits BinOp.xor IntKind.u8 (a[k].toNat : Int) (b[k].toNat : Int)) (c[k].toNat : Int))] (by rfl) (by rfl) (World.news_of_block (cs := #[.int .u8 (bits BinOp.xor IntKind.u8 (bits BinOp.xor IntKind.u8 (a[k].toNat : Int) (b[k].toNat : Int)) (c[k].toNat : Int))]) (t := 5) (fr := (0, 0)) (heap_alloc_new wr _)) (by simp [Value.oneCell'])
            (by omega) (by unfold maxLen; omega) (by omega) (by simp; omega) (wr.heap.size + 1) (by simp) ?_; intro gg cap w1 hown1 hgrow hat hlt2))
      all_goals
        have hb1 : Below (W.heap.size + 1) (W.alloc (.cells #[.string a, .string b, .string c] 36)) w1 := ((hb.alloc hszw _).drew).grown hgrow (by simp; omega) (fun g hg => (hown.lt g hg).1)
        clear hgrow hb hown
        go_wp2
        go_roundw
        case rel => exact ⟨k + 1, by omega, by go_num, by rw [HS.out]; exact hown1, hb1⟩
        case measure => simp [intOf]; omega
    · obtain rfl : k = c.size := by omega
      have HT1 := Lib.hid (HT.out.below (hb.mono (by simp)))
      have hcv := conv_own hown
      have aff := affine (bytesOf a) (bytesOf b) (bytesOf c) c.size (by rw [bytesOf_length]; omega) (by rw [bytesOf_length]; omega) (by rw [bytesOf_length]; omega)
      have hsl : (strOf ((x3 (bytesOf a) (bytesOf b) (bytesOf c)).take c.size)).size ≤ maxLen := by rw [strOf_size, List.length_take]; omega
      have hbs := bytesOf_strOf ((x3 (bytesOf a) (bytesOf b) (bytesOf c)).take c.size)
      have ea : bytesOf (a.extract 0 c.size) = (bytesOf a).take c.size := bytesOf_take a _
      have eb : bytesOf (b.extract 0 c.size) = (bytesOf b).take c.size := bytesOf_take b _
      have ec : bytesOf (c) = (bytesOf c).take c.size := (List.take_of_length_le (by rw [bytesOf_length]; omega)).symm
      have za : (a.extract 0 c.size).size ≤ maxLen := by rw [← bytesOf_length, ea, List.length_take, bytesOf_length]; omega
      have zb : (b.extract 0 c.size).size ≤ maxLen := by rw [← bytesOf_length, eb, List.length_take, bytesOf_length]; omega
      have zc : (c).size ≤ maxLen := by rw [← bytesOf_length, ec, List.length_take, bytesOf_length]; omega
      rw [← ea, ← eb, ← ec] at aff
      rw [← hbs] at aff
      clear ea eb ec hbs hown
      generalize strOf ((x3 (bytesOf a) (bytesOf b) (bytesOf c)).take c.size) = S at *
      have TA := Lib.hid (crc_any (a.extract 0 c.size) wr za HT1.out)
      have TB := Lib.hid (crc_any (b.extract 0 c.size) wr zb HT1.out)
      have TC := Lib.hid (crc_any (c) wr zc HT1.out)
      have TS := Lib.hid (crc_any S wr hsl HT1.out)
      have TK := Lib.hid (crc_known wr HT1.out)
      generalize UCrc.more 0#32 (bytesOf (a.extract 0 c.size)) = x at *
      generalize UCrc.more 0#32 (bytesOf (b.extract 0 c.size)) = y at *
      generalize UCrc.more 0#32 (bytesOf (c)) = z at *
      generalize UCrc.more 0#32 (bytesOf S) = q at *
      have hg : (bits BinOp.xor IntKind.u32 (bits BinOp.xor IntKind.u32 (x.toNat : Int) (y.toNat : Int)) (z.toNat : Int) == (q.toNat : Int)) = true := by rw [xor32s, aff]; simp
      clear aff
      go_wp2_with (first
        | (go_at_call 14; (with_reducible refine TK.out.mono ?_); rintro e w' ⟨rfl, rfl⟩)
        | (go_at_call 14; (with_reducible refine TA.out.mono ?_); rintro e w' ⟨rfl, rfl⟩)
        | (go_at_call 14; (with_reducible refine TB.out.mono ?_); rintro e w' ⟨rfl, rfl⟩)
        | (go_at_call 14; (with_reducible refine TC.out.mono ?_); rintro e w' ⟨rfl, rfl⟩)
        | (go_at_call 14; (with_reducible refine TS.out.mono ?_); rintro e w' ⟨rfl, rfl⟩))
      go_ret
      exact ⟨rfl, hbl.trans (hb.mono (by omega))⟩
theorem sumsAffine_walk (a b c : ByteArray) (W : World) (ha : a.size ≤ reachBytes) (hb : b.size ≤ reachBytes) (hc : c.size ≤ reachBytes) (ht : CrcTab W) :
    Calls Tryd.prog 6 #[.agg #[.string a, .string b, .string c]] W fun e w' => e = .returned (.bool true) ∧ Below W.heap.size W w' := by
  by_cases h1 : b.size < a.size
  · by_cases h2 : c.size < b.size
    · exact sumsAffine_way4 a b c W ha hb hc ht h1 h2
    · exact sumsAffine_way3 a b c W ha hb hc ht h1 h2
  · by_cases h2 : c.size < a.size
    · exact sumsAffine_way2 a b c W ha hb hc ht h1 h2
    · exact sumsAffine_way1 a b c W ha hb hc ht h1 h2
end Go.Proofs.YtkhfelfdgpfjkaaDoor
