/- Writing goes piece by piece, walked. -/
import Derived.Test.YtoldmgpnogkjfaaDoorRadixApartWalk
namespace Go.Proofs.YtoldmgpnogkjfaaDoor
open Go.RowKit
theorem head_any (s : ByteArray) (n : Nat) (w : World) (_hs : s.size ≤ 33554432) (hn : n ≤ 33554432) :
    Calls Tryd.prog 20 #[.string s, .int .i64 n] w fun e w' => e = .returned (.string (strOf ((bytesOf s).take n))) ∧ w = w' := by
  by_cases h0 : n < 1
  · obtain rfl : n = 0 := by omega
    rw [show (((0 : Nat)) : Int) = (0 : Int) from rfl]
    go_enter Tryd.func20, Tryd.ntmps20
    go_wp2
    go_ret
    exact ⟨rfl, rfl⟩
  · by_cases h1 : s.size ≤ n
    · have HF : Hid (strOf ((bytesOf s).take n) = s) := Lib.hid (by rw [List.take_of_length_le (by rw [bytesOf_length]; exact h1), strOf_bytesOf])
      go_enter Tryd.func20, Tryd.ntmps20
      go_wp2
      go_ret
      exact ⟨by rw [HF.out]; rfl, rfl⟩
    · have HF : Hid (strOf ((bytesOf s).take n) = s.extract 0 n) := Lib.hid (by
        apply bytesOf_inj
        rw [bytesOf_strOf]
        simp [bytesOf, ByteArray.data_extract, List.map_take])
      go_enter Tryd.func20, Tryd.ntmps20
      go_wp2
      go_ret
      exact ⟨by rw [HF.out]; rfl, rfl⟩
set_option maxHeartbeats 1000000 in
theorem radixJoin_walk (a b : ByteArray) (W : World) (ha : a.size ≤ 1048576) (hb : b.size ≤ 1048576) (ht : HexTab W) :
    Calls Tryd.prog 7 #[.agg #[.string a, .string b]] W fun e w' => e = .returned (.bool true) ∧ Below W.heap.size W w' := by
  have HBX : Hid (∀ w', Below (W.alloc (.cells #[.string a, .string b] 32)).heap.size (W.alloc (.cells #[.string a, .string b] 32)) w' → w'.cell? ⟨W.heap.size, 0, none⟩ = some (.string a) ∧ w'.cell? ⟨W.heap.size, 1, none⟩ = some (.string b)) := Lib.hid (fun w' h =>
    ⟨cell_below (cell_two_a W a b) h, cell_below (cell_two_b W a b) h⟩)
  have HTB : Hid (∀ w', Below (W.alloc (.cells #[.string a, .string b] 32)).heap.size (W.alloc (.cells #[.string a, .string b] 32)) w' → HexTab w') := Lib.hid (fun w' h =>
    (ht.below ((Below.refl _ _).alloc (Nat.le_refl _) _)).below h)
  have b0 : Below (W.alloc (.cells #[.string a, .string b] 32)).heap.size (W.alloc (.cells #[.string a, .string b] 32)) (W.alloc (.cells #[.string a, .string b] 32)) := Below.refl _ _
  have hfin : ∀ w', Below (W.alloc (.cells #[.string a, .string b] 32)).heap.size (W.alloc (.cells #[.string a, .string b] 32)) w' → Below W.heap.size W w' := fun w' h => ((Below.refl _ _).alloc (Nat.le_refl _) _).trans (h.mono (by simp))
  have HFIN := Lib.hid hfin
  clear ht hfin
  obtain ⟨n, hn⟩ : ∃ n, n = a.size / 3 * 3 := ⟨_, rfl⟩
  have hnI : (a.size : Int) / 3 * 3 = (n : Int) := by omega
  have HD : Hid (∀ w, Calls Tryd.prog 20 #[.string a, .int .i64 n] w fun e w' => e = .returned (.string (strOf ((bytesOf a).take n))) ∧ w = w') := Lib.hid (fun w => head_any a n w (by omega) (by omega))
  have hpb := bytesOf_strOf ((bytesOf a).take n)
  have hpl : ((bytesOf a).take n).length % 3 = 0 := by rw [List.length_take, bytesOf_length]; omega
  have hpz : (strOf ((bytesOf a).take n)).size ≤ 1048576 := by rw [strOf_size, List.length_take, bytesOf_length]; omega
  generalize strOf ((bytesOf a).take n) = p at *
  rw [← hpb] at hpl
  have hjz : (p ++ b).size ≤ 16777216 := by rw [ByteArray.size_append]; omega
  have haz : (a ++ b).size ≤ 16777216 := by rw [ByteArray.size_append]; omega
  have HUp := Lib.hid (urlC p (by omega))
  have HUb := Lib.hid (urlC b (by omega))
  have HUj := Lib.hid (urlC (p ++ b) hjz)
  have HSp := Lib.hid (stdC p (by omega))
  have HSb := Lib.hid (stdC b (by omega))
  have HSj := Lib.hid (stdC (p ++ b) hjz)
  have HHa := Lib.hid (hexC a (by omega))
  have HHb := Lib.hid (hexC b (by omega))
  have HHj := Lib.hid (hexC (a ++ b) haz)
  rw [bytesOf_append, URadix.wr_append hpl, strOf_append] at HUj
  rw [bytesOf_append, URadix.std_append hpl, strOf_append] at HSj
  rw [bytesOf_append, URadix.hx_append, strOf_append] at HHj
  have k1 : b.size ≤ (strOf (URadix.wr URadix.urlA (bytesOf b))).size := by rw [strOf_size, URadix.wr_length, bytesOf_length]; omega
  have k2 : b.size ≤ (strOf (URadix.hx (bytesOf b))).size := by rw [strOf_size, URadix.hx_length, bytesOf_length]; omega
  have y1 : (strOf (URadix.wr URadix.urlA (bytesOf p))).size + (strOf (URadix.wr URadix.urlA (bytesOf b))).size ≤ 134217728 := by rw [strOf_size, strOf_size, URadix.wr_length, URadix.wr_length, bytesOf_length, bytesOf_length]; omega
  have y2 : (strOf (URadix.std (bytesOf p))).size + (strOf (URadix.std (bytesOf b))).size ≤ 134217728 := by rw [strOf_size, strOf_size, URadix.std_length, URadix.std_length, bytesOf_length, bytesOf_length]; omega
  have y3 : (strOf (URadix.hx (bytesOf a))).size + (strOf (URadix.hx (bytesOf b))).size ≤ 134217728 := by rw [strOf_size, strOf_size, URadix.hx_length, URadix.hx_length, bytesOf_length, bytesOf_length]; omega
  generalize strOf (URadix.wr URadix.urlA (bytesOf p)) = U1 at *
  generalize strOf (URadix.wr URadix.urlA (bytesOf b)) = U2 at *
  generalize strOf (URadix.std (bytesOf p)) = S1 at *
  generalize strOf (URadix.std (bytesOf b)) = S2 at *
  generalize strOf (URadix.hx (bytesOf a)) = H1 at *
  generalize strOf (URadix.hx (bytesOf b)) = H2 at *
  have z1 : b.size ≤ (U1 ++ U2).size := by rw [ByteArray.size_append]; omega
  have z2 : b.size ≤ (H1 ++ H2).size := by rw [ByteArray.size_append]; omega
  have q1 : decide (((U1 ++ U2).size : Int) < (b.size : Int)) = false := by rw [decide_eq_false_iff_not]; omega
  have q2 : decide (((H1 ++ H2).size : Int) < (b.size : Int)) = false := by rw [decide_eq_false_iff_not]; omega
  have q3 : decide ((U1.size : Int) + (U2.size : Int) < (b.size : Int)) = false := by rw [decide_eq_false_iff_not]; omega
  have q4 : decide ((H1.size : Int) + (H2.size : Int) < (b.size : Int)) = false := by rw [decide_eq_false_iff_not]; omega
  have hn2 : n ≤ a.size := by omega
  clear hn hpb hpl hjz haz
  go_enter Tryd.func7, Tryd.ntmps7
  go_wp2_with (first
      | (go_at_call 20; (with_reducible refine (HD.out _).mono ?_); rintro e w0 ⟨rfl, rfl⟩)
      | (go_at_call 21; (with_reducible refine (HUj.out.go _).mono ?_); rintro e w1 ⟨rfl, hb1⟩; have b1 := b0.trans (hb1.mono b0.size); have c1 := HBX.out w1 b1)
      | (go_at_call 21; (with_reducible refine (HUp.out.go _).mono ?_); rintro e w2 ⟨rfl, hb2⟩; have b2 := b1.trans (hb2.mono b1.size); have c2 := HBX.out w2 b2)
      | (go_at_call 21; (with_reducible refine (HUb.out.go _).mono ?_); rintro e w3 ⟨rfl, hb3⟩; have b3 := b2.trans (hb3.mono b2.size); have c3 := HBX.out w3 b3)
      | (go_at_call 22; (with_reducible refine (HSj.out.go _).mono ?_); rintro e w4 ⟨rfl, hb4⟩; have b4 := b3.trans (hb4.mono b3.size); have c4 := HBX.out w4 b4)
      | (go_at_call 22; (with_reducible refine (HSp.out.go _).mono ?_); rintro e w5 ⟨rfl, hb5⟩; have b5 := b4.trans (hb5.mono b4.size); have c5 := HBX.out w5 b5)
      | (go_at_call 22; (with_reducible refine (HSb.out.go _).mono ?_); rintro e w6 ⟨rfl, hb6⟩; have b6 := b5.trans (hb6.mono b5.size); have c6 := HBX.out w6 b6)
      | (go_at_call 11; (with_reducible refine (HHj.out.go _ (HTB.out _ b6)).mono ?_); rintro e w7 ⟨rfl, hb7⟩; have b7 := b6.trans (hb7.mono b6.size); have c7 := HBX.out w7 b7)
      | (go_at_call 11; (with_reducible refine (HHa.out.go _ (HTB.out _ b7)).mono ?_); rintro e w8 ⟨rfl, hb8⟩; have b8 := b7.trans (hb8.mono b7.size); have c8 := HBX.out w8 b8)
      | (go_at_call 11; (with_reducible refine (HHb.out.go _ (HTB.out _ b8)).mono ?_); rintro e w9 ⟨rfl, hb9⟩; have b9 := b8.trans (hb9.mono b8.size); have c9 := HBX.out w9 b9))
  go_ret
  exact ⟨by simp, HFIN.out _ b9⟩
end Go.Proofs.YtoldmgpnogkjfaaDoor
