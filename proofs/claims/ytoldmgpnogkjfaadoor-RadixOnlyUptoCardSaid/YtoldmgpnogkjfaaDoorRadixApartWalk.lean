/- P2.7, walked: two texts are written alike just if they are the same. -/
import Derived.Test.YtoldmgpnogkjfaaDoorRadixUrl
import Derived.Test.YtoldmgpnogkjfaaDoorRadixHex
import Derived.Lib.SlicesS
namespace Go.Proofs.YtoldmgpnogkjfaaDoor
open Go.RowKit
theorem cell_two_a (W : World) (a b : ByteArray) : (W.alloc (.cells #[.string a, .string b] 32)).cell? ⟨W.heap.size, 0, none⟩ = some (.string a) := by
  rw [Lib.cell_of_heap (heap_alloc_new W _)]; rfl
theorem cell_two_b (W : World) (a b : ByteArray) : (W.alloc (.cells #[.string a, .string b] 32)).cell? ⟨W.heap.size, 1, none⟩ = some (.string b) := by
  rw [Lib.cell_of_heap (heap_alloc_new W _)]; rfl
def UrlC (s t : ByteArray) : Prop := ∀ w, Calls Tryd.prog 21 #[.string s] w fun e w' => e = .returned (.string t) ∧ Below w.heap.size w w'
def StdC (s t : ByteArray) : Prop := ∀ w, Calls Tryd.prog 22 #[.string s] w fun e w' => e = .returned (.string t) ∧ Below w.heap.size w w'
def HexC (s t : ByteArray) : Prop := ∀ w, HexTab w → Calls Tryd.prog 11 #[.string s] w fun e w' => e = .returned (.string t) ∧ Below w.heap.size w w'
theorem UrlC.go {s t : ByteArray} (h : UrlC s t) (w : World) : Calls Tryd.prog 21 #[.string s] w fun e w' => e = .returned (.string t) ∧ Below w.heap.size w w' := h w
theorem StdC.go {s t : ByteArray} (h : StdC s t) (w : World) : Calls Tryd.prog 22 #[.string s] w fun e w' => e = .returned (.string t) ∧ Below w.heap.size w w' := h w
theorem HexC.go {s t : ByteArray} (h : HexC s t) (w : World) (ht : HexTab w) : Calls Tryd.prog 11 #[.string s] w fun e w' => e = .returned (.string t) ∧ Below w.heap.size w w' := h w ht
theorem urlC (s : ByteArray) (hs : s.size ≤ 16777216) : UrlC s (strOf (URadix.wr URadix.urlA (bytesOf s))) := fun w => url_prog s w hs
theorem stdC (s : ByteArray) (hs : s.size ≤ 16777216) : StdC s (strOf (URadix.std (bytesOf s))) := fun w => std_prog s w hs
theorem hexC (s : ByteArray) (hs : s.size ≤ 16777216) : HexC s (strOf (URadix.hx (bytesOf s))) := fun w ht => hex_prog s w (by omega) ht
theorem strOf_inj {a b : List (BitVec 8)} (h : strOf a = strOf b) : a = b := by rw [← bytesOf_strOf a, h, bytesOf_strOf]
theorem list_ne {x y : ByteArray} (h : x ≠ y) : (x.toList == y.toList) = false := (Lib.bytes_beq_false_iff _ _).2 h
set_option maxHeartbeats 1000000 in
theorem radixApart_walk (a b : ByteArray) (W : World) (ha : a.size ≤ 1048576) (hb : b.size ≤ 1048576) (ht : HexTab W) :
    Calls Tryd.prog 8 #[.agg #[.string a, .string b]] W fun e w' => e = .returned (.bool true) ∧ Below W.heap.size W w' := by
  have HBX : Hid (∀ w', Below (W.alloc (.cells #[.string a, .string b] 32)).heap.size (W.alloc (.cells #[.string a, .string b] 32)) w' → w'.cell? ⟨W.heap.size, 0, none⟩ = some (.string a) ∧ w'.cell? ⟨W.heap.size, 1, none⟩ = some (.string b)) := Lib.hid (fun w' h =>
    ⟨cell_below (cell_two_a W a b) h, cell_below (cell_two_b W a b) h⟩)
  have HTB : Hid (∀ w', Below (W.alloc (.cells #[.string a, .string b] 32)).heap.size (W.alloc (.cells #[.string a, .string b] 32)) w' → HexTab w') := Lib.hid (fun w' h =>
    (ht.below ((Below.refl _ _).alloc (Nat.le_refl _) _)).below h)
  have b0 : Below (W.alloc (.cells #[.string a, .string b] 32)).heap.size (W.alloc (.cells #[.string a, .string b] 32)) (W.alloc (.cells #[.string a, .string b] 32)) := Below.refl _ _
  have hfin : ∀ w', Below (W.alloc (.cells #[.string a, .string b] 32)).heap.size (W.alloc (.cells #[.string a, .string b] 32)) w' → Below W.heap.size W w' := fun w' h => ((Below.refl _ _).alloc (Nat.le_refl _) _).trans (h.mono (by simp))
  have HFIN := Lib.hid hfin
  clear ht hfin
  have HUa := Lib.hid (urlC a (by omega))
  have HUb := Lib.hid (urlC b (by omega))
  have HSa := Lib.hid (stdC a (by omega))
  have HSb := Lib.hid (stdC b (by omega))
  have HHa := Lib.hid (hexC a (by omega))
  have HHb := Lib.hid (hexC b (by omega))
  by_cases hab : a = b
  · subst hab
    generalize strOf (URadix.wr URadix.urlA (bytesOf a)) = U at *
    generalize strOf (URadix.std (bytesOf a)) = S at *
    generalize strOf (URadix.hx (bytesOf a)) = H at *
    clear HUb HSb HHb
    go_enter Tryd.func8, Tryd.ntmps8
    go_wp2_with (first
      | (go_at_call 21; (with_reducible refine (HUa.out.go _).mono ?_); rintro e w1 ⟨rfl, hb1⟩; have b1 := b0.trans (hb1.mono b0.size); have c1 := HBX.out w1 b1)
      | (go_at_call 21; (with_reducible refine (HUa.out.go _).mono ?_); rintro e w2 ⟨rfl, hb2⟩; have b2 := b1.trans (hb2.mono b1.size); have c2 := HBX.out w2 b2)
      | (go_at_call 22; (with_reducible refine (HSa.out.go _).mono ?_); rintro e w3 ⟨rfl, hb3⟩; have b3 := b2.trans (hb3.mono b2.size); have c3 := HBX.out w3 b3)
      | (go_at_call 22; (with_reducible refine (HSa.out.go _).mono ?_); rintro e w4 ⟨rfl, hb4⟩; have b4 := b3.trans (hb4.mono b3.size); have c4 := HBX.out w4 b4)
      | (go_at_call 11; (with_reducible refine (HHa.out.go _ (HTB.out _ b4)).mono ?_); rintro e w5 ⟨rfl, hb5⟩; have b5 := b4.trans (hb5.mono b4.size); have c5 := HBX.out w5 b5)
      | (go_at_call 11; (with_reducible refine (HHa.out.go _ (HTB.out _ b5)).mono ?_); rintro e w6 ⟨rfl, hb6⟩; have b6 := b5.trans (hb6.mono b5.size); have c6 := HBX.out w6 b6))
    go_ret
    exact ⟨by simp, HFIN.out _ b6⟩
  · have hbn : bytesOf a ≠ bytesOf b := fun e => hab (bytesOf_inj e)
    have n0 := list_ne hab
    have n1 := list_ne (fun e => hbn (URadix.wr_inj URadix.alpha_url (strOf_inj e)) : strOf (URadix.wr URadix.urlA (bytesOf a)) ≠ strOf (URadix.wr URadix.urlA (bytesOf b)))
    have n2 := list_ne (fun e => hbn (URadix.std_inj (strOf_inj e)) : strOf (URadix.std (bytesOf a)) ≠ strOf (URadix.std (bytesOf b)))
    have n3 := list_ne (fun e => hbn (URadix.hx_inj (strOf_inj e)) : strOf (URadix.hx (bytesOf a)) ≠ strOf (URadix.hx (bytesOf b)))
    clear hab hbn
    generalize strOf (URadix.wr URadix.urlA (bytesOf a)) = U at *
    generalize strOf (URadix.std (bytesOf a)) = S at *
    generalize strOf (URadix.hx (bytesOf a)) = H at *
    generalize strOf (URadix.wr URadix.urlA (bytesOf b)) = U' at *
    generalize strOf (URadix.std (bytesOf b)) = S' at *
    generalize strOf (URadix.hx (bytesOf b)) = H' at *
    go_enter Tryd.func8, Tryd.ntmps8
    go_wp2_with (first
      | (go_at_call 21; (with_reducible refine (HUa.out.go _).mono ?_); rintro e w1 ⟨rfl, hb1⟩; have b1 := b0.trans (hb1.mono b0.size); have c1 := HBX.out w1 b1)
      | (go_at_call 21; (with_reducible refine (HUb.out.go _).mono ?_); rintro e w2 ⟨rfl, hb2⟩; have b2 := b1.trans (hb2.mono b1.size); have c2 := HBX.out w2 b2)
      | (go_at_call 22; (with_reducible refine (HSa.out.go _).mono ?_); rintro e w3 ⟨rfl, hb3⟩; have b3 := b2.trans (hb3.mono b2.size); have c3 := HBX.out w3 b3)
      | (go_at_call 22; (with_reducible refine (HSb.out.go _).mono ?_); rintro e w4 ⟨rfl, hb4⟩; have b4 := b3.trans (hb4.mono b3.size); have c4 := HBX.out w4 b4)
      | (go_at_call 11; (with_reducible refine (HHa.out.go _ (HTB.out _ b4)).mono ?_); rintro e w5 ⟨rfl, hb5⟩; have b5 := b4.trans (hb5.mono b4.size); have c5 := HBX.out w5 b5)
      | (go_at_call 11; (with_reducible refine (HHb.out.go _ (HTB.out _ b5)).mono ?_); rintro e w6 ⟨rfl, hb6⟩; have b6 := b5.trans (hb6.mono b5.size); have c6 := HBX.out w6 b6))
    go_ret
    exact ⟨by simp, HFIN.out _ b6⟩
end Go.Proofs.YtoldmgpnogkjfaaDoor
