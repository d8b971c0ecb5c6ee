/- P1.5, walked. -/
import Derived.Test.YtkhfelfdgpfjkaaDoorMacRef
import Derived.Deep.RegionHeld3
import Derived.Lib.SlicesS
namespace Go.Proofs.YtkhfelfdgpfjkaaDoor
open Go.RowKit
theorem keyed_a (W : World) (a b : ByteArray) : (W.alloc (.cells #[.string a, .string b] 50)).cell? ⟨W.heap.size, 0, none⟩ = some (.string a) :=
  (Blk.new W 50 [.string a, .string b]).cell 0
theorem keyed_b (W : World) (a b : ByteArray) : (W.alloc (.cells #[.string a, .string b] 50)).cell? ⟨W.heap.size, 1, none⟩ = some (.string b) :=
  (Blk.new W 50 [.string a, .string b]).cell 1
theorem box_below {W w' : World} {a b : ByteArray} (h : Below (W.alloc (.cells #[.string a, .string b] 50)).heap.size (W.alloc (.cells #[.string a, .string b] 50)) w') :
    w'.cell? ⟨W.heap.size, 0, none⟩ = some (.string a) ∧ w'.cell? ⟨W.heap.size, 1, none⟩ = some (.string b) := ⟨cell_below (keyed_a W a b) h, cell_below (keyed_b W a b) h⟩
theorem box_fin {W w' : World} {a b : ByteArray} (h : Below (W.alloc (.cells #[.string a, .string b] 50)).heap.size (W.alloc (.cells #[.string a, .string b] 50)) w') : Below W.heap.size W w' :=
  ((Below.refl _ _).alloc (Nat.le_refl _) _).trans (h.mono (by simp))
theorem box_ptabs {W w' : World} {a b : ByteArray} (ht : PTabs W) (h : Below (W.alloc (.cells #[.string a, .string b] 50)).heap.size (W.alloc (.cells #[.string a, .string b] 50)) w') : PTabs w' :=
  (ht.below ((Below.refl _ _).alloc (Nat.le_refl _) _)).below h
theorem box_tabs {W w' : World} {a b : ByteArray} (ht : ShaTabs W) (h : Below (W.alloc (.cells #[.string a, .string b] 50)).heap.size (W.alloc (.cells #[.string a, .string b] 50)) w') : ShaTabs w' :=
  (ht.below ((Below.refl _ _).alloc (Nat.le_refl _) _)).below h
set_option maxHeartbeats 2000000 in
theorem sumsMac_walk (a b : ByteArray) (W : World) (ha : a.size ≤ reachBytes) (hb : b.size ≤ reachBytes) (ht : ShaTabs W) :
    Calls Tryd.prog 9 #[.agg #[.string a, .string b]] W fun e w' => e = .returned (.bool true) ∧ Below W.heap.size W w' := by
  unfold reachBytes at ha hb
  have HT := Lib.hid ht
  have b0 : Below (W.alloc (.cells #[.string a, .string b] 50)).heap.size (W.alloc (.cells #[.string a, .string b] 50)) (W.alloc (.cells #[.string a, .string b] 50)).drew := (Below.refl _ _).drew
  have HM : Hid (∀ w', Below (W.alloc (.cells #[.string a, .string b] 50)).heap.size (W.alloc (.cells #[.string a, .string b] 50)) w' → Calls Tryd.prog 25 #[.string a, .string b] w' fun e w2 => e = .returned (.string (strOf (USha.hmac (bytesOf a) (bytesOf b)))) ∧ Below w'.heap.size w' w2) :=
    Lib.hid (fun w' h => mac_any a b w' (by omega) (by omega) (box_tabs HT.out h).p)
  have HR : Hid (∀ w', Below (W.alloc (.cells #[.string a, .string b] 50)).heap.size (W.alloc (.cells #[.string a, .string b] 50)) w' → Calls Tryd.prog 26 #[.string a, .string b] w' fun e w2 => e = .returned (.string (strOf (USha.hmac (bytesOf a) (bytesOf b)))) ∧ Below w'.heap.size w' w2) :=
    Lib.hid (fun w' h => refMac_any a b w' (by omega) (by omega) (box_tabs HT.out h))
  generalize strOf (USha.hmac (bytesOf a) (bytesOf b)) = res at *
  have c0 := box_below b0
  clear ht
  go_enter Tryd.func9, Tryd.ntmps9
  go_wp2
  go_region_held3 (fun w' => w'.cell? ⟨W.heap.size, 0, none⟩ = some (.string a) ∧ w'.cell? ⟨W.heap.size, 1, none⟩ = some (.string b)) (first | exact c0 | exact c1 | exact c2)
    (first
      | (go_at_call 25; (with_reducible refine (HM.out _ b0).mono ?_); rintro e w1 ⟨rfl, hb1⟩; have b1 := b0.trans (hb1.mono b0.size); have c1 := box_below b1)
      | (go_at_call 26; (with_reducible refine (HR.out _ b1).mono ?_); rintro e w2 ⟨rfl, hb2⟩; have b2 := b1.trans (hb2.mono b1.size); have c2 := box_below b2))
  go_wp2
  go_ret
  exact ⟨by simp, box_fin b2⟩
end Go.Proofs.YtkhfelfdgpfjkaaDoor
