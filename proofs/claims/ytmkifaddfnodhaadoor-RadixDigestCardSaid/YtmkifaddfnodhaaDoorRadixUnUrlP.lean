/- base64url read: the program's UnUrl, walked. -/
import Derived.Test.YtmkifaddfnodhaaDoorRadixRead
import Derived.Lib.SlicesS
import Derived.Test.YtmkifaddfnodhaaDoorRadixRefWP
namespace Go.Proofs.YtmkifaddfnodhaaDoor
open Go.RowKit
theorem alpha_urlS : URadix.Alpha 64 (bytesOf urlS) := by rw [urlS_b]; exact URadix.alpha_url
theorem alpha_stdS : URadix.Alpha 64 (bytesOf stdS) := by rw [stdS_b]; exact URadix.alpha_std
/-- the variable of the refusal holds this value -/
def ErrText (w : World) (t : TypeId) (a : Addr) : Prop := w.cell? ⟨0, 0, none⟩ = some (.iface t (.pointer (some a)))
theorem ErrText.below {w w' : World} {t : TypeId} {a : Addr} (h : ErrText w t a) (hb : Below w.heap.size w w') : ErrText w' t a := cell_below h hb
theorem unUrl_ok (s : ByteArray) (p : List (BitVec 8)) (w : World) (hs : s.size ≤ 33554432) (hp : URadix.rd URadix.urlA (bytesOf s) = some p) :
    Calls Tryd.prog 14 #[.string s] w fun e w' => e = .returned (.tuple #[.string (strOf p), .nilIface]) ∧ Below w.heap.size w w' := by
  have HR : Hid (Calls Tryd.prog 34 #[.string ⟨#[65, 66, 67, 68, 69, 70, 71, 72, 73, 74, 75, 76, 77, 78, 79, 80, 81, 82, 83, 84, 85, 86, 87, 88, 89, 90, 97, 98, 99, 100, 101, 102, 103, 104, 105, 106, 107, 108, 109, 110, 111, 112, 113, 114, 115, 116, 117, 118, 119, 120, 121, 122, 48, 49, 50, 51, 52, 53, 54, 55, 56, 57, 45, 95]⟩, .string s] w fun e w' => e = .returned (.tuple #[.string (strOf p), .bool true]) ∧ Below w.heap.size w w') := by
    have h := read_any urlS s w alpha_urlS hs
    rw [urlS_b, hp] at h
    exact Lib.hid h
  clear hp
  go_enter Tryd.func14, Tryd.ntmps14
  go_wp2_with (go_at_call 34; (with_reducible refine HR.out.mono ?_); rintro e w1 ⟨rfl, hb1⟩)
  go_ret2
  exact ⟨rfl, hb1⟩
theorem unUrl_no (s : ByteArray) (w : World) (t : TypeId) (a : Addr) (hE : ErrText w t a) (hs : s.size ≤ 33554432) (hp : URadix.rd URadix.urlA (bytesOf s) = none) :
    Calls Tryd.prog 14 #[.string s] w fun e w' => e = .returned (.tuple #[.string { data := #[] }, .iface t (.pointer (some a))]) ∧ Below w.heap.size w w' := by
  have HR : Hid (Calls Tryd.prog 34 #[.string ⟨#[65, 66, 67, 68, 69, 70, 71, 72, 73, 74, 75, 76, 77, 78, 79, 80, 81, 82, 83, 84, 85, 86, 87, 88, 89, 90, 97, 98, 99, 100, 101, 102, 103, 104, 105, 106, 107, 108, 109, 110, 111, 112, 113, 114, 115, 116, 117, 118, 119, 120, 121, 122, 48, 49, 50, 51, 52, 53, 54, 55, 56, 57, 45, 95]⟩, .string s] w fun e w' => e = .returned (.tuple #[.string { data := #[] }, .bool false]) ∧ Below w.heap.size w w') := by
    have h := read_any urlS s w alpha_urlS hs
    rw [urlS_b, hp] at h
    exact Lib.hid h
  have HE := Lib.hid hE
  clear hp hE
  go_enter Tryd.func14, Tryd.ntmps14
  go_wp2_with (go_at_call 34; (with_reducible refine HR.out.mono ?_); rintro e w1 ⟨rfl, hb1⟩)
  have hc := HE.out.below hb1
  unfold ErrText at hc
  refine wp_region_still_lit (by kernel_rfl) (by kernel_rfl) ?_
  repeat still_step
  refine wpStill_nil ?_
  change Exit.then _ _ _ _ w1.drew
  have hbd := hb1.drew
  generalize w1.drew = wd at *
  clear hc
  go_wp2
  go_ret2
  exact ⟨rfl, hbd⟩
end Go.Proofs.YtmkifaddfnodhaaDoor
