/- base64url read: the program's UnUrl and the reference's, walked. -/
import Derived.Test.YtoldmgpnogkjfaaDoorRadixRead
import Derived.Lib.SlicesS
import Derived.Test.YtoldmgpnogkjfaaDoorRadixRefW
namespace Go.Proofs.YtoldmgpnogkjfaaDoor
open Go.RowKit
theorem alpha_urlS : URadix.Alpha 64 (bytesOf urlS) := by rw [urlS_b]; exact URadix.alpha_url
theorem alpha_stdS : URadix.Alpha 64 (bytesOf stdS) := by rw [stdS_b]; exact URadix.alpha_std
/-- the variable of the refusal holds this value -/
def ErrText (w : World) (t : TypeId) (a : Addr) : Prop := w.cell? ⟨1, 0, none⟩ = some (.iface t (.pointer (some a)))
theorem ErrText.below {w w' : World} {t : TypeId} {a : Addr} (h : ErrText w t a) (hb : Below w.heap.size w w') : ErrText w' t a := cell_below h hb
theorem unUrl_ok (s : ByteArray) (p : List (BitVec 8)) (w : World) (hs : s.size ≤ 33554432) (hp : URadix.rd URadix.urlA (bytesOf s) = some p) :
    Calls Tryd.prog 16 #[.string s] w fun e w' => e = .returned (.tuple #[.string (strOf p), .nilIface]) ∧ Below w.heap.size w w' := by
  have HR : Hid (Calls Tryd.prog 32 #[.string ⟨#[65, 66, 67, 68, 69, 70, 71, 72, 73, 74, 75, 76, 77, 78, 79, 80, 81, 82, 83, 84, 85, 86, 87, 88, 89, 90, 97, 98, 99, 100, 101, 102, 103, 104, 105, 106, 107, 108, 109, 110, 111, 112, 113, 114, 115, 116, 117, 118, 119, 120, 121, 122, 48, 49, 50, 51, 52, 53, 54, 55, 56, 57, 45, 95]⟩, .string s] w fun e w' => e = .returned (.tuple #[.string (strOf p), .bool true]) ∧ Below w.heap.size w w') := by
    have h := read_any urlS s w alpha_urlS hs
    rw [urlS_b, hp] at h
    exact Lib.hid h
  clear hp
  go_enter Tryd.func16, Tryd.ntmps16
  go_wp2_with (go_at_call 32; (with_reducible refine HR.out.mono ?_); rintro e w1 ⟨rfl, hb1⟩)
  go_ret2
  exact ⟨rfl, hb1⟩
theorem unUrl_no (s : ByteArray) (w : World) (t : TypeId) (a : Addr) (hE : ErrText w t a) (hs : s.size ≤ 33554432) (hp : URadix.rd URadix.urlA (bytesOf s) = none) :
    Calls Tryd.prog 16 #[.string s] w fun e w' => e = .returned (.tuple #[.string { data := #[] }, .iface t (.pointer (some a))]) ∧ Below w.heap.size w w' := by
  have HR : Hid (Calls Tryd.prog 32 #[.string ⟨#[65, 66, 67, 68, 69, 70, 71, 72, 73, 74, 75, 76, 77, 78, 79, 80, 81, 82, 83, 84, 85, 86, 87, 88, 89, 90, 97, 98, 99, 100, 101, 102, 103, 104, 105, 106, 107, 108, 109, 110, 111, 112, 113, 114, 115, 116, 117, 118, 119, 120, 121, 122, 48, 49, 50, 51, 52, 53, 54, 55, 56, 57, 45, 95]⟩, .string s] w fun e w' => e = .returned (.tuple #[.string { data := #[] }, .bool false]) ∧ Below w.heap.size w w') := by
    have h := read_any urlS s w alpha_urlS hs
    rw [urlS_b, hp] at h
    exact Lib.hid h
  have HE := Lib.hid hE
  clear hp hE
  go_enter Tryd.func16, Tryd.ntmps16
  go_wp2_with (go_at_call 32; (with_reducible refine HR.out.mono ?_); rintro e w1 ⟨rfl, hb1⟩)
  have hc := HE.out.below hb1
  unfold ErrText at hc
  refine wp_region_still_lit (by kernel_rfl) (by kernel_rfl) ?_
  repeat still_step
  refine wpStill_nil ?_
  change Exit.then _ _ _ _ w1.drew
  have hbd := hb1.drew
  generalize w1.drew = wd at *
  clear hc
  go_wp2
  go_ret2
  exact ⟨rfl, hbd⟩
theorem octs_dec {v : List Nat} (hv : URadix.Small 64 v) : octs (URadix.bitsOf 6 v) = URadix.dec v := by
  unfold octs URadix.dec
  rw [URadix.bitsOf_length]
  exact List.map_congr_left fun j _ => by rw [URadix.grp_dec hv]
theorem octs_unhex {v : List Nat} (hv : URadix.Small 16 v) : octs (URadix.bitsOf 4 v) = URadix.unhex v := by
  unfold octs URadix.unhex
  rw [URadix.bitsOf_length]
  exact List.map_congr_left fun j _ => by rw [URadix.grp_unhex hv]
/-- what a reference's reader hands back -/
def RefRes (o : Option (List (BitVec 8))) : Value := match o with
  | some p => .tuple #[.string (strOf p), .int .i64 0]
  | none => .tuple #[.string { data := #[] }, .int .i64 2]
theorem str_ne {l : List (BitVec 8)} {s : ByteArray} (h : l ≠ bytesOf s) : ((strOf l).toList == s.toList) = false :=
  (Lib.bytes_beq_false_iff _ _).2 (fun e => h (by rw [← e, bytesOf_strOf]))
set_option maxHeartbeats 1000000 in
theorem refUnUrl_any (s : ByteArray) (w : World) (hs : s.size ≤ 16777216) :
    Calls Tryd.prog 17 #[.string s] w fun e w' => e = .returned (RefRes (URadix.rdRef URadix.urlA (bytesOf s))) ∧ Below w.heap.size w w' := by
  have hm := meant6_any s urlS w (by omega) (by decide)
  rw [urlS_b] at hm
  cases ha : URadix.allIn URadix.urlA (bytesOf s) with
  | false =>
    have HM : Hid (Calls Tryd.prog 30 #[.string s, .int .i64 6, .string ⟨#[65, 66, 67, 68, 69, 70, 71, 72, 73, 74, 75, 76, 77, 78, 79, 80, 81, 82, 83, 84, 85, 86, 87, 88, 89, 90, 97, 98, 99, 100, 101, 102, 103, 104, 105, 106, 107, 108, 109, 110, 111, 112, 113, 114, 115, 116, 117, 118, 119, 120, 121, 122, 48, 49, 50, 51, 52, 53, 54, 55, 56, 57, 45, 95]⟩] w fun e w' => e = .returned (.tuple #[.string { data := #[] }, .bool false]) ∧ Below w.heap.size w w') := by
      rw [meantRes_no ha] at hm
      exact Lib.hid hm
    have HF : Hid (RefRes (URadix.rdRef URadix.urlA (bytesOf s)) = .tuple #[.string { data := #[] }, .int .i64 2]) := Lib.hid (by
      unfold URadix.rdRef; rw [if_neg (fun x => by rw [ha] at x; exact absurd x.1 (by decide))]; rfl)
    clear hm ha
    go_enter Tryd.func17, Tryd.ntmps17
    go_wp2_with (go_at_call 30; (with_reducible refine HM.out.mono ?_); rintro e w1 ⟨rfl, hb1⟩)
    have HU := Lib.hid (refUrl_any ⟨#[]⟩ w1 (by decide))
    go_wp2_with (go_at_call 33; (with_reducible refine HU.out.mono ?_); rintro e w2 ⟨rfl, hb2⟩)
    go_ret2
    exact ⟨by rw [HF.out]; rfl, hb1.trans (hb2.mono hb1.size)⟩
  | true =>
    have hsm := URadix.small_numsOf (by omega) URadix.alpha_url (bytesOf s)
    rw [meantRes_yes ha, octs_dec hsm] at hm
    have HM : Hid (Calls Tryd.prog 30 #[.string s, .int .i64 6, .string ⟨#[65, 66, 67, 68, 69, 70, 71, 72, 73, 74, 75, 76, 77, 78, 79, 80, 81, 82, 83, 84, 85, 86, 87, 88, 89, 90, 97, 98, 99, 100, 101, 102, 103, 104, 105, 106, 107, 108, 109, 110, 111, 112, 113, 114, 115, 116, 117, 118, 119, 120, 121, 122, 48, 49, 50, 51, 52, 53, 54, 55, 56, 57, 45, 95]⟩] w fun e w' => e = .returned (.tuple #[.string (strOf (URadix.dec (URadix.numsOf URadix.urlA (bytesOf s)))), .bool true]) ∧ Below w.heap.size w w') := Lib.hid hm
    have hdl : (strOf (URadix.dec (URadix.numsOf URadix.urlA (bytesOf s)))).size ≤ 16777216 := by
      rw [strOf_size, URadix.dec_length, URadix.numsOf_length, bytesOf_length]; omega
    have HU : Hid (∀ w1, Calls Tryd.prog 33 #[.string (strOf (URadix.dec (URadix.numsOf URadix.urlA (bytesOf s))))] w1 fun e w' => e = .returned (.string (strOf (URadix.wr URadix.urlA (URadix.dec (URadix.numsOf URadix.urlA (bytesOf s)))))) ∧ Below w1.heap.size w1 w') := Lib.hid (fun w1 => by
      have h := refUrl_any (strOf (URadix.dec (URadix.numsOf URadix.urlA (bytesOf s)))) w1 hdl
      rw [bytesOf_strOf] at h
      exact h)
    clear hm hdl hsm
    by_cases hc : URadix.wr URadix.urlA (URadix.dec (URadix.numsOf URadix.urlA (bytesOf s))) = bytesOf s
    · have HF : Hid (RefRes (URadix.rdRef URadix.urlA (bytesOf s)) = .tuple #[.string (strOf (URadix.dec (URadix.numsOf URadix.urlA (bytesOf s)))), .int .i64 0]) := Lib.hid (by
        unfold URadix.rdRef; rw [if_pos ⟨ha, hc⟩]; rfl)
      rw [hc, strOf_bytesOf] at HU
      clear hc ha
      generalize strOf (URadix.dec (URadix.numsOf URadix.urlA (bytesOf s))) = D at *
      go_enter Tryd.func17, Tryd.ntmps17
      go_wp2_with (first
        | (go_at_call 30; (with_reducible refine HM.out.mono ?_); rintro e w1 ⟨rfl, hb1⟩; have HU1 := Lib.hid (HU.out w1))
        | (go_at_call 33; (with_reducible refine HU1.out.mono ?_); rintro e w2 ⟨rfl, hb2⟩))
      go_ret2
      exact ⟨by rw [HF.out]; rfl, hb1.trans (hb2.mono hb1.size)⟩
    · have HF : Hid (RefRes (URadix.rdRef URadix.urlA (bytesOf s)) = .tuple #[.string { data := #[] }, .int .i64 2]) := Lib.hid (by
        unfold URadix.rdRef; rw [if_neg (fun x => hc x.2)]; rfl)
      have hne := str_ne hc
      clear hc ha
      generalize strOf (URadix.wr URadix.urlA (URadix.dec (URadix.numsOf URadix.urlA (bytesOf s)))) = S at *
      generalize strOf (URadix.dec (URadix.numsOf URadix.urlA (bytesOf s))) = D at *
      go_enter Tryd.func17, Tryd.ntmps17
      go_wp2_with (first
        | (go_at_call 30; (with_reducible refine HM.out.mono ?_); rintro e w1 ⟨rfl, hb1⟩; have HU1 := Lib.hid (HU.out w1))
        | (go_at_call 33; (with_reducible refine HU1.out.mono ?_); rintro e w2 ⟨rfl, hb2⟩))
      go_ret2
      exact ⟨by rw [HF.out]; rfl, hb1.trans (hb2.mono hb1.size)⟩
end Go.Proofs.YtoldmgpnogkjfaaDoor
