/- Strings as lists of bytes; a row of bytes that the call owns, turned into a string. -/
import Derived.Test.YtkhfelfdgpfjkaaDoorKit
import Derived.Laws.IdiomStrings
import Derived.Laws.BytesArg
namespace Go.Proofs.YtkhfelfdgpfjkaaDoor
open Go.RowKit
def strOf (l : List (BitVec 8)) : ByteArray := ⟨(l.map UInt8.ofBitVec).toArray⟩
theorem bytesOf_strOf (l : List (BitVec 8)) : bytesOf (strOf l) = l := by
  simp [bytesOf, strOf, Function.comp_def]
theorem strOf_bytesOf (s : ByteArray) : strOf (bytesOf s) = s := by
  simp [bytesOf, strOf, Function.comp_def]
theorem strOf_size (l : List (BitVec 8)) : (strOf l).size = l.length := by
  rw [← bytesOf_length, bytesOf_strOf]
theorem bytesOf_inj {a b : ByteArray} (h : bytesOf a = bytesOf b) : a = b := by rw [← strOf_bytesOf a, h, strOf_bytesOf]
theorem conv_own {w : World} {base n : Nat} {v : Value} {l : List (BitVec 8)} (h : w.ownsRow base 5 1 v n (u8s l)) :
    (convert 37 9 v).run Tryd.prog w = .ok (.string (strOf l)) w := by
  have hl : l.length = n := by have := h.1; rw [u8s_length] at this; omega
  rcases h.2 with ⟨rfl, rfl⟩ | ⟨g, cap, cur, rfl, _⟩
  · obtain rfl : l = [] := List.eq_nil_of_length_eq_zero hl
    exact run_convert_bytes_nil (P := Tryd.prog) (w := w) 37 5 Tryd.underlying37 Tryd.underlying5 0 0 9 Tryd.underlying9
  · have hc := h.cells (g := g) rfl
    subst hl
    have := run_convert_bytes_back (P := Tryd.prog) w 37 9 5 ⟨g, 0, none⟩ cap (l.map UInt8.ofBitVec) Tryd.underlying37 Tryd.underlying5 Tryd.underlying9 (fun j hj => by
      have hj' : j < l.length := by simpa using hj
      rw [hc j (.int .u8 (l[j].toNat : Int)) (by simp [u8s, hj'])]
      simp)
    simpa [strOf] using this
end Go.Proofs.YtkhfelfdgpfjkaaDoor
