/- A row of bytes that the call owns, turned into a string. -/
import Derived.Test.YtmmniapkajbdhaaDoorBase
namespace Go.Proofs.YtmmniapkajbdhaaDoor
open Go.RowKit
theorem conv_own {w : World} {base n : Nat} {v : Value} {l : List (BitVec 8)} (h : w.ownsRow base 5 1 v n (u8s l)) :
    (convert 66 9 v).run Tryd.prog w = .ok (.string (strOf l)) w := by
  have hl : l.length = n := by have := h.1; rw [u8s_length] at this; omega
  rcases h.2 with ⟨rfl, rfl⟩ | ⟨g, cap, cur, rfl, _⟩
  · obtain rfl : l = [] := List.eq_nil_of_length_eq_zero hl
    exact run_convert_bytes_nil (P := Tryd.prog) (w := w) 66 5 Tryd.underlying66 Tryd.underlying5 0 0 9 Tryd.underlying9
  · have hc := h.cells (g := g) rfl
    subst hl
    have := run_convert_bytes_back (P := Tryd.prog) w 66 9 5 ⟨g, 0, none⟩ cap (l.map UInt8.ofBitVec) Tryd.underlying66 Tryd.underlying5 Tryd.underlying9 (fun j hj => by
      have hj' : j < l.length := by simpa using hj
      rw [hc j (.int .u8 (l[j].toNat : Int)) (by simp [u8s, hj'])]
      simp)
    simpa [strOf] using this
end Go.Proofs.YtmmniapkajbdhaaDoor
