/- A row of bytes that the call owns, turned into a string. -/
import Derived.Test.YtoldmgpnogkjfaaBase
namespace Go.Proofs.Ytoldmgpnogkjfaa
open Go.RowKit
theorem conv_own {w : World} {base n : Nat} {v : Value} {l : List (BitVec 8)} (h : w.ownsRow base 5 1 v n (u8s l)) :
    (convert 29 9 v).run Try.prog w = .ok (.string (strOf l)) w := by
  have hl : l.length = n := by have := h.1; rw [u8s_length] at this; omega
  rcases h.2 with ⟨rfl, rfl⟩ | ⟨g, cap, cur, rfl, _⟩
  · obtain rfl : l = [] := List.eq_nil_of_length_eq_zero hl
    exact run_convert_bytes_nil (P := Try.prog) (w := w) 29 5 Try.underlying29 Try.underlying5 0 0 9 Try.underlying9
  · have hc := h.cells (g := g) rfl
    subst hl
    have := run_convert_bytes_back (P := Try.prog) w 29 9 5 ⟨g, 0, none⟩ cap (l.map UInt8.ofBitVec) Try.underlying29 Try.underlying5 Try.underlying9 (fun j hj => by
      have hj' : j < l.length := by simpa using hj
      rw [hc j (.int .u8 (l[j].toNat : Int)) (by simp [u8s, hj'])]
      simp)
    simpa [strOf] using this
end Go.Proofs.Ytoldmgpnogkjfaa
