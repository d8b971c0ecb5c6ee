/- The one refusal's variable, out of what a row lists. -/
import Derived.Test.YtmkifaddfnodhaaDoorErrs
import Derived.Test.YtmkifaddfnodhaaDoorStretch
namespace Go.Proofs.YtmkifaddfnodhaaDoor
open Go.RowKit
theorem errArg_laid {W : World} {l : List (String × DataW Unit)} (h : laidMet Tryd.prog l W) (m0 : ("usher/api.ErrArg", errD [97, 114, 103, 117, 109, 101, 110, 116]) ∈ l) : ∃ a, ErrArg W 92 a := by
  obtain ⟨a0, s0, _⟩ := laid_err (g := 2) h m0 (by kernel_rfl) (by kernel_rfl) Tryd.underlying24 rowP Tryd.underlying92 Tryd.underlying107 rfl rfl Tryd.underlying9 (by kernel_rfl) (by kernel_rfl)
  exact ⟨a0, s0⟩
end Go.Proofs.YtmkifaddfnodhaaDoor
