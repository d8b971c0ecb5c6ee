/- The box of the statements over Stretching. -/
import Derived.Test.YtkhfelfdgpfjkaaDoorStretchPure
namespace Go.Proofs.YtkhfelfdgpfjkaaDoor
open Go.RowKit
theorem st_below {W w' : World} {a b : ByteArray} {r : Int} (h : Below (W.alloc (.cells #[.string a, .string b, .int .i64 r] 55)).heap.size (W.alloc (.cells #[.string a, .string b, .int .i64 r] 55)) w') :
    w'.cell? ⟨W.heap.size, 0, none⟩ = some (.string a) ∧ w'.cell? ⟨W.heap.size, 1, none⟩ = some (.string b) ∧ w'.cell? ⟨W.heap.size, 2, none⟩ = some (.int .i64 r) :=
  ⟨cell_below ((Blk.new W 55 [.string a, .string b, .int .i64 r]).cell 0) h, cell_below ((Blk.new W 55 [.string a, .string b, .int .i64 r]).cell 1) h, cell_below ((Blk.new W 55 [.string a, .string b, .int .i64 r]).cell 2) h⟩
theorem st_fin {W w' : World} {a b : ByteArray} {r : Int} (h : Below (W.alloc (.cells #[.string a, .string b, .int .i64 r] 55)).heap.size (W.alloc (.cells #[.string a, .string b, .int .i64 r] 55)) w') : Below W.heap.size W w' :=
  ((Below.refl _ _).alloc (Nat.le_refl _) _).trans (h.mono (by simp))
end Go.Proofs.YtkhfelfdgpfjkaaDoor
