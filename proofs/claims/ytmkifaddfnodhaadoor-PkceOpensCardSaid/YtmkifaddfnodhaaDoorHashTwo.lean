/- Two blocks for two digests. -/
import Derived.Test.YtmkifaddfnodhaaDoorHashKeyed
namespace Go.Proofs.YtmkifaddfnodhaaDoor
open Go.RowKit
theorem zHash_two (w : World) : Blk ((w.alloc (.cells Tryd.zeroCells70 70)).alloc (.cells Tryd.zeroCells70 70)) w.heap.size 70 zHash ∧
    Blk ((w.alloc (.cells Tryd.zeroCells70 70)).alloc (.cells Tryd.zeroCells70 70)) (w.heap.size + 1) 70 zHash := by
  refine ⟨(zHash_new w).alloc _, ?_⟩
  have h := zHash_new (w.alloc (.cells Tryd.zeroCells70 70))
  rwa [show (w.alloc (.cells Tryd.zeroCells70 70)).heap.size = w.heap.size + 1 by simp] at h
end Go.Proofs.YtmkifaddfnodhaaDoor
