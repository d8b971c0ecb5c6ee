/- The identifiers seen: one more. -/
import Derived.Test.YtmmniapkajbdhaaDoorPair
namespace Go.Proofs.YtmmniapkajbdhaaDoor
open Go.RowKit
theorem Pair.seen {w w2 : World} {B : Nat} {gs gr : Nat → Nat} {ga gb gq : Nat} {bs br : Nat → Option Addr} {cs cr : Nat → Nat} {LS LR : Nat → List ByteArray} {vb : Option Addr} {vc : Nat} {S : List ByteArray} (h : Pair w B gs gr ga gb gq bs br cs cr LS LR vb vc S)
    (id : ByteArray) {gg cap2 : Nat} (hown2 : w2.ownsRow B 9 1 (.slice (some ⟨gg, 0, none⟩) (S.length + 1) cap2) (S.length + 1) (strs S ++ [.string id])) (hgrow : (w.alloc (.cells #[.string id] 9)).grownBy w2 (Value.slice vb S.length vc).ownBlock)
    (hat : (Value.slice vb S.length vc).ownBlock = some gg ∨ gg = w.heap.size + 1) :
    w2.cell? ⟨gq, 0, none⟩ = some (.slice vb S.length vc) ∧ w2.frozen? ⟨gq, 0, none⟩ = false ∧ Pair (w2.setCell ⟨gq, 0, none⟩ (.slice (some ⟨gg, 0, none⟩) (S.length + 1) cap2)) B gs gr ga gb gq bs br cs cr LS LR (some ⟨gg, 0, none⟩) cap2 (S ++ [id]) := by
  rw [own_block] at hgrow hat
  have hsz : (w.alloc (.cells #[.string id] 9)).heap.size = w.heap.size + 1 := by simp
  have keep : ∀ k, k < w.heap.size → blkOf vb ≠ some k → w2.heap[k]? = w.heap[k]? := fun k hk hne => (hgrow.block k (by rw [hsz]; omega) (fun e => hne e.symm)).trans (Below.heap_alloc w _ k hk)
  have ne : ∀ {b : Nat} {t : TypeId} {l : List Value}, Blk w b t l → 9 ≠ t → blkOf vb ≠ some b := fun {b t l} hb ht e => own_ne2 h.o hb ht (by rw [own_block]; exact e) rfl
  have keepB : ∀ {b : Nat} {t : TypeId} {l : List Value}, Blk w b t l → 9 ≠ t → Blk w2 b t l := fun {b t l} hb ht => by
    have e := keep b hb.lt (ne hb ht)
    unfold Blk at *
    rw [e]
    exact hb
  have hq2 := keepB h.q (by decide)
  have hgq : gg ≠ gq := by
    rintro rfl
    rcases hat with e | e
    · exact ne h.q (by decide) e
    · have := h.q.lt; omega
  have hrow : ∀ k, blkOf (some (⟨gg, 0, none⟩ : Addr)) = some k → k = gg := fun k hk => by simpa using hk.symm
  have setS : ∀ k, k ≠ gq → (w2.setCell ⟨gq, 0, none⟩ (.slice (some ⟨gg, 0, none⟩) (S.length + 1) cap2)).heap[k]? = w2.heap[k]? := fun k hk => Below.heap_setCell w2 ⟨gq, 0, none⟩ _ k hk
  refine ⟨hq2.cell 0, hq2.frozen 0, fun i hi => ?_, fun i hi => ?_, (keepB h.a (by decide)).far _ _ (blk_ne h.a h.q (by decide)), (keepB h.b (by decide)).far _ _ (blk_ne h.b h.q (by decide)), ?_, ?_, h.ns, h.nr, h.ds, h.dr, ?_⟩
  · refine (h.s i hi).keep fun k hk => ?_
    rcases hk with rfl | hk
    · rw [setS _ (blk_ne (h.s i hi).blk h.q (by decide))]
      exact keep _ (h.s i hi).lt (ne (h.s i hi).blk (by decide))
    · rw [setS _ (src_rowNe (h.s i hi) h.q (by decide) k hk)]
      refine keep _ ((h.s i hi).row k hk).2.1 (fun e => ?_)
      have e3 : (Value.slice vb S.length vc).ownBlock = some k := by rw [own_block]; exact e
      rcases h.o.2 with ⟨hv, _⟩ | ⟨g', _, cur, hv, _, hh, _⟩
      · rw [hv] at e3; cases e3
      · rw [hv] at e3
        have e4 : g' = k := by simpa [Value.ownBlock] using e3
        subst e4
        exact src_rowNe (h.s i hi) (b := g') (t := 9) (l := cur.toList) (by unfold Blk; exact hh) (by decide) g' hk rfl
  · refine (h.r i hi).keep fun k hk => ?_
    rcases hk with rfl | hk
    · rw [setS _ (blk_ne (h.r i hi).blk h.q (by decide))]
      exact keep _ (h.r i hi).lt (ne (h.r i hi).blk (by decide))
    · rw [setS _ ((h.r i hi).rowNe h.q (by decide) k hk)]
      exact keep _ ((h.r i hi).rowLt k hk) (h.dq i hi k hk)
  · have := hq2.set 0 (.slice (some ⟨gg, 0, none⟩) (S.length + 1) cap2)
    simpa using this
  · have := ownsRow_setCell_other hown2 (a := ⟨gq, 0, none⟩) (fun e => hgq (by simpa [Value.ownBlock] using e)) (.slice (some ⟨gg, 0, none⟩) (S.length + 1) cap2)
    simpa [strs] using this
  · intro i hi k hk e
    have e2 := hrow k e
    subst e2
    rcases hat with e3 | e3
    · exact h.dq i hi _ hk e3
    · have := (h.r i hi).rowLt _ hk
      omega
end Go.Proofs.YtmmniapkajbdhaaDoor
