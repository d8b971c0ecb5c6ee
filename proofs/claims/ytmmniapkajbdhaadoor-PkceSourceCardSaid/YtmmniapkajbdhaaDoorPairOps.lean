/- What a Push, a Fresh and a Drop leave of the two pairs. -/
import Derived.Test.YtmmniapkajbdhaaDoorPairSeen
namespace Go.Proofs.YtmmniapkajbdhaaDoor
open Go.RowKit
section
variable {w w' : World} {B : Nat} {gs gr : Nat → Nat} {ga gb gq : Nat} {bs br : Nat → Option Addr} {cs cr : Nat → Nat} {LS LR : Nat → List ByteArray} {vb : Option Addr} {vc : Nat} {S : List ByteArray}
theorem Pair.blkS (h : Pair w B gs gr ga gb gq bs br cs cr LS LR vb vc S) (j : Nat) (hj : j < 2) (hk : ∀ k, k < w.heap.size → k ≠ gs j → blkOf (bs j) ≠ some k → w'.heap[k]? = w.heap[k]?) {b : Nat} {t : TypeId} {l : List Value} (hb : Blk w b t l) (h1 : 61 ≠ t) (h2 : 65 ≠ t) : Blk w' b t l := by
  have e := hk b hb.lt (Ne.symm (blk_ne (h.s j hj).blk hb h1)) (fun e => src_rowNe (h.s j hj) hb h2 b e rfl)
  unfold Blk at *
  rw [e]
  exact hb
theorem Pair.blkR (h : Pair w B gs gr ga gb gq bs br cs cr LS LR vb vc S) (j : Nat) (hj : j < 2) (hk : ∀ k, k < w.heap.size → k ≠ gr j → blkOf (br j) ≠ some k → w'.heap[k]? = w.heap[k]?) {b : Nat} {t : TypeId} {l : List Value} (hb : Blk w b t l) (h1 : 63 ≠ t) (h2 : 9 ≠ t) : Blk w' b t l := by
  have e := hk b hb.lt (Ne.symm (blk_ne (h.r j hj).blk hb h1)) (fun e => (h.r j hj).rowNe hb h2 b e rfl)
  unfold Blk at *
  rw [e]
  exact hb
theorem Pair.pushS (h : Pair w B gs gr ga gb gq bs br cs cr LS LR vb vc S) (j : Nat) (hj : j < 2) (x : ByteArray) (ht : Turned w w' B (gs j) (bs j) ((LS j).map bytesOf ++ [bytesOf x])) (hg : B ≤ gs j) (hB : B ≤ w.heap.size) :
    Below B w w' ∧ (∀ {b : Nat} {t : TypeId} {l : List Value}, Blk w b t l → 61 ≠ t → 65 ≠ t → Blk w' b t l) ∧ ∃ ba' cap', Pair w' B gs gr ga gb gq (upd bs j ba') br (upd cs j cap') cr (upd LS j (LS j ++ [x])) LR vb vc S := by
  obtain ⟨ba', cap', hS, hT, hn⟩ := ht
  have hk : ∀ k, k < w.heap.size → k ≠ gs j → blkOf (bs j) ≠ some k → w'.heap[k]? = w.heap[k]? := fun k h1 h2 h3 => hT.block k h1 h2 h3
  refine ⟨hT.below hB hg fun k e => ((h.s j hj).row k e).1, fun hb h1 h2 => h.blkS j hj hk hb h1 h2, ba', cap', h.stepS j hj (M := LS j ++ [x]) (by rw [List.map_append]; exact hS) hk hn⟩
theorem Pair.pushR (h : Pair w B gs gr ga gb gq bs br cs cr LS LR vb vc S) (j : Nat) (hj : j < 2) (x : ByteArray) (ht : RTurned w w' B (gr j) (br j) (LR j ++ [x])) (hg : B ≤ gr j) (hB : B ≤ w.heap.size) :
    Below B w w' ∧ (∀ {b : Nat} {t : TypeId} {l : List Value}, Blk w b t l → 63 ≠ t → 9 ≠ t → Blk w' b t l) ∧ ∃ ba' cap', Pair w' B gs gr ga gb gq bs (upd br j ba') cs (upd cr j cap') LS (upd LR j (LR j ++ [x])) vb vc S := by
  obtain ⟨ba', cap', hS, hT, hn⟩ := ht
  have hk : ∀ k, k < w.heap.size → k ≠ gr j → blkOf (br j) ≠ some k → w'.heap[k]? = w.heap[k]? := fun k h1 h2 h3 => hT.block k h1 h2 h3
  refine ⟨hT.below hB hg fun k e => ((h.r j hj).rowAt k e).1, fun hb h1 h2 => h.blkR j hj hk hb h1 h2, ba', cap', h.stepR j hj hS hk hn⟩
theorem Pair.freshS (h : Pair w B gs gr ga gb gq bs br cs cr LS LR vb vc S) (j : Nat) (hj : j < 2) {ba' : Option Addr} {cap' : Nat} {R : List ByteArray} (hS : Src w' w.heap.size (gs j) ba' cap' (R.map bytesOf)) (hK : Keeps [gs j] w w') (hg : B ≤ gs j) (hB : B ≤ w.heap.size) :
    Below B w w' ∧ (∀ {b : Nat} {t : TypeId} {l : List Value}, Blk w b t l → 61 ≠ t → 65 ≠ t → Blk w' b t l) ∧ Pair w' B gs gr ga gb gq (upd bs j ba') br (upd cs j cap') cr (upd LS j R) LR vb vc S := by
  have hk : ∀ k, k < w.heap.size → k ≠ gs j → blkOf (bs j) ≠ some k → w'.heap[k]? = w.heap[k]? := fun k h1 h2 _ => hK.block k h1 (by simpa using h2)
  exact ⟨hK.below hB (by simpa using hg), fun hb h1 h2 => h.blkS j hj hk hb h1 h2, h.stepS j hj (src_mono hS hB) hk fun k e => .inr (hS.row k e).1⟩
theorem Pair.dropR (h : Pair w B gs gr ga gb gq bs br cs cr LS LR vb vc S) (j : Nat) (hj : j < 2) {R : List ByteArray} (hd : Dropped w w' B (gr j) (br j) R) (hg : B ≤ gr j) (hB : B ≤ w.heap.size) :
    Below B w w' ∧ (∀ {b : Nat} {t : TypeId} {l : List Value}, Blk w b t l → 63 ≠ t → 9 ≠ t → Blk w' b t l) ∧ ∃ ba' cap', Pair w' B gs gr ga gb gq bs (upd br j ba') cs (upd cr j cap') LS (upd LR j R) vb vc S := by
  obtain ⟨ba', cap', hS, hK, hn⟩ := hd
  have hk : ∀ k, k < w.heap.size → k ≠ gr j → blkOf (br j) ≠ some k → w'.heap[k]? = w.heap[k]? := fun k h1 h2 _ => hK.block k h1 (by simpa using h2)
  exact ⟨hK.below hB (by simpa using hg), fun hb h1 h2 => h.blkR j hj hk hb h1 h2, ba', cap', h.stepR j hj hS hk fun k e => .inl (hn.symm.trans e)⟩
theorem upd_le {L : Nat → List ByteArray} {j : Nat} {M : List ByteArray} (h : ∀ i, i < 2 → (L i).length ≤ 1024) (hM : M.length ≤ 1024) : ∀ i, i < 2 → (upd L j M i).length ≤ 1024 := by
  intro i hi
  by_cases h1 : i = j
  · subst h1; rw [upd_same]; exact hM
  · rw [upd_other _ _ h1]; exact h i hi
end
end Go.Proofs.YtmmniapkajbdhaaDoor
