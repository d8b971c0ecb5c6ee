/- Two sources of the program, two of the reference, the identifiers seen: what each step leaves. -/
import Derived.Test.YtmmniapkajbdhaaDoorDrawn
import Derived.Test.YtmmniapkajbdhaaDoorSrcFresh
namespace Go.Proofs.YtmmniapkajbdhaaDoor
open Go.RowKit
def upd {α : Type} (f : Nat → α) (j : Nat) (x : α) : Nat → α := fun i => if i = j then x else f i
theorem upd_same {α : Type} (f : Nat → α) (j : Nat) (x : α) : upd f j x j = x := if_pos rfl
theorem upd_other {α : Type} (f : Nat → α) {j i : Nat} (x : α) (h : i ≠ j) : upd f j x i = f i := if_neg h
abbrev blkOf (ba : Option Addr) : Option Nat := ba.map (·.block)
theorem src_mono {w : World} {B B' g : Nat} {ba : Option Addr} {cap : Nat} {L : List (List (BitVec 8))} (h : Src w B g ba cap L) (hb : B' ≤ B) : Src w B' g ba cap L := by
  refine ⟨h.blk, ⟨h.own.1, ?_⟩, h.len⟩
  rcases h.own.2 with h0 | ⟨g', cap', cur, hv, hle, r⟩
  · exact .inl h0
  · exact .inr ⟨g', cap', cur, hv, by omega, r⟩
theorem src_rowNe {w : World} {B g b : Nat} {ba : Option Addr} {cap : Nat} {L : List (List (BitVec 8))} (h : Src w B g ba cap L) {t : TypeId} {l : List Value} (hb : Blk w b t l) (ht : 65 ≠ t) (k : Nat) (hk : blkOf ba = some k) : k ≠ b :=
  own_ne2 h.own hb ht (by rw [own_block]; exact hk)
theorem src_rowRow {w : World} {B B' g g' : Nat} {ba ba' : Option Addr} {cap cap' : Nat} {L : List (List (BitVec 8))} {R : List ByteArray} (h : Src w B g ba cap L) (hr : RSrc w B' g' ba' cap' R) (k m : Nat) (hk : blkOf ba = some k) (hm : blkOf ba' = some m) : k ≠ m := by
  obtain ⟨_, cur, hh⟩ := hr.rowAt m hm
  exact src_rowNe h (b := m) (t := 9) (l := cur.toList) (by unfold Blk; exact hh) (by decide) k hk
structure Pair (w : World) (B : Nat) (gs gr : Nat → Nat) (ga gb gq : Nat) (bs br : Nat → Option Addr) (cs cr : Nat → Nat) (LS LR : Nat → List ByteArray) (vb : Option Addr) (vc : Nat) (S : List ByteArray) : Prop where
  s : ∀ i, i < 2 → Src w B (gs i) (bs i) (cs i) ((LS i).map bytesOf)
  r : ∀ i, i < 2 → RSrc w B (gr i) (br i) (cr i) (LR i)
  a : Blk w ga 30 [.pointer (some ⟨gs 0, 0, none⟩), .pointer (some ⟨gs 1, 0, none⟩)]
  b : Blk w gb 33 [.pointer (some ⟨gr 0, 0, none⟩), .pointer (some ⟨gr 1, 0, none⟩)]
  q : Blk w gq 34 [.slice vb S.length vc]
  o : w.ownsRow B 9 1 (.slice vb S.length vc) S.length (strs S)
  ns : ∀ i i', i < 2 → i' < 2 → i ≠ i' → gs i ≠ gs i'
  nr : ∀ i i', i < 2 → i' < 2 → i ≠ i' → gr i ≠ gr i'
  ds : ∀ i i', i < 2 → i' < 2 → i ≠ i' → ∀ k, blkOf (bs i) = some k → blkOf (bs i') ≠ some k
  dr : ∀ i i', i < 2 → i' < 2 → i ≠ i' → ∀ k, blkOf (br i) = some k → blkOf (br i') ≠ some k
  dq : ∀ i, i < 2 → ∀ k, blkOf (br i) = some k → blkOf vb ≠ some k
section
variable {w w' : World} {B : Nat} {gs gr : Nat → Nat} {ga gb gq : Nat} {bs br : Nat → Option Addr} {cs cr : Nat → Nat} {LS LR : Nat → List ByteArray} {vb : Option Addr} {vc : Nat} {S : List ByteArray}
theorem Pair.oLt (h : Pair w B gs gr ga gb gq bs br cs cr LS LR vb vc S) (k : Nat) (hk : blkOf vb = some k) : k < w.heap.size := (h.o.lt k (by rw [own_block]; exact hk)).2
theorem Pair.below (h : Pair w B gs gr ga gb gq bs br cs cr LS LR vb vc S) (hb : Below w.heap.size w w') : Pair w' B gs gr ga gb gq bs br cs cr LS LR vb vc S :=
  ⟨fun i hi => (h.s i hi).below hb, fun i hi => (h.r i hi).below hb, h.a.below hb h.a.lt, h.b.below hb h.b.lt, h.q.below hb h.q.lt, own_below2 h.o hb, h.ns, h.nr, h.ds, h.dr, h.dq⟩
theorem Pair.ca (h : Pair w B gs gr ga gb gq bs br cs cr LS LR vb vc S) (j : Nat) (hj : j < 2) : w.cell? ⟨ga, j, none⟩ = some (.pointer (some ⟨gs j, 0, none⟩)) := by
  rw [h.a.cell j]
  match j, hj with
  | 0, _ => rfl
  | 1, _ => rfl
theorem Pair.cb (h : Pair w B gs gr ga gb gq bs br cs cr LS LR vb vc S) (j : Nat) (hj : j < 2) : w.cell? ⟨gb, j, none⟩ = some (.pointer (some ⟨gr j, 0, none⟩)) := by
  rw [h.b.cell j]
  match j, hj with
  | 0, _ => rfl
  | 1, _ => rfl
theorem Pair.cq (h : Pair w B gs gr ga gb gq bs br cs cr LS LR vb vc S) : w.cell? ⟨gq, 0, none⟩ = some (.slice vb S.length vc) := h.q.cell 0
/-- the program's source j has turned: its block and its old row alone -/
theorem Pair.stepS (h : Pair w B gs gr ga gb gq bs br cs cr LS LR vb vc S) (j : Nat) (hj : j < 2) {ba' : Option Addr} {cap' : Nat} {M : List ByteArray} (hS : Src w' B (gs j) ba' cap' (M.map bytesOf))
    (hk : ∀ k, k < w.heap.size → k ≠ gs j → blkOf (bs j) ≠ some k → w'.heap[k]? = w.heap[k]?) (hn : ∀ k, blkOf ba' = some k → blkOf (bs j) = some k ∨ w.heap.size ≤ k) :
    Pair w' B gs gr ga gb gq (upd bs j ba') br (upd cs j cap') cr (upd LS j M) LR vb vc S := by
  have keepB : ∀ {b : Nat} {t : TypeId} {l : List Value}, Blk w b t l → 61 ≠ t → 65 ≠ t → Blk w' b t l := fun {b t l} hb h1 h2 => by
    have e := hk b hb.lt (Ne.symm (blk_ne (h.s j hj).blk hb h1)) (fun e => src_rowNe (h.s j hj) hb h2 b e rfl)
    unfold Blk at *
    rw [e]
    exact hb
  refine ⟨fun i hi => ?_, fun i hi => ?_, keepB h.a (by decide) (by decide), keepB h.b (by decide) (by decide), keepB h.q (by decide) (by decide), ?_, h.ns, h.nr, ?_, h.dr, h.dq⟩
  · by_cases hij : i = j
    · subst hij
      rw [upd_same, upd_same, upd_same]
      exact hS
    · rw [upd_other _ _ hij, upd_other _ _ hij, upd_other _ _ hij]
      refine (h.s i hi).keep fun k hkk => ?_
      rcases hkk with rfl | hkk
      · exact hk _ (h.s i hi).lt (h.ns i j hi hj hij) (fun e => src_rowNe (h.s j hj) (h.s i hi).blk (by decide) _ e rfl)
      · exact hk _ ((h.s i hi).row k hkk).2.1 (src_rowNe (h.s i hi) (h.s j hj).blk (by decide) k hkk) (h.ds i j hi hj hij k hkk)
  · refine (h.r i hi).keep fun k hkk => ?_
    rcases hkk with rfl | hkk
    · exact hk _ (h.r i hi).lt (Ne.symm (blk_ne (h.s j hj).blk (h.r i hi).blk (by decide))) (fun e => src_rowNe (h.s j hj) (h.r i hi).blk (by decide) _ e rfl)
    · exact hk _ ((h.r i hi).rowLt k hkk) ((h.r i hi).rowNe (h.s j hj).blk (by decide) k hkk) (fun e => src_rowRow (h.s j hj) (h.r i hi) k k e hkk rfl)
  · refine own_blocks h.o fun k e => hk k (h.o.lt k e).2 (own_ne2 h.o (h.s j hj).blk (by decide) e) (fun e2 => ?_)
    have e3 : (Value.slice vb S.length vc).ownBlock = some k := e
    rcases h.o.2 with ⟨hv, _⟩ | ⟨g', _, cur, hv, _, hh, _⟩
    · rw [hv] at e3; cases e3
    · rw [hv] at e3
      have e4 : g' = k := by simpa [Value.ownBlock] using e3
      subst e4
      exact src_rowNe (h.s j hj) (b := g') (t := 9) (l := cur.toList) (by unfold Blk; exact hh) (by decide) g' e2 rfl
  · intro i i' hi hi' hne k hkk
    by_cases h1 : i = j
    · subst h1
      rw [upd_same] at hkk
      rw [upd_other _ _ (Ne.symm hne)]
      rcases hn k hkk with e | e
      · exact h.ds i i' hi hi' hne k e
      · intro e2
        have := ((h.s i' hi').row k e2).2.1
        omega
    · rw [upd_other _ _ h1] at hkk
      by_cases h2 : i' = j
      · subst h2
        rw [upd_same]
        intro e
        rcases hn k e with e2 | e2
        · exact h.ds i i' hi hi' hne k hkk e2
        · have := ((h.s i hi).row k hkk).2.1
          omega
      · rw [upd_other _ _ h2]
        exact h.ds i i' hi hi' hne k hkk
/-- the reference's source j has turned -/
theorem Pair.stepR (h : Pair w B gs gr ga gb gq bs br cs cr LS LR vb vc S) (j : Nat) (hj : j < 2) {ba' : Option Addr} {cap' : Nat} {M : List ByteArray} (hS : RSrc w' B (gr j) ba' cap' M)
    (hk : ∀ k, k < w.heap.size → k ≠ gr j → blkOf (br j) ≠ some k → w'.heap[k]? = w.heap[k]?) (hn : ∀ k, blkOf ba' = some k → blkOf (br j) = some k ∨ w.heap.size ≤ k) :
    Pair w' B gs gr ga gb gq bs (upd br j ba') cs (upd cr j cap') LS (upd LR j M) vb vc S := by
  have keepB : ∀ {b : Nat} {t : TypeId} {l : List Value}, Blk w b t l → 63 ≠ t → 9 ≠ t → Blk w' b t l := fun {b t l} hb h1 h2 => by
    have e := hk b hb.lt (Ne.symm (blk_ne (h.r j hj).blk hb h1)) (fun e => (h.r j hj).rowNe hb h2 b e rfl)
    unfold Blk at *
    rw [e]
    exact hb
  refine ⟨fun i hi => ?_, fun i hi => ?_, keepB h.a (by decide) (by decide), keepB h.b (by decide) (by decide), keepB h.q (by decide) (by decide), ?_, h.ns, h.nr, h.ds, ?_, ?_⟩
  · refine (h.s i hi).keep fun k hkk => ?_
    rcases hkk with rfl | hkk
    · exact hk _ (h.s i hi).lt (Ne.symm (blk_ne (h.r j hj).blk (h.s i hi).blk (by decide))) (fun e => (h.r j hj).rowNe (h.s i hi).blk (by decide) _ e rfl)
    · exact hk _ ((h.s i hi).row k hkk).2.1 (src_rowNe (h.s i hi) (h.r j hj).blk (by decide) k hkk) (fun e => src_rowRow (h.s i hi) (h.r j hj) k k hkk e rfl)
  · by_cases hij : i = j
    · subst hij
      rw [upd_same, upd_same, upd_same]
      exact hS
    · rw [upd_other _ _ hij, upd_other _ _ hij, upd_other _ _ hij]
      refine (h.r i hi).keep fun k hkk => ?_
      rcases hkk with rfl | hkk
      · exact hk _ (h.r i hi).lt (h.nr i j hi hj hij) (fun e => (h.r j hj).rowNe (h.r i hi).blk (by decide) _ e rfl)
      · exact hk _ ((h.r i hi).rowLt k hkk) ((h.r i hi).rowNe (h.r j hj).blk (by decide) k hkk) (h.dr i j hi hj hij k hkk)
  · refine own_blocks h.o fun k e => hk k (h.o.lt k e).2 (own_ne2 h.o (h.r j hj).blk (by decide) e) (fun e2 => h.dq j hj k e2 ?_)
    rw [own_block] at e
    exact e
  · intro i i' hi hi' hne k hkk
    by_cases h1 : i = j
    · subst h1
      rw [upd_same] at hkk
      rw [upd_other _ _ (Ne.symm hne)]
      rcases hn k hkk with e | e
      · exact h.dr i i' hi hi' hne k e
      · intro e2
        have := (h.r i' hi').rowLt k e2
        omega
    · rw [upd_other _ _ h1] at hkk
      by_cases h2 : i' = j
      · subst h2
        rw [upd_same]
        intro e
        rcases hn k e with e2 | e2
        · exact h.dr i i' hi hi' hne k hkk e2
        · have := (h.r i hi).rowLt k hkk
          omega
      · rw [upd_other _ _ h2]
        exact h.dr i i' hi hi' hne k hkk
  · intro i hi k hkk
    by_cases h1 : i = j
    · subst h1
      rw [upd_same] at hkk
      rcases hn k hkk with e | e
      · exact h.dq i hi k e
      · intro e2
        have := h.oLt k e2
        omega
    · rw [upd_other _ _ h1] at hkk
      exact h.dq i hi k hkk
end
end Go.Proofs.YtmmniapkajbdhaaDoor
