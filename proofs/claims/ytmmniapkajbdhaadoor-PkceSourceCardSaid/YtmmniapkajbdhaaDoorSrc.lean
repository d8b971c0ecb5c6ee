/- A source of the program: the line of its draws; NewSource, Left. -/
import Derived.Test.YtmmniapkajbdhaaDoorSrcBase
namespace Go.Proofs.YtmmniapkajbdhaaDoor
open Go.RowKit
/-- the draws' cells -/
def dcells (L : List (List (BitVec 8))) : List Value := L.flatMap u8s
theorem dcells_snoc (L : List (List (BitVec 8))) (d : List (BitVec 8)) : dcells (L ++ [d]) = dcells L ++ u8s d := by simp [dcells]
theorem dcells_cons (L : List (List (BitVec 8))) (d : List (BitVec 8)) : dcells (d :: L) = u8s d ++ dcells L := by simp [dcells]
theorem dcells_one (L : List (List (BitVec 8))) : ∀ u ∈ dcells L, u.oneCell' = true := by
  intro u hu
  obtain ⟨d, _, hd⟩ := List.mem_flatMap.1 hu
  exact u8s_one d u hd
/-- block g holds a source whose line is L; the line's row lies from B on -/
structure Src (w : World) (B g : Nat) (ba : Option Addr) (cap : Nat) (L : List (List (BitVec 8))) : Prop where
  blk : Blk w g 61 [.slice ba L.length cap]
  own : w.ownsRow B 65 32 (.slice ba L.length cap) L.length (dcells L)
  len : ∀ d ∈ L, d.length = 32
/-- only block g and the row r have turned, and new blocks are there -/
structure Touch (g : Nat) (r : Option Nat) (w w' : World) : Prop where
  os : w'.os = w.os
  tape : w'.tape = w.tape
  output : w'.output = w.output
  size : w.heap.size ≤ w'.heap.size
  block : ∀ k, k < w.heap.size → k ≠ g → r ≠ some k → w'.heap[k]? = w.heap[k]?
theorem Touch.below {g B : Nat} {r : Option Nat} {w w' : World} (h : Touch g r w w') (hB : B ≤ w.heap.size) (hg : B ≤ g) (hr : ∀ k, r = some k → B ≤ k) : Below B w w' :=
  ⟨h.os, h.tape, h.output, h.size, fun k hk => h.block k (by omega) (by omega) (fun e => by have := hr k e; omega)⟩
theorem own_block {ba : Option Addr} {n cap : Nat} : (Value.slice ba n cap).ownBlock = ba.map (·.block) := by cases ba <;> rfl
theorem Src.lt {w : World} {B g : Nat} {ba : Option Addr} {cap : Nat} {L : List (List (BitVec 8))} (h : Src w B g ba cap L) : g < w.heap.size := h.blk.lt
theorem Src.row {w : World} {B g : Nat} {ba : Option Addr} {cap : Nat} {L : List (List (BitVec 8))} (h : Src w B g ba cap L) (k : Nat) (hk : ba.map (·.block) = some k) : B ≤ k ∧ k < w.heap.size ∧ k ≠ g := by
  have ht := h.own.lt k (by rw [own_block]; exact hk)
  refine ⟨ht.1, ht.2, fun e => ?_⟩
  subst e
  rcases h.own.2 with ⟨hv, _⟩ | ⟨g', cap', cur, hv, _, hh, _⟩
  · injection hv with h1; subst h1; cases hk
  · injection hv with h1
    subst h1
    simp at hk
    subst hk
    have hb := h.blk
    unfold Blk at hb
    rw [hh] at hb
    simp at hb
theorem Src.keep {w w' : World} {B g : Nat} {ba : Option Addr} {cap : Nat} {L : List (List (BitVec 8))} (h : Src w B g ba cap L) (hb : ∀ k, k = g ∨ ba.map (·.block) = some k → w'.heap[k]? = w.heap[k]?) : Src w' B g ba cap L := by
  refine ⟨(hb g (.inl rfl)).trans h.blk, ⟨h.own.1, ?_⟩, h.len⟩
  rcases h.own.2 with h0 | ⟨g', cap', cur, hv, hle, hh, r⟩
  · exact .inl h0
  · refine .inr ⟨g', cap', cur, hv, hle, (hb g' (.inr ?_)).trans hh, r⟩
    injection hv with h1
    subst h1
    rfl
theorem Src.below {w w' : World} {B g : Nat} {ba : Option Addr} {cap : Nat} {L : List (List (BitVec 8))} (h : Src w B g ba cap L) (hb : Below w.heap.size w w') : Src w' B g ba cap L :=
  h.keep fun k hk => hb.block k (by
    rcases hk with rfl | hk
    · exact h.lt
    · exact (h.row k hk).2.1)
theorem Src.drew {w : World} {B g : Nat} {ba : Option Addr} {cap : Nat} {L : List (List (BitVec 8))} (h : Src w B g ba cap L) : Src w.drew B g ba cap L := h.keep fun _ _ => rfl
theorem newSource_any (w : World) (B : Nat) :
    Calls Tryd.prog 11 #[] w fun e w' => e = .returned (.pointer (some ⟨w.heap.size, 0, none⟩)) ∧ Src w' B w.heap.size none 0 [] ∧ Below w.heap.size w w' := by
  go_enter Tryd.func11, Tryd.ntmps11
  go_wp2
  go_ret
  exact ⟨rfl, ⟨Blk.new w _ _, World.ownsRow_nil _ _ _ _, fun d hd => by cases hd⟩, (Below.refl _ _).alloc (Nat.le_refl _) _⟩
theorem left_any {w : World} {B g : Nat} {ba : Option Addr} {cap : Nat} {L : List (List (BitVec 8))} (h : Src w B g ba cap L) :
    Calls Tryd.prog 21 #[.pointer (some ⟨g, 0, none⟩)] w fun e w' => e = .returned (.int .i64 (L.length : Int)) ∧ w = w' := by
  have c0 : w.cell? ⟨g, 0, none⟩ = some (.slice ba L.length cap) := h.blk.cell 0
  clear h
  generalize L.length = n at *
  go_enter Tryd.func21, Tryd.ntmps21
  go_wp2
  go_ret
  exact ⟨rfl, rfl⟩
end Go.Proofs.YtmmniapkajbdhaaDoor
