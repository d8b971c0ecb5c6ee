/- The function that P10.9's statement hands to Fresh, walked. -/
import Derived.Test.YtmmniapkajbdhaaDoorSrcFresh
namespace Go.Proofs.YtmmniapkajbdhaaDoor
open Go.RowKit
theorem blk_ne {w : World} {a b : Nat} {t t' : TypeId} {l l' : List Value} (h : Blk w a t l) (h' : Blk w b t' l') (hne : t ≠ t') : a ≠ b := by
  rintro rfl
  unfold Blk at h h'
  rw [h] at h'
  simp at h'
  exact hne h'.2
theorem src_far {w : World} {B g k : Nat} {ba : Option Addr} {cap : Nat} {L : List (List (BitVec 8))} (h : Src w B g ba cap L) {t : TypeId} {l : List Value} (hk : Blk w k t l) (h1 : t ≠ 61) (h2 : t ≠ 65) (i : Nat) (v : Value) : Src (w.setCell ⟨k, i, none⟩ v) B g ba cap L := by
  refine h.keep fun j hj => Below.heap_setCell w ⟨k, i, none⟩ v j ?_
  rcases hj with rfl | hj
  · exact blk_ne h.blk hk (Ne.symm h1)
  · intro e
    have e' : j = k := e
    subst e'
    rcases h.own.2 with ⟨hv, _⟩ | ⟨g', cap', cur, hv, _, hh, _⟩
    · injection hv with hv; subst hv; cases hj
    · injection hv with hv
      subst hv
      simp at hj
      subst hj
      unfold Blk at hk
      rw [hh] at hk
      simp at hk
      exact h2 hk.2.symm
/-- what the function leaves: it has counted, it has kept the identifier and how many draws are left -/
def askedAt (gA gL gF : Nat) (n : Nat) (id : ByteArray) (f : Nat) (w w' : World) : Prop := w' = ((w.setCell ⟨gA, 0, none⟩ (.int .i64 ((n : Int) + 1))).setCell ⟨gL, 0, none⟩ (.string id)).setCell ⟨gF, 0, none⟩ (.int .i64 (f : Int))
set_option maxHeartbeats 1000000 in
theorem ask_any (id : ByteArray) {w : World} {B g gA gL gS gF gY n : Nat} {ba : Option Addr} {cap : Nat} {L : List (List (BitVec 8))} {s0 : ByteArray} {f0 : Int} {y : Bool} (hS : Src w B g ba cap L)
    (hA : Blk w gA 3 [.int .i64 (n : Int)]) (hl : Blk w gL 9 [.string s0]) (hs : Blk w gS 28 [.pointer (some ⟨g, 0, none⟩)]) (hF : Blk w gF 3 [.int .i64 f0]) (hY : Blk w gY 4 [.bool y]) (hn : n < 2000) :
    Calls Tryd.prog 24 #[.string id, .pointer (some ⟨gA, 0, none⟩), .pointer (some ⟨gL, 0, none⟩), .pointer (some ⟨gS, 0, none⟩), .pointer (some ⟨gF, 0, none⟩), .pointer (some ⟨gY, 0, none⟩)] w fun e w' => e = .returned (.bool y) ∧ askedAt gA gL gF n id L.length w w' := by
  have nAL := blk_ne hA hl (by decide)
  have nAS := blk_ne hA hs (by decide)
  have nAY := blk_ne hA hY (by decide)
  have nLS := blk_ne hl hs (by decide)
  have nLF := blk_ne hl hF (by decide)
  have nLY := blk_ne hl hY (by decide)
  have nFS := blk_ne hF hs (by decide)
  have nFY := blk_ne hF hY (by decide)
  have a0 : w.cell? ⟨gA, 0, none⟩ = some (.int .i64 (n : Int)) := hA.cell 0
  have a1 : w.frozen? ⟨gA, 0, none⟩ = false := hA.frozen 0
  have hl1 := hl.far ⟨gA, 0, none⟩ (.int .i64 ((n : Int) + 1)) (Ne.symm nAL)
  have b0 : (w.setCell ⟨gA, 0, none⟩ (.int .i64 ((n : Int) + 1))).cell? ⟨gL, 0, none⟩ = some (.string s0) := hl1.cell 0
  have b1 : (w.setCell ⟨gA, 0, none⟩ (.int .i64 ((n : Int) + 1))).frozen? ⟨gL, 0, none⟩ = false := hl1.frozen 0
  have hs2 := (hs.far ⟨gA, 0, none⟩ (.int .i64 ((n : Int) + 1)) (Ne.symm nAS)).far ⟨gL, 0, none⟩ (.string id) (Ne.symm nLS)
  have c0 : ((w.setCell ⟨gA, 0, none⟩ (.int .i64 ((n : Int) + 1))).setCell ⟨gL, 0, none⟩ (.string id)).cell? ⟨gS, 0, none⟩ = some (.pointer (some ⟨g, 0, none⟩)) := hs2.cell 0
  have hS2 := src_far (src_far hS hA (by decide) (by decide) 0 (.int .i64 ((n : Int) + 1))) hl1 (by decide) (by decide) 0 (.string id)
  have hF2 : ∃ f1, Blk ((w.setCell ⟨gA, 0, none⟩ (.int .i64 ((n : Int) + 1))).setCell ⟨gL, 0, none⟩ (.string id)) gF 3 [.int .i64 f1] := by
    by_cases h : gF = gA
    · subst h
      exact ⟨_, (hA.set 0 (.int .i64 ((n : Int) + 1))).far ⟨gL, 0, none⟩ (.string id) (Ne.symm nLF)⟩
    · exact ⟨f0, (hF.far ⟨gA, 0, none⟩ (.int .i64 ((n : Int) + 1)) h).far ⟨gL, 0, none⟩ (.string id) (Ne.symm nLF)⟩
  obtain ⟨f1, hF2⟩ := hF2
  have d0 : ((w.setCell ⟨gA, 0, none⟩ (.int .i64 ((n : Int) + 1))).setCell ⟨gL, 0, none⟩ (.string id)).cell? ⟨gF, 0, none⟩ = some (.int .i64 f1) := hF2.cell 0
  have d1 : ((w.setCell ⟨gA, 0, none⟩ (.int .i64 ((n : Int) + 1))).setCell ⟨gL, 0, none⟩ (.string id)).frozen? ⟨gF, 0, none⟩ = false := hF2.frozen 0
  have hY3 := ((hY.far ⟨gA, 0, none⟩ (.int .i64 ((n : Int) + 1)) (Ne.symm nAY)).far ⟨gL, 0, none⟩ (.string id) (Ne.symm nLY)).far ⟨gF, 0, none⟩ (.int .i64 (L.length : Int)) (Ne.symm nFY)
  have e0 : (((w.setCell ⟨gA, 0, none⟩ (.int .i64 ((n : Int) + 1))).setCell ⟨gL, 0, none⟩ (.string id)).setCell ⟨gF, 0, none⟩ (.int .i64 (L.length : Int))).cell? ⟨gY, 0, none⟩ = some (.bool y) := hY3.cell 0
  have HL := Lib.hid (left_any hS2)
  clear hS hA hl hs hF hY hl1 hs2 hS2 hF2 hY3
  unfold askedAt
  generalize L.length = m at *
  go_enter Tryd.func24, Tryd.ntmps24
  go_wp2_with (go_at_call 21; (with_reducible refine HL.out.mono ?_); rintro e w4 ⟨rfl, rfl⟩)
  go_ret
  exact ⟨rfl, rfl⟩
end Go.Proofs.YtmmniapkajbdhaaDoor
