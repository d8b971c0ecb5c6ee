/- One of the reference's 64 steps, walked. -/
import Derived.Test.YtmkifaddfnodhaaDoorPlan
namespace Go.Proofs.YtmkifaddfnodhaaDoor
open Go.RowKit
theorem heap3_mid (w : World) (A B C : Obj) : (((w.alloc A).alloc B).alloc C).heap[w.heap.size + 1]? = some B := by
  rw [Below.heap_alloc ((w.alloc A).alloc B) C _ (by simp)]
  exact heap_alloc2_new w A B
def stv (v : USha.St) : Value := .agg (v.list.map u32v).toArray
set_option maxRecDepth 100000 in
set_option maxHeartbeats 4000000 in
theorem step_any (v : USha.St) (k x : BitVec 32) (w : World) :
    Calls Tryd.prog 46 #[stv v, .int .u32 k.toNat, .int .u32 x.toNat] w fun e w' => e = .returned (stv (USha.rnd v k x)) ∧ Below w.heap.size w w' := by
  obtain ⟨a, b, c, d, e, f, g, h⟩ := v
  show Calls Tryd.prog 46 #[.agg #[.int .u32 a.toNat, .int .u32 b.toNat, .int .u32 c.toNat, .int .u32 d.toNat, .int .u32 e.toNat, .int .u32 f.toNat, .int .u32 g.toNat, .int .u32 h.toNat], .int .u32 k.toNat, .int .u32 x.toNat] w _
  go_enter Tryd.func46, Tryd.ntmps46
  go_wp2_with (first
    | (go_at_call 56; (with_reducible refine (rot_6 e _).mono ?_); rintro e' w' ⟨rfl, rfl⟩)
    | (go_at_call 56; (with_reducible refine (rot_11 e _).mono ?_); rintro e' w' ⟨rfl, rfl⟩)
    | (go_at_call 56; (with_reducible refine (rot_25 e _).mono ?_); rintro e' w' ⟨rfl, rfl⟩)
    | (go_at_call 56; (with_reducible refine (rot_2 a _).mono ?_); rintro e' w' ⟨rfl, rfl⟩)
    | (go_at_call 56; (with_reducible refine (rot_13 a _).mono ?_); rintro e' w' ⟨rfl, rfl⟩)
    | (go_at_call 56; (with_reducible refine (rot_22 a _).mono ?_); rintro e' w' ⟨rfl, rfl⟩))
  refine bodyPost_ret (results_cell_row rfl _ _ (w.heap.size + 1) 75 _ (0, 0) _ rfl (heap3_mid w _ _ _) Tryd.underlying75 rfl (by kernel_rfl)) rfl ⟨?_, ?_⟩
  · show _ = Ending.returned (.agg #[.int .u32 (USha.t1 ⟨a, b, c, d, e, f, g, h⟩ k x + USha.t2 ⟨a, b, c, d, e, f, g, h⟩).toNat, .int .u32 a.toNat, .int .u32 b.toNat, .int .u32 c.toNat, .int .u32 (d + USha.t1 ⟨a, b, c, d, e, f, g, h⟩ k x).toNat, .int .u32 e.toNat, .int .u32 f.toNat, .int .u32 g.toNat])
    simp only [Bv.and32, Bv.xor32, Bv.ofInt_toNat, Bv.mod32, Bv.ofInt_add, Bv.ofInt_ones, BitVec.xor_allOnes, BitVec.add_assoc, USha.t1, USha.t2, USha.S0, USha.S1]
  · exact (((Below.refl _ _).alloc (Nat.le_refl _) _).alloc (by simp) _).alloc (by simp; omega) _
end Go.Proofs.YtmkifaddfnodhaaDoor
