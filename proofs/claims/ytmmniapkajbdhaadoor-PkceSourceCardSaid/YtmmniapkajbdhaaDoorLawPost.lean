/- What every row of this seat asks behind the walk: 'true', and nothing that was there has turned. One parameter. -/
import Derived.Test.YtmmniapkajbdhaaDoorRows
import Derived.WalkKit
import Derived.ProofKit
import Derived.OpenShut
import Derived.Lib.Hide
namespace Go.Proofs.YtmmniapkajbdhaaDoor
open Go.ChangeShapes Go.WideShapes Go.ChangeAt Go.RowKit
theorem laidOutOk : laidOutB Tryd.prog = true := by kernel_rfl
theorem own : ownKnob Tryd.prog.godebug = none := by kernel_rfl
theorem law_post {H : Type} {enc : TypeId × Value → H} {f : Func} {s : ChangeSpec} {T : TypeId} {W W' : World} {args : Array Value} {ds gs : List (DataW H)} {before : List MemPlace}
    (hpar : f.params = #[T]) (hres : f.resultTypes = #[4]) (hvars : s.vars = []) (hr : Tryd.prog.readableRec T = true) (hT : T < Tryd.prog.types.size)
    (hfn : ∀ d, (s.fn H [d]).results = [.lit (.bool true)] ∧ (s.fn H [d]).args = [d] ∧ (s.fn H [d]).vars = [])
    (hW : DataW.Whole enc Tryd.prog f.params.toList s.vars false W args.toList ds gs before) (hb : Below W.heap.size W W') :
    s.post enc Tryd.prog f false true false false W args (.bool true) W' := by
  have hW' := hW
  obtain ⟨p, q, hA, hV, hpq, hfz, hnd⟩ := hW
  rw [hpar] at hA
  rw [hvars] at hV
  obtain ⟨v0, vs0, d0, ds0, p0, q0, hargs, rfl, rfl, h0, r0⟩ := trodAll_cons hA
  obtain ⟨rfl, rfl, rfl⟩ := trodAll_nil r0
  obtain ⟨rfl, rfl⟩ := trodVars_none hV
  obtain ⟨e1, e2, e3⟩ := hfn d0
  refine ⟨[d0], [], before, [], p0 ++ [], [], hW', ?_, ?_, ?_, hb.frame _, fun h => by cases h⟩
  · rw [hres, List.append_nil, e1]
    exact trodAll_cons_mk (shut_bool Tryd.underlying4 _) trodAll_mk0
  · rw [hpar, hargs, List.append_nil, e2]
    exact trodAll_cons_mk (Below.trod laidOutOk hr hT h0 hb (fun x hx => by
      have hlt := hW'.lt x (by rw [hpq]; simp [hx])
      simpa using hlt)) trodAll_mk0
  · rw [hvars, List.append_nil, e3]
    exact rfl
theorem law_post0 {H : Type} {enc : TypeId × Value → H} {f : Func} {s : ChangeSpec} {W W' : World} {args : Array Value} {ds gs : List (DataW H)} {before : List MemPlace}
    (hpar : f.params = #[]) (hres : f.resultTypes = #[4]) (hvars : s.vars = [])
    (hfn : (s.fn H []).results = [.lit (.bool true)] ∧ (s.fn H []).args = [] ∧ (s.fn H []).vars = [])
    (hW : DataW.Whole enc Tryd.prog f.params.toList s.vars false W args.toList ds gs before) (hb : Below W.heap.size W W') :
    s.post enc Tryd.prog f false true false false W args (.bool true) W' := by
  have hW' := hW
  obtain ⟨p, q, hA, hV, hpq, hfz, hnd⟩ := hW
  rw [hpar] at hA
  rw [hvars] at hV
  obtain ⟨hargs, rfl, rfl⟩ := trodAll_nil hA
  obtain ⟨rfl, rfl⟩ := trodVars_none hV
  obtain ⟨e1, e2, e3⟩ := hfn
  refine ⟨[], [], before, [], [], [], hW', ?_, ?_, ?_, hb.frame _, fun h => by cases h⟩
  · rw [hres, List.append_nil, e1]
    exact trodAll_cons_mk (shut_bool Tryd.underlying4 _) trodAll_mk0
  · rw [hpar, hargs, List.append_nil, e2]
    exact trodAll_mk0
  · rw [hvars, List.append_nil, e3]
    exact rfl
theorem lt_of_cell {w : World} {a : Addr} {v : Value} (h : w.cell? a = some v) : a.block < w.heap.size := by
  refine Classical.byContradiction fun hn => ?_
  simp only [World.cell?] at h
  rw [Array.getElem?_eq_none (by omega)] at h
  cases h
theorem cell_below {w w' : World} {a : Addr} {v : Value} (h : w.cell? a = some v) (hb : Below w.heap.size w w') : w'.cell? a = some v :=
  (hb.cell (lt_of_cell h)).trans h
end Go.Proofs.YtmmniapkajbdhaaDoor
