/- What a row's list of variables gives: a table's cells, a refusal's pointer, wherever on the list it stands; the witness by the function that lays a list. -/
import Derived.Test.YtmmniapkajbdhaaDoorLawPost
import Derived.LaidLaws
import Derived.Lay
import Derived.MakeChecks
import Derived.Stop.LaidErr
import Derived.Lib.LaidTab
import Derived.Deep.DeepHandedRow
namespace Go.Proofs.YtmmniapkajbdhaaDoor
open Go.RowKit Go.ChangeShapes Go.WideShapes
theorem laid_from {P : Program} {l : List (String × DataW Unit)} {w : World} {x : String × DataW Unit} (h : laidMet P l w) (hx : x ∈ l) : ∃ r, laidMet P (x :: r) w := by
  induction l with
  | nil => cases hx
  | cons y r ih =>
    rcases List.mem_cons.1 hx with rfl | hx
    · exact ⟨r, h⟩
    · exact ih h.tail hx
/-- a refusal as a row lists it -/
def errD (text : List UInt8) : DataW Unit := .iface "*errors.errorString" (.ptr (.agg [.lit (.string text)]))
theorem laid_err {P : Program} {n : String} {text : List UInt8} {l : List (String × DataW Unit)} {W : World} {g : Nat} {ti tp te ts : TypeId} {ms : Array (String × TypeId)} {f : Field}
    (h : laidMet P l W) (hm : (n, errD text) ∈ l)
    (hg : P.globalNamed n = some g) (ht : (P.globals[g]?).map (·.type) = some ti) (hi : P.underlying ti = some (.interface ms)) (hrow : ∀ u, P.typeName? 3 u = some "*errors.errorString" → u = tp)
    (hp : P.underlying tp = some (.pointer te)) (he : P.underlying te = some (.struct #[f])) (hft : f.type = ts) (hfo : f.offset = 0) (hs : P.underlying ts = some .string) (hc : P.cellsOf te = 1) (hcs : P.cellsOf ts = 1) :
    ∃ (a : Addr), W.cell? ⟨g, 0, none⟩ = some (.iface tp (.pointer (some a))) ∧ (∃ c t, W.heap[a.block]? = some (.cells c t (0, 0))) ∧ ∃ s : ByteArray, W.cell? a = some (.string s) ∧ s.data.toList = text := by
  obtain ⟨r, h⟩ := laid_from h hm
  obtain ⟨ps, ⟨g0, t0, cs0, f0, p0, q0, hg0, ht0, hv0, hd0, _, e0⟩, _, hrows⟩ := h
  obtain rfl := Option.some.inj (hg.symm.trans hg0)
  obtain rfl := Option.some.inj (ht.symm.trans ht0)
  subst e0
  obtain ⟨l0⟩ := cs0
  have ok0 : ∀ u v, l0 = [.iface u v] → Value.okWide P W .any 0 u v := fun u v e => by
    subst e
    exact (hrows g 0 (by simp [MemPlace.row])).2 u v (by simpa using World.var?_cell hg0 hv0 0)
  obtain ⟨a0, s0, rfl, hc0, hs0, hz0, hp0⟩ := errorString_of_trod hi hrow hp he hft hfo hs hc hcs hd0 ok0
  subst hp0
  exact ⟨a0, by simpa using World.var?_cell hg0 hv0 0, (hrows a0.block a0.off (by simp [MemPlace.row])).1, s0, hc0, hs0⟩
/-- an array of one-cell elements: what its cell reads as -/
theorem laid_cell {P : Program} {n : String} {ds : List (DataW Unit)} {l : List (String × DataW Unit)} {W : World} {g m : Nat} {t e : TypeId}
    (h : laidMet P l W) (hm : (n, .agg ds) ∈ l) (hg : P.globalNamed n = some g) (ht : (P.globals[g]?).map (·.type) = some t) (hu : P.underlying t = some (.array m e)) (hce : P.cellsOf e = 1) (i : Nat) (hi : i < m) :
    ∃ (cs : List Value) (f : Nat) (d : DataW Unit) (p : List MemPlace), ds[i]? = some d ∧ DataW.trod (fun _ => ()) P W 0 (fun _ => true) false f e cs = some (d, p) ∧ ∀ c, cs = [c] → W.cell? ⟨g, i, none⟩ = some c := by
  obtain ⟨r, h⟩ := laid_from h hm
  obtain ⟨ps, ⟨g0, t0, cs0, f0, p0, q0, hg0, ht0, hv0, hd0, _, e0⟩, _, hrows⟩ := h
  obtain rfl := Option.some.inj (hg.symm.trans hg0)
  obtain rfl := Option.some.inj (ht.symm.trans ht0)
  obtain ⟨xs, k, _, hx, hlen, hn, hel⟩ := DataW.trod_array hu hd0
  have hxi := hel i hi
  have hlt : i < xs.length := by omega
  rw [List.getElem?_eq_getElem hlt] at hxi
  simp only [Prod.mk.injEq, DataW.agg.injEq] at hx
  refine ⟨_, k, xs[i].1, xs[i].2, ?_, hxi, ?_⟩
  · rw [hx.1, List.getElem?_map, List.getElem?_eq_getElem hlt]; rfl
  · intro c hc
    rw [hce, Nat.mul_one] at hc
    rw [World.var?_cell hg0 hv0 i]
    have : cs0.toList[i]? = some c := by
      have h2 : (List.take 1 (List.drop i cs0.toList))[0]? = some c := by rw [hc]; rfl
      rw [List.getElem?_take, if_pos (by omega), List.getElem?_drop] at h2
      simpa using h2
    simpa using this
theorem laid_int {P : Program} {n : String} {ds : List (DataW Unit)} {l : List (String × DataW Unit)} {W : World} {g m : Nat} {t e : TypeId} {k : IntKind}
    (h : laidMet P l W) (hm : (n, .agg ds) ∈ l) (hg : P.globalNamed n = some g) (ht : (P.globals[g]?).map (·.type) = some t) (hu : P.underlying t = some (.array m e)) (he : P.underlying e = some (.int k)) (hce : P.cellsOf e = 1) (i : Nat) (hi : i < m) :
    ∃ z, ds[i]? = some (.lit (.int k z)) ∧ W.cell? ⟨g, i, none⟩ = some (.int k z) := by
  obtain ⟨cs, f, d, p, h1, h2, h3⟩ := laid_cell h hm hg ht hu hce i hi
  obtain ⟨z, e1, e2, _⟩ := DataW.trod_int he h2
  simp only [Prod.mk.injEq] at e2
  exact ⟨z, by rw [h1, e2.1], h3 _ e1⟩
theorem laid_string {P : Program} {n : String} {ds : List (DataW Unit)} {l : List (String × DataW Unit)} {W : World} {g m : Nat} {t e : TypeId}
    (h : laidMet P l W) (hm : (n, .agg ds) ∈ l) (hg : P.globalNamed n = some g) (ht : (P.globals[g]?).map (·.type) = some t) (hu : P.underlying t = some (.array m e)) (he : P.underlying e = some .string) (hce : P.cellsOf e = 1) (i : Nat) (hi : i < m) :
    ∃ s : ByteArray, ds[i]? = some (.lit (.string s.data.toList)) ∧ W.cell? ⟨g, i, none⟩ = some (.string s) := by
  obtain ⟨cs, f, d, p, h1, h2, h3⟩ := laid_cell h hm hg ht hu hce i hi
  obtain ⟨s, e1, e2, _⟩ := DataW.trod_string he h2
  simp only [Prod.mk.injEq] at e2
  exact ⟨s, by rw [h1, e2.1], h3 _ e1⟩
/-- the witness of a row at a world whose shape is shown -/
theorem witness_row_shaped {H : Type} {enc : TypeId × Value → H} {C : Checked} {os : Os} {f : FuncId} {fn : Func} {s : OpenSpec} {conds : List PathCond} {apart : Bool} {laid : List (String × DataW Unit)} (modest : Bool) (w0 : World) (args : Array Value) (hos : w0.os = os)
    (hsh : (w0.forCall (fun _ _ => 0) ⟨#[], args, []⟩).Shaped C.prog)
    (hok : Input.okWideB C.prog (w0.forCall (fun _ _ => 0) ⟨#[], args, []⟩) f ⟨#[], args, []⟩ = true)
    (hrow : s.preRow enc C.prog fn conds apart laid (w0.forCall (fun _ _ => 0) ⟨#[], args, []⟩).memory args) :
    ∃ (w : World) (tape : Tape) (i : Input), w.os = os ∧ (w.forCall tape i).Shaped C.prog ∧ i.vars = [] ∧ Input.okWide C.prog (w.forCall tape i) .any w.heap.size f i ∧
      s.preRow enc C.prog fn conds apart laid (w.forCall tape i).memory i.args ∧ ({ modest := modest } : Assume).holds C.prog (lone (Frame.enter C.prog f i.args .normal) [] (w.forCall tape i)) :=
  ⟨w0, fun _ _ => 0, ⟨#[], args, []⟩, hos, hsh, (Input.okWide_of_okWideB (base := 0) hok).1, (Input.okWide_of_okWideB hok).2, hrow, by
    simp only [Assume.holds]
    exact ⟨by simp, by simp, fun _ => Modest.zero, by simp, by simp⟩⟩
end Go.Proofs.YtmmniapkajbdhaaDoor
