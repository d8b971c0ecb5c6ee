/- The parameter of P10.6, opened: a struct that holds a struct. -/
import Derived.Test.YtmkifaddfnodhaaDoorLawPost
import Derived.Lib.SmallJoins
namespace Go.Proofs.YtmkifaddfnodhaaDoor
open Go.ChangeShapes Go.WideShapes Go.ChangeAt Go.RowKit
theorem open_entry {H : Type} {enc : TypeId × Value → H} {w : World} {base b0 : Nat} {spare : Nat → Bool} {held : Bool} {q : Reach} {v : Value} {d : DataW H} {p : List MemPlace}
    (hv : Value.okWide Tryd.prog w q b0 39 v) (h : DataW.Trod enc Tryd.prog w base spare held 39 v d p) :
    ∃ (a b c : ByteArray) (r : Int), v = .agg #[.string a, .string b, .string c, .int .i64 r] ∧ d = .agg [.lit (.string a.data.toList), .agg [.lit (.string b.data.toList), .lit (.string c.data.toList)], .lit (.int .i64 r)] ∧ p = [] ∧ (Lit.int .i64 r).wf = true := by
  obtain ⟨cs, rfl, hsz⟩ := okWide_struct Tryd.underlying39 hv
  obtain ⟨l⟩ := cs
  match l, hsz.trans (show Tryd.prog.cellsOf 39 = 4 by kernel_rfl) with
  | [c0, c1, c2, c3], _ =>
    obtain ⟨fuel, hf⟩ := h
    obtain ⟨xs, n, _, hx, _, hlen, hg⟩ := DataW.trod_struct Tryd.underlying39 hf
    match xs, hlen with
    | [y0, y1, y2], _ =>
      have k1 : Tryd.prog.cellsOf 9 = 1 := by kernel_rfl
      have k2 : Tryd.prog.cellsOf 3 = 1 := by kernel_rfl
      have k3 : Tryd.prog.cellsOf 32 = 2 := by kernel_rfl
      have g0 : DataW.trod enc Tryd.prog w base spare held n 9 [c0] = some y0 := by simpa [Value.cells, k1] using hg 0 _ rfl
      have g1 : DataW.trod enc Tryd.prog w base spare held n 32 [c1, c2] = some y1 := by simpa [Value.cells, k3] using hg 1 _ rfl
      have g2 : DataW.trod enc Tryd.prog w base spare held n 3 [c3] = some y2 := by simpa [Value.cells, k2] using hg 2 _ rfl
      obtain ⟨a, e0, hy0, _⟩ := DataW.trod_string Tryd.underlying9 g0
      obtain ⟨zs, n', _, hx1, _, hlen1, hh⟩ := DataW.trod_struct Tryd.underlying32 g1
      obtain ⟨r, e2, hy2, hr⟩ := DataW.trod_int Tryd.underlying3 g2
      match zs, hlen1 with
      | [z0, z1], _ =>
        have h0 : DataW.trod enc Tryd.prog w base spare held n' 9 [c1] = some z0 := by simpa [k1] using hh 0 _ rfl
        have h1 : DataW.trod enc Tryd.prog w base spare held n' 9 [c2] = some z1 := by simpa [k1] using hh 1 _ rfl
        obtain ⟨b, f0, hz0, _⟩ := DataW.trod_string Tryd.underlying9 h0
        obtain ⟨c, f1, hz1, _⟩ := DataW.trod_string Tryd.underlying9 h1
        obtain rfl : c0 = _ := by simpa using e0
        obtain rfl : c3 = _ := by simpa using e2
        obtain rfl : c1 = _ := by simpa using f0
        obtain rfl : c2 = _ := by simpa using f1
        subst hz0 hz1
        simp at hx1
        subst hy0 hy2 hx1
        simp only [Prod.mk.injEq] at hx
        exact ⟨a, b, c, r, rfl, by simpa using hx.1, by simpa using hx.2, hr⟩
end Go.Proofs.YtmkifaddfnodhaaDoor
