/- The script of P10.7's statement, opened. -/
import Derived.Test.YtmmniapkajbdhaaDoorPkceSourceWalk
import Derived.Test.YtmmniapkajbdhaaDoorSliceFields
namespace Go.Proofs.YtmmniapkajbdhaaDoor
open Go.ChangeShapes Go.WideShapes Go.RowKit
theorem turns_open {H : Type} {enc : TypeId × Value → H} {W : World} {ba : Option Addr} {n cap fuel : Nat} {d : DataW H} {p : List MemPlace}
    (hf : DataW.trod enc Tryd.prog W 0 (fun _ => true) true fuel 27 [.slice ba n cap] = some (d, p)) (hsz : (d.weights Tryd.prog 27).all (· ≤ reachBytes) = true) :
    ∃ (who ask : Nat → Int) (txt : Nat → ByteArray), (∀ i, i < n → Turn W ba i (who i) (ask i) (txt i)) ∧ n ≤ 4398046510976 := by
  rcases Deep.open_slice (enc := enc) Tryd.underlying27 hf with ⟨hcs, _⟩ | _
  · simp only [List.cons.injEq, Value.slice.injEq, and_true] at hcs
    obtain ⟨_, rfl, _⟩ := hcs
    exact ⟨fun _ => 0, fun _ => 0, fun _ => ⟨#[]⟩, fun i hi => by omega, by omega⟩
  · rcases open_slice_fields Tryd.underlying27 Tryd.underlying37 (by kernel_rfl) (by kernel_rfl) hf with ⟨hcs, _⟩ | ⟨a, len, cap', m, D, Pl, hcs, _, hl, hm, hmm, hx, hD⟩
    · simp only [List.cons.injEq, Value.slice.injEq, and_true] at hcs
      obtain ⟨_, rfl, _⟩ := hcs
      exact ⟨fun _ => 0, fun _ => 0, fun _ => ⟨#[]⟩, fun i hi => by omega, by omega⟩
    · simp only [List.cons.injEq, Value.slice.injEq, and_true] at hcs
      obtain ⟨rfl, rfl, rfl⟩ := hcs
      rw [if_pos rfl] at hmm
      subst hmm
      simp only [Prod.mk.injEq] at hx
      obtain ⟨rfl, _⟩ := hx
      rw [List.all_eq_true] at hsz
      simp only [DataW.weights, Tryd.underlying27, List.mem_cons, List.mem_append] at hsz
      have hlen := hsz _ (.inl rfl)
      rw [show Tryd.prog.bytesOf 37 = 32 by kernel_rfl] at hlen
      simp only [List.length_map, List.length_range, decide_eq_true_eq] at hlen
      unfold reachBytes at hlen
      have each : ∀ i, ∃ (who ask : Int) (txt : ByteArray), i < n → Turn W (some a) i who ask txt := by
        intro i
        by_cases hi : i < n
        · obtain ⟨ys, n', hDi, _, hyl, hfld⟩ := hD i (by omega)
          obtain ⟨v0, y0, k0, g0, t0⟩ := hfld 0 _ rfl
          obtain ⟨v1, y1, k1, g1, t1⟩ := hfld 1 _ rfl
          obtain ⟨v2, y2, k2, g2, t2⟩ := hfld 2 _ rfl
          obtain ⟨z0, e0, rfl, w0⟩ := DataW.trod_int Tryd.underlying3 t0
          obtain ⟨z2, e1, rfl, w1⟩ := DataW.trod_int Tryd.underlying3 t1
          obtain ⟨s1, e2, rfl, w2⟩ := DataW.trod_string Tryd.underlying9 t2
          obtain rfl : v0 = _ := by simpa using e0
          obtain rfl : v1 = _ := by simpa using e1
          obtain rfl : v2 = _ := by simpa using e2
          refine ⟨z0, z2, s1, fun _ => ?_⟩
          have hs := hD 0 (by omega)
          obtain ⟨_, _, _, _, _, hf0⟩ := hs
          obtain ⟨_, _, kk, _, _⟩ := hf0 0 _ rfl
          obtain ⟨sb, so, spot⟩ := a
          have hspot : spot = none := by simpa [Addr.add] using World.cell?_spot kk
          subst hspot
          have hadd : ∀ q : Nat, (⟨sb, so, none⟩ : Addr).add q = ⟨sb, so + q, none⟩ := fun q => by unfold Addr.add; split <;> simp_all
          rw [hadd] at k0 k1 k2
          exact ⟨⟨sb, so, rfl, k0, k1, k2⟩, w0⟩
        · exact ⟨0, 0, ⟨#[]⟩, fun h => absurd h hi⟩
      obtain ⟨who, h1⟩ := Classical.skolem.1 each
      obtain ⟨ask, h2⟩ := Classical.skolem.1 h1
      obtain ⟨txt, h3⟩ := Classical.skolem.1 h2
      exact ⟨who, ask, txt, h3, by omega⟩
end Go.Proofs.YtmmniapkajbdhaaDoor
