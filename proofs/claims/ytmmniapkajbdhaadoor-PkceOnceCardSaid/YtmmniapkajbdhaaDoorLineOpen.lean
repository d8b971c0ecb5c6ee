/- The parameter of P10.9's statement, opened: a struct of two slices of one-cell elements. -/
import Derived.Test.YtmmniapkajbdhaaDoorLawPost
import Derived.Deep.Slices
import Derived.Lib.SmallJoins
namespace Go.Proofs.YtmmniapkajbdhaaDoor
open Go.ChangeShapes Go.WideShapes Go.ChangeAt Go.RowKit
theorem open_ones {H : Type} {enc : TypeId × Value → H} {P : Program} {W : World} {t e : TypeId} {fuel : Nat} {v : Value} {x : DataW H × List MemPlace} (ht : P.underlying t = some (.slice e)) (hC : P.cellsOf e = 1)
    (h : DataW.trod enc P W 0 (fun _ => true) true fuel t [v] = some x) (Q : Value → Prop) (hQ : ∀ n cs y, DataW.trod enc P W 0 (fun _ => true) true n e cs = some y → ∃ u, cs = [u] ∧ Q u) :
    ∃ (ba : Option Addr) (n cap : Nat), v = .slice ba n cap ∧ (∀ R, (x.1.weights P t).all (· ≤ R) = true → n * P.bytesOf e ≤ R) ∧ ∀ i, i < n → ∃ sb so u, ba = some ⟨sb, so, none⟩ ∧ W.cell? ⟨sb, so + i, none⟩ = some u ∧ Q u := by
  rcases Deep.open_slice ht h with ⟨hcs, hx⟩ | ⟨a, len, cap, m, n, D, Pl, hcs, _, hl, _, hmm, hx, hi⟩
  · simp only [List.cons.injEq, and_true] at hcs
    exact ⟨none, 0, 0, hcs, fun R _ => by omega, fun i hi => by omega⟩
  · simp only [List.cons.injEq, and_true] at hcs
    rw [if_pos rfl] at hmm
    subst hmm
    refine ⟨some a, len, m, hcs, fun R hR => ?_, fun i him => ?_⟩
    · subst hx
      rw [List.all_eq_true] at hR
      have := hR ((len + (m - len)) * P.bytesOf e) (by simp [DataW.weights, ht])
      simp only [decide_eq_true_eq] at this
      refine Nat.le_trans (Nat.mul_le_mul_right _ (by omega)) this
    · have cellAt : ∀ j, j < m → ∃ u, W.cell? (a.add j) = some u ∧ Q u := fun j hj => by
        obtain ⟨cs', hc, ht'⟩ := hi j hj
        rw [hC, Nat.mul_one] at hc
        obtain ⟨u, rfl, hq⟩ := hQ _ _ _ ht'
        obtain ⟨_, _, hat⟩ := World.cells?_some hc
        have := hat 0 (by omega)
        rw [Deep.add_add, Nat.add_zero] at this
        exact ⟨u, by simpa using this, hq⟩
      obtain ⟨u0, h0, _⟩ := cellAt 0 (by omega)
      obtain ⟨u, hu, hq⟩ := cellAt i (by omega)
      obtain ⟨sb, so, spot⟩ := a
      have hspot : spot = none := by simpa [Addr.add] using World.cell?_spot h0
      subst hspot
      have hadd : (⟨sb, so, none⟩ : Addr).add i = ⟨sb, so + i, none⟩ := by unfold Addr.add; split <;> simp_all
      rw [hadd] at hu
      exact ⟨sb, so, u, rfl, hu, hq⟩
theorem open_line {H : Type} {enc : TypeId × Value → H} {W : World} {m : Nat} {c0 c1 : Value} {y0 y1 : DataW H × List MemPlace} (h0 : DataW.trod enc Tryd.prog W 0 (fun _ => true) true m 34 [c0] = some y0) (h1 : DataW.trod enc Tryd.prog W 0 (fun _ => true) true m 50 [c1] = some y1)
    (hsz0 : (y0.1.weights Tryd.prog 34).all (· ≤ reachBytes) = true) (hsz1 : (y1.1.weights Tryd.prog 50).all (· ≤ reachBytes) = true) :
    ∃ (dA yA : Option Addr) (dn dcap yn ycap : Nat) (dr : Nat → ByteArray) (ys : Nat → Bool), c0 = .slice dA dn dcap ∧ c1 = .slice yA yn ycap ∧ dn ≤ 140737488351232 ∧ yn ≤ 140737488351232 ∧
      (∀ i, i < dn → ∃ sb so, dA = some ⟨sb, so, none⟩ ∧ W.cell? ⟨sb, so + i, none⟩ = some (.string (dr i))) ∧ (∀ i, i < yn → ∃ sb so, yA = some ⟨sb, so, none⟩ ∧ W.cell? ⟨sb, so + i, none⟩ = some (.bool (ys i))) := by
  obtain ⟨dA, dn, dcap, rfl, hd, hds⟩ := open_ones Tryd.underlying34 (by kernel_rfl) h0 (fun u => ∃ s, u = .string s) (fun n cs y hy => by
    obtain ⟨s, rfl, _⟩ := DataW.trod_string Tryd.underlying9 hy
    exact ⟨_, rfl, s, rfl⟩)
  obtain ⟨yA, yn, ycap, rfl, hy, hys⟩ := open_ones Tryd.underlying50 (by kernel_rfl) h1 (fun u => ∃ s, u = .bool s) (fun n cs y hy => by
    obtain ⟨s, rfl, _⟩ := DataW.trod_bool Tryd.underlying4 hy
    exact ⟨_, rfl, s, rfl⟩)
  have k0 := hd _ hsz0
  have k1 := hy _ hsz1
  rw [show Tryd.prog.bytesOf 9 = 16 by kernel_rfl] at k0
  rw [show Tryd.prog.bytesOf 4 = 1 by kernel_rfl] at k1
  unfold reachBytes at k0 k1
  have e0 : ∀ i, ∃ s : ByteArray, i < dn → ∃ sb so, dA = some ⟨sb, so, none⟩ ∧ W.cell? ⟨sb, so + i, none⟩ = some (.string s) := fun i => by
    by_cases hi : i < dn
    · obtain ⟨sb, so, u, h1, h2, s, rfl⟩ := hds i hi
      exact ⟨s, fun _ => ⟨sb, so, h1, h2⟩⟩
    · exact ⟨⟨#[]⟩, fun h => absurd h hi⟩
  have e1 : ∀ i, ∃ s : Bool, i < yn → ∃ sb so, yA = some ⟨sb, so, none⟩ ∧ W.cell? ⟨sb, so + i, none⟩ = some (.bool s) := fun i => by
    by_cases hi : i < yn
    · obtain ⟨sb, so, u, h1, h2, s, rfl⟩ := hys i hi
      exact ⟨s, fun _ => ⟨sb, so, h1, h2⟩⟩
    · exact ⟨false, fun h => absurd h hi⟩
  obtain ⟨dr, hdr⟩ := Classical.skolem.1 e0
  obtain ⟨ys, hyy⟩ := Classical.skolem.1 e1
  exact ⟨dA, yA, dn, dcap, yn, ycap, dr, ys, rfl, rfl, by omega, by omega, hdr, hyy⟩
end Go.Proofs.YtmmniapkajbdhaaDoor
