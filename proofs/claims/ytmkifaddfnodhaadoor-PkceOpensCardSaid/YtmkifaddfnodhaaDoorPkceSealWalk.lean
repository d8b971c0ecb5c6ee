/- P10.5, walked. -/
import Derived.Test.YtmkifaddfnodhaaDoorPkcePassC
namespace Go.Proofs.YtmkifaddfnodhaaDoor
open Go.RowKit
theorem se_below {W w' : World} {a b c : ByteArray} {r g : Int} (h : Below (W.alloc (.cells #[.string a, .string b, .int .i64 r, .string c, .int .i64 g] 30)).heap.size (W.alloc (.cells #[.string a, .string b, .int .i64 r, .string c, .int .i64 g] 30)) w') :
    w'.cell? ⟨W.heap.size, 0, none⟩ = some (.string a) ∧ w'.cell? ⟨W.heap.size, 1, none⟩ = some (.string b) ∧ w'.cell? ⟨W.heap.size, 2, none⟩ = some (.int .i64 r) ∧ w'.cell? ⟨W.heap.size, 3, none⟩ = some (.string c) :=
  ⟨cell_below ((Blk.new W 30 [.string a, .string b, .int .i64 r, .string c, .int .i64 g]).cell 0) h, cell_below ((Blk.new W 30 [.string a, .string b, .int .i64 r, .string c, .int .i64 g]).cell 1) h, cell_below ((Blk.new W 30 [.string a, .string b, .int .i64 r, .string c, .int .i64 g]).cell 2) h, cell_below ((Blk.new W 30 [.string a, .string b, .int .i64 r, .string c, .int .i64 g]).cell 3) h⟩
theorem se_fin {W w' : World} {a b c : ByteArray} {r g : Int} (h : Below (W.alloc (.cells #[.string a, .string b, .int .i64 r, .string c, .int .i64 g] 30)).heap.size (W.alloc (.cells #[.string a, .string b, .int .i64 r, .string c, .int .i64 g] 30)) w') : Below W.heap.size W w' :=
  ((Below.refl _ _).alloc (Nat.le_refl _) _).trans (h.mono (by simp))
set_option maxHeartbeats 1000000 in
theorem pkceSeal_of (a b o : ByteArray) (r g : Int) (W : World) (kS kD : ByteArray) (V : Value) (q : Int)
    (HM : Hid (∀ w', Below (W.alloc (.cells #[.string a, .string b, .int .i64 r, .string o, .int .i64 g] 30)).heap.size (W.alloc (.cells #[.string a, .string b, .int .i64 r, .string o, .int .i64 g] 30)) w' → Calls Tryd.prog 18 #[.string a, .string b, .int .i64 r] w' fun e w2 => e = .returned (.tuple #[.agg #[.string kS, .string kD], V]) ∧ Below w'.heap.size w' w2))
    (HR : Hid (∀ w', Below (W.alloc (.cells #[.string a, .string b, .int .i64 r, .string o, .int .i64 g] 30)).heap.size (W.alloc (.cells #[.string a, .string b, .int .i64 r, .string o, .int .i64 g] 30)) w' → Calls Tryd.prog 19 #[.string a, .string b, .int .i64 r] w' fun e w2 => e = .returned (.tuple #[.agg #[.string kS, .string kD], .int .i64 q]) ∧ Below w'.heap.size w' w2))
    (HN : Hid (∀ w', Below (W.alloc (.cells #[.string a, .string b, .int .i64 r, .string o, .int .i64 g] 30)).heap.size (W.alloc (.cells #[.string a, .string b, .int .i64 r, .string o, .int .i64 g] 30)) w' → Calls Tryd.prog 15 #[V] w' fun e w2 => e = .returned (.int .i64 q) ∧ w' = w2)) :
    Calls Tryd.prog 5 #[.agg #[.string a, .string b, .int .i64 r, .string o, .int .i64 g]] W fun e w' => e = .returned (.bool true) ∧ Below W.heap.size W w' := by
  have b0 : Below (W.alloc (.cells #[.string a, .string b, .int .i64 r, .string o, .int .i64 g] 30)).heap.size (W.alloc (.cells #[.string a, .string b, .int .i64 r, .string o, .int .i64 g] 30)) (W.alloc (.cells #[.string a, .string b, .int .i64 r, .string o, .int .i64 g] 30)) := Below.refl _ _
  obtain ⟨d0, d1, d2, _⟩ := se_below b0
  go_enter Tryd.func5, Tryd.ntmps5
  go_wp2_with (first
    | (go_at_call 18; (with_reducible refine (HM.out _ b0).mono ?_); rintro e w1 ⟨rfl, hb1⟩; have b1 := b0.trans (hb1.mono b0.size); have b1a := b1.alloc b1.size (.cells #[.string kS, .string kD] 32); obtain ⟨x0, x1, x2, _⟩ := se_below b1a)
    | (go_at_call 19; (with_reducible refine (HR.out _ b1a).mono ?_); rintro e w2 ⟨rfl, hb2⟩; have b2 := b1a.trans (hb2.mono b1a.size); have b2a := b2.alloc b2.size (.cells #[.string kS, .string kD] 32); obtain ⟨k0, k1⟩ := sec_below (hb2.alloc hb2.size (.cells #[.string kS, .string kD] 32)); have HN2 := Lib.hid (HN.out _ b2a))
    | (go_at_call 15; (with_reducible refine HN2.out.mono ?_); rintro e w3 ⟨rfl, rfl⟩))
  go_ret
  exact ⟨by simp, se_fin b2a⟩
theorem pkceSeal_walk {E : Nat → Addr} (a b o : ByteArray) (r g : Int) (W : World) (ha : a.size ≤ reachBytes) (hE : Errs W E) (ht : ShaTabs W) :
    Calls Tryd.prog 5 #[.agg #[.string a, .string b, .int .i64 r, .string o, .int .i64 g]] W fun e w' => e = .returned (.bool true) ∧ Below W.heap.size W w' := by
  unfold reachBytes at ha
  by_cases h : b.size = 0 ∨ 64 < b.size ∨ r < 1 ∨ 1000 < r
  · exact pkceSeal_of a b o r g W _ _ _ 1 (Lib.hid fun w' h' => seal_no a b r w' _ (E 0) (hE.below (se_fin h')).v0 h) (Lib.hid fun w' _ => refSeal_no a b r w' h) (Lib.hid fun w' h' => num_0 (hE.below (se_fin h')))
  · obtain ⟨n, rfl⟩ : ∃ n : Nat, r = (n : Int) + 1 := ⟨(r - 1).toNat, by omega⟩
    have hn : n < 1000 := by omega
    have h0 : b.size ≠ 0 := by omega
    have h1 : b.size ≤ 64 := by omega
    exact pkceSeal_of a b o _ g W _ _ _ 0 (Lib.hid fun w' h' => seal_yes a b n w' (by omega) h0 h1 hn (ht.below (se_fin h')).p) (Lib.hid fun w' h' => refSeal_yes a b n w' (by omega) h0 h1 hn (ht.below (se_fin h'))) (Lib.hid fun w' _ => num_nil w')
end Go.Proofs.YtmkifaddfnodhaaDoor
