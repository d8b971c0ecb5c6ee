/- P1.6, walked. -/
import Derived.Test.YtkhfelfdgpfjkaaDoorStretch
import Derived.Test.YtkhfelfdgpfjkaaDoorStretchRef
import Derived.Test.YtkhfelfdgpfjkaaDoorStretchBox
namespace Go.Proofs.YtkhfelfdgpfjkaaDoor
open Go.RowKit
set_option maxHeartbeats 1000000 in
theorem sumsStretch_of (a b : ByteArray) (r : Int) (W : World) (G : ByteArray) (V : Value) (q : Int)
    (HM : Hid (∀ w', Below (W.alloc (.cells #[.string a, .string b, .int .i64 r] 55)).heap.size (W.alloc (.cells #[.string a, .string b, .int .i64 r] 55)) w' → Calls Tryd.prog 28 #[.string a, .string b, .int .i64 r] w' fun e w2 => e = .returned (.tuple #[.string G, V]) ∧ Below w'.heap.size w' w2))
    (HR : Hid (∀ w', Below (W.alloc (.cells #[.string a, .string b, .int .i64 r] 55)).heap.size (W.alloc (.cells #[.string a, .string b, .int .i64 r] 55)) w' → Calls Tryd.prog 29 #[.string a, .string b, .int .i64 r] w' fun e w2 => e = .returned (.tuple #[.string G, .int .i64 q]) ∧ Below w'.heap.size w' w2))
    (HN : Hid (∀ w', Below (W.alloc (.cells #[.string a, .string b, .int .i64 r] 55)).heap.size (W.alloc (.cells #[.string a, .string b, .int .i64 r] 55)) w' → Calls Tryd.prog 30 #[V] w' fun e w2 => e = .returned (.int .i64 q) ∧ w' = w2)) :
    Calls Tryd.prog 12 #[.agg #[.string a, .string b, .int .i64 r]] W fun e w' => e = .returned (.bool true) ∧ Below W.heap.size W w' := by
  have b0 : Below (W.alloc (.cells #[.string a, .string b, .int .i64 r] 55)).heap.size (W.alloc (.cells #[.string a, .string b, .int .i64 r] 55)) (W.alloc (.cells #[.string a, .string b, .int .i64 r] 55)) := Below.refl _ _
  obtain ⟨d0, d1, d2⟩ := st_below b0
  go_enter Tryd.func12, Tryd.ntmps12
  go_wp2_with (first
    | (go_at_call 28; (with_reducible refine (HM.out _ b0).mono ?_); rintro e w1 ⟨rfl, hb1⟩; have b1 := b0.trans (hb1.mono b0.size); obtain ⟨x0, x1, x2⟩ := st_below b1)
    | (go_at_call 29; (with_reducible refine (HR.out _ b1).mono ?_); rintro e w2 ⟨rfl, hb2⟩; have b2 := b1.trans (hb2.mono b1.size); have HN2 := Lib.hid (HN.out _ b2))
    | (go_at_call 30; (with_reducible refine HN2.out.mono ?_); rintro e w3 ⟨rfl, rfl⟩))
  go_ret
  exact ⟨by simp, st_fin b2⟩
theorem sumsStretch_walk {E : Nat → Addr} (a b : ByteArray) (r : Int) (W : World) (ha : a.size ≤ reachBytes) (hb : b.size ≤ reachBytes) (hE : Errs W E) (ht : ShaTabs W) :
    Calls Tryd.prog 12 #[.agg #[.string a, .string b, .int .i64 r]] W fun e w' => e = .returned (.bool true) ∧ Below W.heap.size W w' := by
  unfold reachBytes at ha hb
  by_cases hr : r < 1 ∨ 1000 < r
  · exact sumsStretch_of a b r W _ _ 1 (Lib.hid fun w' h => stretch_no a b r w' _ (E 0) (hE.below (st_fin h)).v0 hr) (Lib.hid fun w' _ => refStretch_no a b r w' hr) (Lib.hid fun w' h => num_0 (hE.below (st_fin h)))
  · obtain ⟨n, rfl⟩ : ∃ n : Nat, r = (n : Int) + 1 := ⟨(r - 1).toNat, by omega⟩
    have hn : n < 1000 := by omega
    exact sumsStretch_of a b _ W _ _ 0 (Lib.hid fun w' h => stretch_yes a b n w' (by omega) (by omega) hn (ht.below (st_fin h)).p) (Lib.hid fun w' h => refStretch_yes a b n w' (by omega) (by omega) hn (ht.below (st_fin h))) (Lib.hid fun w' _ => num_nil w')
end Go.Proofs.YtkhfelfdgpfjkaaDoor
