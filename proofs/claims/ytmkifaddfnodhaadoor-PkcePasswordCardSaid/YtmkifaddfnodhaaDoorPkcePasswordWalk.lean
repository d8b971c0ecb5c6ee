/- P10.6, walked. -/
import Derived.Test.YtmkifaddfnodhaaDoorPkcePassC
import Derived.Deep.RegionHeld3
namespace Go.Proofs.YtmkifaddfnodhaaDoor
open Go.RowKit
theorem en_below {W w' : World} {a b c : ByteArray} {r : Int} (h : Below (W.alloc (.cells #[.string a, .string b, .string c, .int .i64 r] 39)).heap.size (W.alloc (.cells #[.string a, .string b, .string c, .int .i64 r] 39)) w') :
    w'.cell? ⟨W.heap.size, 0, none⟩ = some (.string a) ∧ w'.cell? ⟨W.heap.size, 1, none⟩ = some (.string b) ∧ w'.cell? ⟨W.heap.size, 2, none⟩ = some (.string c) ∧ w'.cell? ⟨W.heap.size, 3, none⟩ = some (.int .i64 r) :=
  ⟨cell_below ((Blk.new W 39 [.string a, .string b, .string c, .int .i64 r]).cell 0) h, cell_below ((Blk.new W 39 [.string a, .string b, .string c, .int .i64 r]).cell 1) h, cell_below ((Blk.new W 39 [.string a, .string b, .string c, .int .i64 r]).cell 2) h, cell_below ((Blk.new W 39 [.string a, .string b, .string c, .int .i64 r]).cell 3) h⟩
theorem en_fin {W w' : World} {a b c : ByteArray} {r : Int} (h : Below (W.alloc (.cells #[.string a, .string b, .string c, .int .i64 r] 39)).heap.size (W.alloc (.cells #[.string a, .string b, .string c, .int .i64 r] 39)) w') : Below W.heap.size W w' :=
  ((Below.refl _ _).alloc (Nat.le_refl _) _).trans (h.mono (by simp))
set_option maxHeartbeats 1000000 in
theorem pkcePassword_no (a b c : ByteArray) (r : Int) (W : World) (q : Bool) (kS kD : ByteArray)
    (HP : Hid (∀ w', Below (W.alloc (.cells #[.string a, .string b, .string c, .int .i64 r] 39)).heap.size (W.alloc (.cells #[.string a, .string b, .string c, .int .i64 r] 39)) w' → Calls Tryd.prog 20 #[.string a, .agg #[.string b, .string c], .int .i64 r] w' fun e w2 => e = .returned (.bool q) ∧ Below w'.heap.size w' w2))
    (HQ : Hid (∀ w', Below (W.alloc (.cells #[.string a, .string b, .string c, .int .i64 r] 39)).heap.size (W.alloc (.cells #[.string a, .string b, .string c, .int .i64 r] 39)) w' → Calls Tryd.prog 21 #[.string a, .agg #[.string b, .string c], .int .i64 r] w' fun e w2 => e = .returned (.bool q) ∧ Below w'.heap.size w' w2))
    (HR : Hid (∀ w', Below (W.alloc (.cells #[.string a, .string b, .string c, .int .i64 r] 39)).heap.size (W.alloc (.cells #[.string a, .string b, .string c, .int .i64 r] 39)) w' → Calls Tryd.prog 19 #[.string a, .string b, .int .i64 r] w' fun e w2 => e = .returned (.tuple #[.agg #[.string kS, .string kD], .int .i64 1]) ∧ Below w'.heap.size w' w2)) :
    Calls Tryd.prog 6 #[.agg #[.string a, .string b, .string c, .int .i64 r]] W fun e w' => e = .returned (.bool true) ∧ Below W.heap.size W w' := by
  have b0 : Below (W.alloc (.cells #[.string a, .string b, .string c, .int .i64 r] 39)).heap.size (W.alloc (.cells #[.string a, .string b, .string c, .int .i64 r] 39)) (W.alloc (.cells #[.string a, .string b, .string c, .int .i64 r] 39)).drew := (Below.refl _ _).drew
  have c0 := en_below b0
  go_enter Tryd.func6, Tryd.ntmps6
  go_wp2
  go_region_held3 (fun w' => w'.cell? ⟨W.heap.size, 0, none⟩ = some (.string a) ∧ w'.cell? ⟨W.heap.size, 1, none⟩ = some (.string b) ∧ w'.cell? ⟨W.heap.size, 2, none⟩ = some (.string c) ∧ w'.cell? ⟨W.heap.size, 3, none⟩ = some (.int .i64 r)) (first | exact c0 | exact c1 | exact c2)
    (first
      | (go_at_call 20; (with_reducible refine (HP.out _ b0).mono ?_); rintro e w1 ⟨rfl, hb1⟩; have b1 := b0.trans (hb1.mono b0.size); have c1 := en_below b1)
      | (go_at_call 21; (with_reducible refine (HQ.out _ b1).mono ?_); rintro e w2 ⟨rfl, hb2⟩; have b2 := b1.trans (hb2.mono b1.size); have c2 := en_below b2))
  obtain ⟨q0, q1, q2, q3⟩ := c2
  go_wp2_with (go_at_call 19; (with_reducible refine (HR.out _ b2).mono ?_); rintro e w3 ⟨rfl, hb3⟩; have b3 := b2.trans (hb3.mono b2.size); have b3a := b3.alloc b3.size (.cells #[.string kS, .string kD] 32))
  go_ret
  exact ⟨by simp, en_fin b3a⟩
set_option maxHeartbeats 1000000 in
theorem pkcePassword_yes (a b c : ByteArray) (r : Int) (W : World) (q : Bool) (kS kD : ByteArray)
    (HP : Hid (∀ w', Below (W.alloc (.cells #[.string a, .string b, .string c, .int .i64 r] 39)).heap.size (W.alloc (.cells #[.string a, .string b, .string c, .int .i64 r] 39)) w' → Calls Tryd.prog 20 #[.string a, .agg #[.string b, .string c], .int .i64 r] w' fun e w2 => e = .returned (.bool q) ∧ Below w'.heap.size w' w2))
    (HQ : Hid (∀ w', Below (W.alloc (.cells #[.string a, .string b, .string c, .int .i64 r] 39)).heap.size (W.alloc (.cells #[.string a, .string b, .string c, .int .i64 r] 39)) w' → Calls Tryd.prog 21 #[.string a, .agg #[.string b, .string c], .int .i64 r] w' fun e w2 => e = .returned (.bool q) ∧ Below w'.heap.size w' w2))
    (HR : Hid (∀ w', Below (W.alloc (.cells #[.string a, .string b, .string c, .int .i64 r] 39)).heap.size (W.alloc (.cells #[.string a, .string b, .string c, .int .i64 r] 39)) w' → Calls Tryd.prog 19 #[.string a, .string b, .int .i64 r] w' fun e w2 => e = .returned (.tuple #[.agg #[.string kS, .string kD], .int .i64 0]) ∧ Below w'.heap.size w' w2))
    (HB : Hid (∀ w', Below (W.alloc (.cells #[.string a, .string b, .string c, .int .i64 r] 39)).heap.size (W.alloc (.cells #[.string a, .string b, .string c, .int .i64 r] 39)) w' → Calls Tryd.prog 20 #[.string a, .agg #[.string kS, .string kD], .int .i64 r] w' fun e w2 => e = .returned (.bool true) ∧ Below w'.heap.size w' w2)) :
    Calls Tryd.prog 6 #[.agg #[.string a, .string b, .string c, .int .i64 r]] W fun e w' => e = .returned (.bool true) ∧ Below W.heap.size W w' := by
  have b0 : Below (W.alloc (.cells #[.string a, .string b, .string c, .int .i64 r] 39)).heap.size (W.alloc (.cells #[.string a, .string b, .string c, .int .i64 r] 39)) (W.alloc (.cells #[.string a, .string b, .string c, .int .i64 r] 39)).drew := (Below.refl _ _).drew
  have c0 := en_below b0
  go_enter Tryd.func6, Tryd.ntmps6
  go_wp2
  go_region_held3 (fun w' => w'.cell? ⟨W.heap.size, 0, none⟩ = some (.string a) ∧ w'.cell? ⟨W.heap.size, 1, none⟩ = some (.string b) ∧ w'.cell? ⟨W.heap.size, 2, none⟩ = some (.string c) ∧ w'.cell? ⟨W.heap.size, 3, none⟩ = some (.int .i64 r)) (first | exact c0 | exact c1 | exact c2)
    (first
      | (go_at_call 20; (with_reducible refine (HP.out _ b0).mono ?_); rintro e w1 ⟨rfl, hb1⟩; have b1 := b0.trans (hb1.mono b0.size); have c1 := en_below b1)
      | (go_at_call 21; (with_reducible refine (HQ.out _ b1).mono ?_); rintro e w2 ⟨rfl, hb2⟩; have b2 := b1.trans (hb2.mono b1.size); have c2 := en_below b2))
  obtain ⟨q0, q1, q2, q3⟩ := c2
  go_wp2_with (first
    | (go_at_call 19; (with_reducible refine (HR.out _ b2).mono ?_); rintro e w3 ⟨rfl, hb3⟩; have b3 := b2.trans (hb3.mono b2.size); have b3a := b3.alloc b3.size (.cells #[.string kS, .string kD] 32); obtain ⟨x0, x1, x2, x3⟩ := en_below b3a)
    | (go_at_call 20; (with_reducible refine (HB.out _ b3a).mono ?_); rintro e w4 ⟨rfl, hb4⟩; have b4 := b3a.trans (hb4.mono b3a.size)))
  go_ret
  exact ⟨by simp, en_fin b4⟩
theorem pkcePassword_walk {t : TypeId} {E : Addr} (a b c : ByteArray) (r : Int) (W : World) (ha : a.size ≤ reachBytes) (hb : b.size ≤ reachBytes) (hc : c.size ≤ reachBytes) (hE : ErrArg W t E) (ht : ShaTabs W) :
    Calls Tryd.prog 6 #[.agg #[.string a, .string b, .string c, .int .i64 r]] W fun e w' => e = .returned (.bool true) ∧ Below W.heap.size W w' := by
  unfold reachBytes at ha hb hc
  by_cases hr : r < 1 ∨ 1000 < r
  · exact pkcePassword_no a b c r W false _ _ (Lib.hid fun w' h' => password_no a b c r w' t E (hE.below (en_fin h')) hr) (Lib.hid fun w' _ => refPassword_no a b c r w' hr) (Lib.hid fun w' _ => refSeal_no a b r w' (.inr (.inr hr)))
  · obtain ⟨n, rfl⟩ : ∃ n : Nat, r = (n : Int) + 1 := ⟨(r - 1).toNat, by omega⟩
    have hn : n < 1000 := by omega
    by_cases h : b.size = 0 ∨ 64 < b.size
    · exact pkcePassword_no a b c _ W (decide (stre a b n = c)) _ _ (Lib.hid fun w' h' => password_yes a b c n w' (by omega) (by omega) (by unfold maxLen; omega) hn (ht.below (en_fin h')).p) (Lib.hid fun w' h' => refPassword_yes a b c n w' (by omega) (by omega) hn (ht.below (en_fin h'))) (Lib.hid fun w' _ => refSeal_no a b _ w' (by omega))
    · have h0 : b.size ≠ 0 := by omega
      have h1 : b.size ≤ 64 := by omega
      exact pkcePassword_yes a b c _ W (decide (stre a b n = c)) _ _ (Lib.hid fun w' h' => password_yes a b c n w' (by omega) (by omega) (by unfold maxLen; omega) hn (ht.below (en_fin h')).p) (Lib.hid fun w' h' => refPassword_yes a b c n w' (by omega) (by omega) hn (ht.below (en_fin h'))) (Lib.hid fun w' h' => refSeal_yes a b n w' (by omega) h0 h1 hn (ht.below (en_fin h')))
        (Lib.hid fun w' h' => by
          have hh := password_yes a b (stre a b n) n w' (by omega) (by omega) (by rw [stre_size]; unfold maxLen; omega) hn (ht.below (en_fin h')).p
          rw [decide_eq_true rfl] at hh
          exact hh)
end Go.Proofs.YtmkifaddfnodhaaDoor
