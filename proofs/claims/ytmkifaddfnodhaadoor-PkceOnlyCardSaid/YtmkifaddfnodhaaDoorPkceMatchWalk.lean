/- P10.4, walked. -/
import Derived.Test.YtmkifaddfnodhaaDoorPkceMatches
import Derived.Deep.RegionHeld3
namespace Go.Proofs.YtmkifaddfnodhaaDoor
open Go.RowKit
theorem tw_below {W w' : World} {a b : ByteArray} (h : Below (W.alloc (.cells #[.string a, .string b] 43)).heap.size (W.alloc (.cells #[.string a, .string b] 43)) w') :
    w'.cell? ⟨W.heap.size, 0, none⟩ = some (.string a) ∧ w'.cell? ⟨W.heap.size, 1, none⟩ = some (.string b) :=
  ⟨cell_below ((Blk.new W 43 [.string a, .string b]).cell 0) h, cell_below ((Blk.new W 43 [.string a, .string b]).cell 1) h⟩
theorem tw_fin {W w' : World} {a b : ByteArray} (h : Below (W.alloc (.cells #[.string a, .string b] 43)).heap.size (W.alloc (.cells #[.string a, .string b] 43)) w') : Below W.heap.size W w' :=
  ((Below.refl _ _).alloc (Nat.le_refl _) _).trans (h.mono (by simp))
set_option maxHeartbeats 2000000 in
theorem pkceMatch_walk (a b : ByteArray) (W : World) (ha : a.size ≤ reachBytes) (hb : b.size ≤ reachBytes) (ht : ShaTabs W) (hp : PkceTab W) :
    Calls Tryd.prog 8 #[.agg #[.string a, .string b]] W fun e w' => e = .returned (.bool true) ∧ Below W.heap.size W w' := by
  have hs2 := ha
  unfold reachBytes at hs2
  have HT := Lib.hid ht
  have HPT := Lib.hid hp
  clear ht hp
  have b0 : Below (W.alloc (.cells #[.string a, .string b] 43)).heap.size (W.alloc (.cells #[.string a, .string b] 43)) (W.alloc (.cells #[.string a, .string b] 43)).drew := (Below.refl _ _).drew
  have HM : Hid (∀ w', Below (W.alloc (.cells #[.string a, .string b] 43)).heap.size (W.alloc (.cells #[.string a, .string b] 43)) w' → Calls Tryd.prog 22 #[.string a, .string b] w' fun e w2 => e = .returned (.bool (matches' a b)) ∧ Below w'.heap.size w' w2) :=
    Lib.hid (fun w' h => match_any a b w' ha hb (HT.out.below (tw_fin h)).p (HPT.out.below' (tw_fin h)))
  have HR : Hid (∀ w', Below (W.alloc (.cells #[.string a, .string b] 43)).heap.size (W.alloc (.cells #[.string a, .string b] 43)) w' → Calls Tryd.prog 23 #[.string a, .string b] w' fun e w2 => e = .returned (.bool (matches' a b)) ∧ Below w'.heap.size w' w2) :=
    Lib.hid (fun w' h => refMatch_any a b w' ha (HT.out.below (tw_fin h)))
  have HS : Hid (∀ w', Below (W.alloc (.cells #[.string a, .string b] 43)).heap.size (W.alloc (.cells #[.string a, .string b] 43)) w' → Calls Tryd.prog 17 #[.string a] w' fun e w2 => e = .returned (.string (chal a)) ∧ Below w'.heap.size w' w2) :=
    Lib.hid (fun w' h => s256_ref a w' (by omega) (HT.out.below (tw_fin h)))
  have HO : Hid (∀ w', Below (W.alloc (.cells #[.string a, .string b] 43)).heap.size (W.alloc (.cells #[.string a, .string b] 43)) w' → Calls Tryd.prog 22 #[.string a, .string (chal a)] w' fun e w2 => e = .returned (.bool (verifies a)) ∧ Below w'.heap.size w' w2) :=
    Lib.hid (fun w' h => by
      have hc := match_any a (chal a) w' ha (by rw [chal_size]; unfold reachBytes; omega) (HT.out.below (tw_fin h)).p (HPT.out.below' (tw_fin h))
      rw [show matches' a (chal a) = verifies a by unfold matches'; rw [decide_eq_true rfl, Bool.and_true]] at hc
      exact hc)
  have HV := Lib.hid (fun w' => ref_verifier a w' (by unfold maxLen; omega))
  generalize matches' a b = q at *
  generalize verifies a = q2 at *
  generalize chal a = c at *
  have c0 := tw_below b0
  go_enter Tryd.func8, Tryd.ntmps8
  go_wp2
  go_region_held3 (fun w' => w'.cell? ⟨W.heap.size, 0, none⟩ = some (.string a) ∧ w'.cell? ⟨W.heap.size, 1, none⟩ = some (.string b)) (first | exact c0 | exact c1 | exact c2)
    (first
      | (go_at_call 22; (with_reducible refine (HM.out _ b0).mono ?_); rintro e w1 ⟨rfl, hb1⟩; have b1 := b0.trans (hb1.mono b0.size); have c1 := tw_below b1)
      | (go_at_call 23; (with_reducible refine (HR.out _ b1).mono ?_); rintro e w2 ⟨rfl, hb2⟩; have b2 := b1.trans (hb2.mono b1.size); have c2 := tw_below b2))
  have bq := b2.drew
  have cq := tw_below bq
  go_wp2
  go_region_held3 (fun w' => w'.cell? ⟨W.heap.size, 0, none⟩ = some (.string a) ∧ w'.cell? ⟨W.heap.size, 1, none⟩ = some (.string b)) (first | exact cq | exact c3 | exact c4)
    (first
      | (go_at_call 17; (with_reducible refine (HS.out _ bq).mono ?_); rintro e w3 ⟨rfl, hb3⟩; have b3 := bq.trans (hb3.mono bq.size); have c3 := tw_below b3)
      | (go_at_call 22; (with_reducible refine (HO.out _ b3).mono ?_); rintro e w4 ⟨rfl, hb4⟩; have b4 := b3.trans (hb4.mono b3.size); have c4 := tw_below b4)
      | (go_at_call 24; (with_reducible refine (HV.out _).mono ?_); rintro e w5 ⟨rfl, rfl⟩))
  go_wp2
  go_ret
  exact ⟨by simp, tw_fin b4⟩
end Go.Proofs.YtmkifaddfnodhaaDoor
