/- What follows of P1.5, walked: which keys give the same Macs. -/
import Derived.Test.YtkhfelfdgpfjkaaDoorSumsMacWalk
namespace Go.Proofs.YtkhfelfdgpfjkaaDoor
open Go.RowKit
theorem hmac_sha (K m : List (BitVec 8)) (h : 64 < K.length) : USha.hmac (USha.sha K) m = USha.hmac K m := by
  have e1 : USha.keyOf K = USha.sha K := by unfold USha.keyOf; rw [if_pos h]
  have e2 : USha.keyOf (USha.sha K) = USha.sha K := by unfold USha.keyOf; rw [USha.sha_len32, if_neg (by omega)]
  unfold USha.hmac
  rw [e1, e2]
theorem hmac_zero (K m : List (BitVec 8)) (h : K.length < 64) : USha.hmac (K ++ [0#8]) m = USha.hmac K m := by
  have e1 : USha.keyOf K = K := by unfold USha.keyOf; rw [if_neg (by omega)]
  have e2 : USha.keyOf (K ++ [0#8]) = K ++ [0#8] := by unfold USha.keyOf; rw [List.length_append, List.length_singleton, if_neg (by omega)]
  have e3 : ∀ c, USha.kpad (K ++ [0#8]) c = USha.kpad K c := fun c => by
    unfold USha.kpad
    rw [List.length_append, List.length_singleton, show 64 - K.length = (64 - (K.length + 1)) + 1 by omega, List.replicate_succ, List.append_assoc]; rfl
  unfold USha.hmac
  rw [e1, e2, e3, e3]
set_option maxHeartbeats 4000000 in
theorem sumsKeys_walk (a b : ByteArray) (W : World) (ha : a.size ≤ reachBytes) (hb : b.size ≤ reachBytes) (ht : PTabs W) :
    Calls Tryd.prog 11 #[.agg #[.string a, .string b]] W fun e w' => e = .returned (.bool true) ∧ Below W.heap.size W w' := by
  unfold reachBytes at ha hb
  have HT := Lib.hid ht
  have b0 : Below (W.alloc (.cells #[.string a, .string b] 50)).heap.size (W.alloc (.cells #[.string a, .string b] 50)) (W.alloc (.cells #[.string a, .string b] 50)) := Below.refl _ _
  have c0 := box_below b0
  clear ht
  have HM : Hid (∀ w', Below (W.alloc (.cells #[.string a, .string b] 50)).heap.size (W.alloc (.cells #[.string a, .string b] 50)) w' → Calls Tryd.prog 25 #[.string a, .string b] w' fun e w2 => e = .returned (.string (strOf (USha.hmac (bytesOf a) (bytesOf b)))) ∧ Below w'.heap.size w' w2) :=
    Lib.hid (fun w' h => mac_any a b w' (by omega) (by omega) (box_ptabs HT.out h))
  have HS0 : Hid (∀ w', Below (W.alloc (.cells #[.string a, .string b] 50)).heap.size (W.alloc (.cells #[.string a, .string b] 50)) w' → Calls Tryd.prog 23 #[.string a] w' fun e w2 => e = .returned (.string (strOf (USha.sha (bytesOf a)))) ∧ Below w'.heap.size w' w2) :=
    Lib.hid (fun w' h => sha_prog a w' (by omega) (box_ptabs HT.out h).pf (box_ptabs HT.out h).pr (box_ptabs HT.out h).lt)
  have r32 : (strOf (USha.hmac (bytesOf a) (bytesOf b))).size = 32 := by rw [strOf_size]; unfold USha.hmac; rw [USha.sha_len32]
  have hq : (((strOf (USha.hmac (bytesOf a) (bytesOf b))).size : Int) == 32) = true := by rw [r32]; rfl
  have hq' : (((strOf (USha.hmac (bytesOf a) (bytesOf b))).size : Int) != 32) = false := by rw [r32]; rfl
  have hcase : 64 < a.size ∨ a.size < 64 ∨ a.size = 64 := by omega
  rcases hcase with hl | hl | hl
  · have hlI : (64 : Int) < (a.size : Int) := by omega
    have HM2 : Hid (∀ w', Below (W.alloc (.cells #[.string a, .string b] 50)).heap.size (W.alloc (.cells #[.string a, .string b] 50)) w' → Calls Tryd.prog 25 #[.string (strOf (USha.sha (bytesOf a))), .string b] w' fun e w2 => e = .returned (.string (strOf (USha.hmac (bytesOf a) (bytesOf b)))) ∧ Below w'.heap.size w' w2) :=
      Lib.hid (fun w' h => by
        have hc := mac_any (strOf (USha.sha (bytesOf a))) b w' (by rw [strOf_size, USha.sha_len32]; omega) (by omega) (box_ptabs HT.out h)
        rw [bytesOf_strOf, hmac_sha _ _ (by rw [bytesOf_length]; exact hl)] at hc
        exact hc)
    generalize strOf (USha.hmac (bytesOf a) (bytesOf b)) = res at *
    generalize strOf (USha.sha (bytesOf a)) = kS at *
    clear r32
    go_enter Tryd.func11, Tryd.ntmps11
    go_wp2_with ((go_at_call 25; (with_reducible refine (HM.out _ b0).mono ?_); rintro e w1 ⟨rfl, hb1⟩; have b1 := b0.trans (hb1.mono b0.size); have c1 := box_below b1))
    have bq := b1.drew
    have cq := box_below bq
    go_region_held3 (fun w' => w'.cell? ⟨W.heap.size, 0, none⟩ = some (.string a) ∧ w'.cell? ⟨W.heap.size, 1, none⟩ = some (.string b)) (first | exact cq | exact c5 | exact c6)
      (first
        | (go_at_call 23; (with_reducible refine (HS0.out _ bq).mono ?_); rintro e w5 ⟨rfl, hb5⟩; have b5 := bq.trans (hb5.mono bq.size); have c5 := box_below b5)
        | (go_at_call 25; (with_reducible refine (HM2.out _ b5).mono ?_); rintro e w6 ⟨rfl, hb6⟩; have b6 := b5.trans (hb6.mono b5.size); have c6 := box_below b6))
    go_wp2
    go_ret
    exact ⟨by simp, box_fin b6⟩
  · have hlI : (a.size : Int) < 64 := by omega
    have hlN : ¬ (64 : Int) < (a.size : Int) := by omega
    have HM2 : Hid (∀ w', Below (W.alloc (.cells #[.string a, .string b] 50)).heap.size (W.alloc (.cells #[.string a, .string b] 50)) w' → Calls Tryd.prog 25 #[.string (a ++ { data := #[0] }), .string b] w' fun e w2 => e = .returned (.string (strOf (USha.hmac (bytesOf a) (bytesOf b)))) ∧ Below w'.heap.size w' w2) :=
      Lib.hid (fun w' h => by
        have hc := mac_any (a ++ { data := #[0] }) b w' (by rw [ByteArray.size_append]; show a.size + 1 ≤ _; omega) (by omega) (box_ptabs HT.out h)
        rw [bytesOf_append, show bytesOf { data := #[0] } = [0#8] from rfl, hmac_zero _ _ (by rw [bytesOf_length]; exact hl)] at hc
        exact hc)
    generalize strOf (USha.hmac (bytesOf a) (bytesOf b)) = res at *
    clear r32
    go_enter Tryd.func11, Tryd.ntmps11
    go_wp2_with (first
      | (go_at_call 25; (with_reducible refine (HM.out _ b0).mono ?_); rintro e w1 ⟨rfl, hb1⟩; have b1 := b0.trans (hb1.mono b0.size); have c1 := box_below b1)
      | (go_at_call 25; (with_reducible refine (HM2.out _ b1).mono ?_); rintro e w2 ⟨rfl, hb2⟩; have b2 := b1.trans (hb2.mono b1.size); have c2 := box_below b2))
    go_ret
    exact ⟨by simp, box_fin b2⟩
  · have hlI : ¬ (a.size : Int) < 64 := by omega
    have hlN : ¬ (64 : Int) < (a.size : Int) := by omega
    generalize strOf (USha.hmac (bytesOf a) (bytesOf b)) = res at *
    clear r32 hl
    go_enter Tryd.func11, Tryd.ntmps11
    go_wp2_with ((go_at_call 25; (with_reducible refine (HM.out _ b0).mono ?_); rintro e w1 ⟨rfl, hb1⟩; have b1 := b0.trans (hb1.mono b0.size); have c1 := box_below b1))
    go_ret
    exact ⟨by simp, box_fin b1⟩
end Go.Proofs.YtkhfelfdgpfjkaaDoor
