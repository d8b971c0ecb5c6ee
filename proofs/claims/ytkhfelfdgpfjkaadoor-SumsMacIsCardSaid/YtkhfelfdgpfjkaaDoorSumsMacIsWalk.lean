/- P1.5 by the package's own digest, walked: RFC 2104's formula. -/
import Derived.Test.YtkhfelfdgpfjkaaDoorSumsMacWalk
namespace Go.Proofs.YtkhfelfdgpfjkaaDoor
open Go.RowKit
set_option maxHeartbeats 4000000 in
theorem sumsMacIs_walk (a b : ByteArray) (W : World) (ha : a.size ≤ reachBytes) (hb : b.size ≤ reachBytes) (ht : PTabs W) :
    Calls Tryd.prog 10 #[.agg #[.string a, .string b]] W fun e w' => e = .returned (.bool true) ∧ Below W.heap.size W w' := by
  unfold reachBytes at ha hb
  have HT := Lib.hid ht
  have b0 : Below (W.alloc (.cells #[.string a, .string b] 50)).heap.size (W.alloc (.cells #[.string a, .string b] 50)) (W.alloc (.cells #[.string a, .string b] 50)) := Below.refl _ _
  have c0 := box_below b0
  clear ht
  by_cases hl : 64 < a.size
  · have hlI : (64 : Int) < (a.size : Int) := by omega
    have HS0 : Hid (∀ w', Below (W.alloc (.cells #[.string a, .string b] 50)).heap.size (W.alloc (.cells #[.string a, .string b] 50)) w' → Calls Tryd.prog 23 #[.string a] w' fun e w2 => e = .returned (.string (strOf (USha.sha (bytesOf a)))) ∧ Below w'.heap.size w' w2) :=
      Lib.hid (fun w' h => sha_prog a w' (by omega) (box_ptabs HT.out h).pf (box_ptabs HT.out h).pr (box_ptabs HT.out h).lt)
    have hks : (strOf (USha.sha (bytesOf a))).size ≤ 64 := by rw [strOf_size, USha.sha_len32]; omega
    have HKEY : Hid (USha.keyOf (bytesOf a) = bytesOf (strOf (USha.sha (bytesOf a)))) := Lib.hid (by rw [bytesOf_strOf]; unfold USha.keyOf; rw [bytesOf_length, if_pos hl])
    generalize strOf (USha.sha (bytesOf a)) = kS at *
    have hkl : (bytesOf kS).length ≤ 64 := by rw [bytesOf_length]; exact hks
    have HP1 : Hid (∀ w', Below (W.alloc (.cells #[.string a, .string b] 50)).heap.size (W.alloc (.cells #[.string a, .string b] 50)) w' → Calls Tryd.prog 27 #[.string kS, .int .u8 54] w' fun e w2 => e = .returned (.string (strOf (USha.kpad (bytesOf kS) 54#8))) ∧ Below w'.heap.size w' w2) :=
      Lib.hid (fun w' h => padded_any kS 54#8 w' hks)
    have HP2 : Hid (∀ w', Below (W.alloc (.cells #[.string a, .string b] 50)).heap.size (W.alloc (.cells #[.string a, .string b] 50)) w' → Calls Tryd.prog 27 #[.string kS, .int .u8 92] w' fun e w2 => e = .returned (.string (strOf (USha.kpad (bytesOf kS) 92#8))) ∧ Below w'.heap.size w' w2) :=
      Lib.hid (fun w' h => padded_any kS 92#8 w' hks)
    have e1 := bytesOf_strOf (USha.kpad (bytesOf kS) 54#8)
    have e2 := bytesOf_strOf (USha.kpad (bytesOf kS) 92#8)
    have s1 : (strOf (USha.kpad (bytesOf kS) 54#8)).size = 64 := by rw [strOf_size, USha.kpad_length _ _ hkl]
    have s2 : (strOf (USha.kpad (bytesOf kS) 92#8)).size = 64 := by rw [strOf_size, USha.kpad_length _ _ hkl]
    have hres : USha.hmac (bytesOf a) (bytesOf b) = USha.sha (bytesOf (strOf (USha.kpad (bytesOf kS) 92#8)) ++ USha.sha (bytesOf (strOf (USha.kpad (bytesOf kS) 54#8)) ++ bytesOf b)) := by
      unfold USha.hmac
      rw [HKEY.out, e1, e2]
    generalize strOf (USha.kpad (bytesOf kS) 54#8) = k1 at *
    generalize strOf (USha.kpad (bytesOf kS) 92#8) = k2 at *
    have HS1 : Hid (∀ w', Below (W.alloc (.cells #[.string a, .string b] 50)).heap.size (W.alloc (.cells #[.string a, .string b] 50)) w' → Calls Tryd.prog 23 #[.string (k1 ++ b)] w' fun e w2 => e = .returned (.string (strOf (USha.sha (bytesOf k1 ++ bytesOf b)))) ∧ Below w'.heap.size w' w2) :=
      Lib.hid (fun w' h => by
        have hc := sha_prog (k1 ++ b) w' (by rw [ByteArray.size_append]; omega) (box_ptabs HT.out h).pf (box_ptabs HT.out h).pr (box_ptabs HT.out h).lt
        rw [bytesOf_append] at hc
        exact hc)
    have d1 := bytesOf_strOf (USha.sha (bytesOf k1 ++ bytesOf b))
    have d2 : (strOf (USha.sha (bytesOf k1 ++ bytesOf b))).size = 32 := by rw [strOf_size, USha.sha_len32]
    rw [← d1] at hres
    generalize strOf (USha.sha (bytesOf k1 ++ bytesOf b)) = dd at *
    have HS2 : Hid (∀ w', Below (W.alloc (.cells #[.string a, .string b] 50)).heap.size (W.alloc (.cells #[.string a, .string b] 50)) w' → Calls Tryd.prog 23 #[.string (k2 ++ dd)] w' fun e w2 => e = .returned (.string (strOf (USha.hmac (bytesOf a) (bytesOf b)))) ∧ Below w'.heap.size w' w2) :=
      Lib.hid (fun w' h => by
        have hc := sha_prog (k2 ++ dd) w' (by rw [ByteArray.size_append]; omega) (box_ptabs HT.out h).pf (box_ptabs HT.out h).pr (box_ptabs HT.out h).lt
        rw [bytesOf_append, ← hres] at hc
        exact hc)
    have HM : Hid (∀ w', Below (W.alloc (.cells #[.string a, .string b] 50)).heap.size (W.alloc (.cells #[.string a, .string b] 50)) w' → Calls Tryd.prog 25 #[.string a, .string b] w' fun e w2 => e = .returned (.string (strOf (USha.hmac (bytesOf a) (bytesOf b)))) ∧ Below w'.heap.size w' w2) :=
      Lib.hid (fun w' h => mac_any a b w' (by omega) (by omega) (box_ptabs HT.out h))
    have r32 : (strOf (USha.hmac (bytesOf a) (bytesOf b))).size = 32 := by rw [strOf_size]; unfold USha.hmac; rw [USha.sha_len32]
    have hq : (((strOf (USha.hmac (bytesOf a) (bytesOf b))).size : Int) == 32) = true := by rw [r32]; rfl
    have z1 : k1.size + b.size ≤ 140737488355392 := by omega
    have z2 : k2.size + dd.size ≤ 96 := by omega
    have z3 : ¬ 9223372036854775807 < k1.size + b.size := by omega
    have z4 : decide (9223372036854775807 < k1.size + b.size) = false := by rw [decide_eq_false_iff_not]; omega
    have hksI : ¬ (64 : Int) < (kS.size : Int) := by omega
    generalize strOf (USha.hmac (bytesOf a) (bytesOf b)) = res at *
    clear hkl s1 s2 d1 d2 hres e1 e2 r32 HKEY
    go_enter Tryd.func10, Tryd.ntmps10
    go_wp2_with ((go_at_call 23; (with_reducible refine (HS0.out _ b0).mono ?_); rintro e w1 ⟨rfl, hb1⟩; have b1 := b0.trans (hb1.mono b0.size); have c1 := box_below b1))
    have bq := b1.drew
    have cq := box_below bq
    go_region_held3 (fun w' => w'.cell? ⟨W.heap.size, 0, none⟩ = some (.string a) ∧ w'.cell? ⟨W.heap.size, 1, none⟩ = some (.string b)) (first | exact cq | exact c5 | exact c6)
      (first
        | (go_at_call 27; (with_reducible refine (HP1.out _ bq).mono ?_); rintro e w5 ⟨rfl, hb5⟩; have b5 := bq.trans (hb5.mono bq.size); have c5 := box_below b5)
        | (go_at_call 23; (with_reducible refine (HS1.out _ b5).mono ?_); rintro e w6 ⟨rfl, hb6⟩; have b6 := b5.trans (hb6.mono b5.size); have c6 := box_below b6))
    go_wp2_with (first
      | (go_at_call 27; (with_reducible refine (HP2.out _ b6).mono ?_); rintro e w7 ⟨rfl, hb7⟩; have b7 := b6.trans (hb7.mono b6.size); have c7 := box_below b7)
      | (go_at_call 23; (with_reducible refine (HS2.out _ b7).mono ?_); rintro e w8 ⟨rfl, hb8⟩; have b8 := b7.trans (hb8.mono b7.size); have c8 := box_below b8)
      | (go_at_call 25; (with_reducible refine (HM.out _ b8).mono ?_); rintro e w9 ⟨rfl, hb9⟩; have b9 := b8.trans (hb9.mono b8.size); have c9 := box_below b9))
    go_ret
    exact ⟨by simp, box_fin b9⟩
  · have hks : a.size ≤ 64 := by omega
    have HKEY : Hid (USha.keyOf (bytesOf a) = bytesOf a) := Lib.hid (by unfold USha.keyOf; rw [bytesOf_length, if_neg hl])
    have hkl : (bytesOf a).length ≤ 64 := by rw [bytesOf_length]; exact hks
    have HP1 : Hid (∀ w', Below (W.alloc (.cells #[.string a, .string b] 50)).heap.size (W.alloc (.cells #[.string a, .string b] 50)) w' → Calls Tryd.prog 27 #[.string a, .int .u8 54] w' fun e w2 => e = .returned (.string (strOf (USha.kpad (bytesOf a) 54#8))) ∧ Below w'.heap.size w' w2) :=
      Lib.hid (fun w' h => padded_any a 54#8 w' hks)
    have HP2 : Hid (∀ w', Below (W.alloc (.cells #[.string a, .string b] 50)).heap.size (W.alloc (.cells #[.string a, .string b] 50)) w' → Calls Tryd.prog 27 #[.string a, .int .u8 92] w' fun e w2 => e = .returned (.string (strOf (USha.kpad (bytesOf a) 92#8))) ∧ Below w'.heap.size w' w2) :=
      Lib.hid (fun w' h => padded_any a 92#8 w' hks)
    have e1 := bytesOf_strOf (USha.kpad (bytesOf a) 54#8)
    have e2 := bytesOf_strOf (USha.kpad (bytesOf a) 92#8)
    have s1 : (strOf (USha.kpad (bytesOf a) 54#8)).size = 64 := by rw [strOf_size, USha.kpad_length _ _ hkl]
    have s2 : (strOf (USha.kpad (bytesOf a) 92#8)).size = 64 := by rw [strOf_size, USha.kpad_length _ _ hkl]
    have hres : USha.hmac (bytesOf a) (bytesOf b) = USha.sha (bytesOf (strOf (USha.kpad (bytesOf a) 92#8)) ++ USha.sha (bytesOf (strOf (USha.kpad (bytesOf a) 54#8)) ++ bytesOf b)) := by
      unfold USha.hmac
      rw [HKEY.out, e1, e2]
    generalize strOf (USha.kpad (bytesOf a) 54#8) = k1 at *
    generalize strOf (USha.kpad (bytesOf a) 92#8) = k2 at *
    have HS1 : Hid (∀ w', Below (W.alloc (.cells #[.string a, .string b] 50)).heap.size (W.alloc (.cells #[.string a, .string b] 50)) w' → Calls Tryd.prog 23 #[.string (k1 ++ b)] w' fun e w2 => e = .returned (.string (strOf (USha.sha (bytesOf k1 ++ bytesOf b)))) ∧ Below w'.heap.size w' w2) :=
      Lib.hid (fun w' h => by
        have hc := sha_prog (k1 ++ b) w' (by rw [ByteArray.size_append]; omega) (box_ptabs HT.out h).pf (box_ptabs HT.out h).pr (box_ptabs HT.out h).lt
        rw [bytesOf_append] at hc
        exact hc)
    have d1 := bytesOf_strOf (USha.sha (bytesOf k1 ++ bytesOf b))
    have d2 : (strOf (USha.sha (bytesOf k1 ++ bytesOf b))).size = 32 := by rw [strOf_size, USha.sha_len32]
    rw [← d1] at hres
    generalize strOf (USha.sha (bytesOf k1 ++ bytesOf b)) = dd at *
    have HS2 : Hid (∀ w', Below (W.alloc (.cells #[.string a, .string b] 50)).heap.size (W.alloc (.cells #[.string a, .string b] 50)) w' → Calls Tryd.prog 23 #[.string (k2 ++ dd)] w' fun e w2 => e = .returned (.string (strOf (USha.hmac (bytesOf a) (bytesOf b)))) ∧ Below w'.heap.size w' w2) :=
      Lib.hid (fun w' h => by
        have hc := sha_prog (k2 ++ dd) w' (by rw [ByteArray.size_append]; omega) (box_ptabs HT.out h).pf (box_ptabs HT.out h).pr (box_ptabs HT.out h).lt
        rw [bytesOf_append, ← hres] at hc
        exact hc)
    have HM : Hid (∀ w', Below (W.alloc (.cells #[.string a, .string b] 50)).heap.size (W.alloc (.cells #[.string a, .string b] 50)) w' → Calls Tryd.prog 25 #[.string a, .string b] w' fun e w2 => e = .returned (.string (strOf (USha.hmac (bytesOf a) (bytesOf b)))) ∧ Below w'.heap.size w' w2) :=
      Lib.hid (fun w' h => mac_any a b w' (by omega) (by omega) (box_ptabs HT.out h))
    have r32 : (strOf (USha.hmac (bytesOf a) (bytesOf b))).size = 32 := by rw [strOf_size]; unfold USha.hmac; rw [USha.sha_len32]
    have hq : (((strOf (USha.hmac (bytesOf a) (bytesOf b))).size : Int) == 32) = true := by rw [r32]; rfl
    have z1 : k1.size + b.size ≤ 140737488355392 := by omega
    have z2 : k2.size + dd.size ≤ 96 := by omega
    have z3 : ¬ 9223372036854775807 < k1.size + b.size := by omega
    have z4 : decide (9223372036854775807 < k1.size + b.size) = false := by rw [decide_eq_false_iff_not]; omega
    have hksI : ¬ (64 : Int) < (a.size : Int) := by omega
    generalize strOf (USha.hmac (bytesOf a) (bytesOf b)) = res at *
    clear hkl s1 s2 d1 d2 hres e1 e2 r32 HKEY
    go_enter Tryd.func10, Tryd.ntmps10
    go_wp2
    have bq := b0.drew
    have cq := box_below bq
    go_region_held3 (fun w' => w'.cell? ⟨W.heap.size, 0, none⟩ = some (.string a) ∧ w'.cell? ⟨W.heap.size, 1, none⟩ = some (.string b)) (first | exact cq | exact c5 | exact c6)
      (first
        | (go_at_call 27; (with_reducible refine (HP1.out _ bq).mono ?_); rintro e w5 ⟨rfl, hb5⟩; have b5 := bq.trans (hb5.mono bq.size); have c5 := box_below b5)
        | (go_at_call 23; (with_reducible refine (HS1.out _ b5).mono ?_); rintro e w6 ⟨rfl, hb6⟩; have b6 := b5.trans (hb6.mono b5.size); have c6 := box_below b6))
    go_wp2_with (first
      | (go_at_call 27; (with_reducible refine (HP2.out _ b6).mono ?_); rintro e w7 ⟨rfl, hb7⟩; have b7 := b6.trans (hb7.mono b6.size); have c7 := box_below b7)
      | (go_at_call 23; (with_reducible refine (HS2.out _ b7).mono ?_); rintro e w8 ⟨rfl, hb8⟩; have b8 := b7.trans (hb8.mono b7.size); have c8 := box_below b8)
      | (go_at_call 25; (with_reducible refine (HM.out _ b8).mono ?_); rintro e w9 ⟨rfl, hb9⟩; have b9 := b8.trans (hb9.mono b8.size); have c9 := box_below b9))
    go_ret
    exact ⟨by simp, box_fin b9⟩
end Go.Proofs.YtkhfelfdgpfjkaaDoor
