/- P10.1, P10.2, P10.4 by the package's own calls, walked. -/
import Derived.Test.YtmkifaddfnodhaaDoorPkceMatchWalk
import Derived.Deep.RegionHeld3
namespace Go.Proofs.YtmkifaddfnodhaaDoor
open Go.RowKit
theorem head42 (c : ByteArray) (w : World) (hc : c.size = 43) : Calls Tryd.prog 26 #[.string c, .int .i64 42] w fun e w' => e = .returned (.string (c.extract 0 42)) ∧ w = w' := by
  have h1 : (42 : Int) < (c.size : Int) := by omega
  have h2 : (42 : Int) ≤ (c.size : Int) := by omega
  have h4 : 42 ≤ c.size := by omega
  have h3 : decide ((c.size : Int) ≤ 42) = false := decide_eq_false (by omega)
  clear hc
  go_enter Tryd.func26, Tryd.ntmps26
  go_wp2
  go_ret
  exact ⟨rfl, rfl⟩
set_option maxHeartbeats 4000000 in
set_option maxRecDepth 100000 in
theorem only_no (a b : ByteArray) (c0 c : ByteArray) (W : World)
    (HV0 : Hid (∀ w', Below (W.alloc (.cells #[.string a, .string b] 43)).heap.size (W.alloc (.cells #[.string a, .string b] 43)) w' → Calls Tryd.prog 25 #[.string { data := #[48, 49, 50, 51, 52, 53, 54, 55, 56, 57, 45, 97, 98, 99, 100, 101, 102, 103, 104, 105, 106, 107, 108, 109, 110, 111, 112, 113, 114, 115, 116, 117, 118, 119, 120, 121, 122, 46, 95, 126, 65, 66, 67] }] w' fun e w2 => e = .returned (.bool true) ∧ Below w'.heap.size w' w2))
    (HS0 : Hid (∀ w', Below (W.alloc (.cells #[.string a, .string b] 43)).heap.size (W.alloc (.cells #[.string a, .string b] 43)) w' → Calls Tryd.prog 16 #[.string { data := #[48, 49, 50, 51, 52, 53, 54, 55, 56, 57, 45, 97, 98, 99, 100, 101, 102, 103, 104, 105, 106, 107, 108, 109, 110, 111, 112, 113, 114, 115, 116, 117, 118, 119, 120, 121, 122, 46, 95, 126, 65, 66, 67] }] w' fun e w2 => e = .returned (.string c0) ∧ Below w'.heap.size w' w2))
    (HM0 : Hid (∀ w', Below (W.alloc (.cells #[.string a, .string b] 43)).heap.size (W.alloc (.cells #[.string a, .string b] 43)) w' → Calls Tryd.prog 22 #[.string { data := #[48, 49, 50, 51, 52, 53, 54, 55, 56, 57, 45, 97, 98, 99, 100, 101, 102, 103, 104, 105, 106, 107, 108, 109, 110, 111, 112, 113, 114, 115, 116, 117, 118, 119, 120, 121, 122, 46, 95, 126, 65, 66, 67] }, .string c0] w' fun e w2 => e = .returned (.bool true) ∧ Below w'.heap.size w' w2))
    (HV : Hid (∀ w', Below (W.alloc (.cells #[.string a, .string b] 43)).heap.size (W.alloc (.cells #[.string a, .string b] 43)) w' → Calls Tryd.prog 25 #[.string a] w' fun e w2 => e = .returned (.bool false) ∧ Below w'.heap.size w' w2))
    (HM : Hid (∀ w', Below (W.alloc (.cells #[.string a, .string b] 43)).heap.size (W.alloc (.cells #[.string a, .string b] 43)) w' → Calls Tryd.prog 22 #[.string a, .string b] w' fun e w2 => e = .returned (.bool false) ∧ Below w'.heap.size w' w2))
    (HS : Hid (∀ w', Below (W.alloc (.cells #[.string a, .string b] 43)).heap.size (W.alloc (.cells #[.string a, .string b] 43)) w' → Calls Tryd.prog 16 #[.string a] w' fun e w2 => e = .returned (.string c) ∧ Below w'.heap.size w' w2))
    (HN : Hid (∀ w', Below (W.alloc (.cells #[.string a, .string b] 43)).heap.size (W.alloc (.cells #[.string a, .string b] 43)) w' → Calls Tryd.prog 22 #[.string a, .string c] w' fun e w2 => e = .returned (.bool false) ∧ Below w'.heap.size w' w2)) :
    Calls Tryd.prog 9 #[.agg #[.string a, .string b]] W fun e w' => e = .returned (.bool true) ∧ Below W.heap.size W w' := by
  have b0 : Below (W.alloc (.cells #[.string a, .string b] 43)).heap.size (W.alloc (.cells #[.string a, .string b] 43)) (W.alloc (.cells #[.string a, .string b] 43)) := Below.refl _ _
  go_enter Tryd.func9, Tryd.ntmps9
  go_wp2_with (first
    | (go_at_call 25; (with_reducible refine (HV0.out _ b0).mono ?_); rintro e w1 ⟨rfl, hw1⟩; have b1 := b0.trans (hw1.mono b0.size))
    | (go_at_call 16; (with_reducible refine (HS0.out _ b1).mono ?_); rintro e w2 ⟨rfl, hw2⟩; have b2 := b1.trans (hw2.mono b1.size))
    | (go_at_call 22; (with_reducible refine (HM0.out _ b2).mono ?_); rintro e w3 ⟨rfl, hw3⟩; have b3 := b2.trans (hw3.mono b2.size); obtain ⟨x0, x1⟩ := tw_below b3)
    | (go_at_call 25; (with_reducible refine (HV.out _ b3).mono ?_); rintro e w4 ⟨rfl, hw4⟩; have b4 := b3.trans (hw4.mono b3.size)))
  clear x0 x1
  have bq := b4.drew
  have cq := tw_below bq
  go_region_held3 (fun w' => w'.cell? ⟨W.heap.size, 0, none⟩ = some (.string a) ∧ w'.cell? ⟨W.heap.size, 1, none⟩ = some (.string b)) (first | exact cq | exact c5 | exact c6 | exact c7)
    (first
      | (go_at_call 22; (with_reducible refine (HM.out _ bq).mono ?_); rintro e w5 ⟨rfl, hw5⟩; have b5 := bq.trans (hw5.mono bq.size); have c5 := tw_below b5)
      | (go_at_call 16; (with_reducible refine (HS.out _ b5).mono ?_); rintro e w6 ⟨rfl, hw6⟩; have b6 := b5.trans (hw6.mono b5.size); have c6 := tw_below b6)
      | (go_at_call 22; (with_reducible refine (HN.out _ b6).mono ?_); rintro e w7 ⟨rfl, hw7⟩; have b7 := b6.trans (hw7.mono b6.size); have c7 := tw_below b7))
  go_wp2
  go_ret
  exact ⟨by simp, tw_fin b7⟩
set_option maxHeartbeats 4000000 in
set_option maxRecDepth 100000 in
theorem only_yes (a b : ByteArray) (c0 c : ByteArray) (m : Bool) (W : World)
    (HV0 : Hid (∀ w', Below (W.alloc (.cells #[.string a, .string b] 43)).heap.size (W.alloc (.cells #[.string a, .string b] 43)) w' → Calls Tryd.prog 25 #[.string { data := #[48, 49, 50, 51, 52, 53, 54, 55, 56, 57, 45, 97, 98, 99, 100, 101, 102, 103, 104, 105, 106, 107, 108, 109, 110, 111, 112, 113, 114, 115, 116, 117, 118, 119, 120, 121, 122, 46, 95, 126, 65, 66, 67] }] w' fun e w2 => e = .returned (.bool true) ∧ Below w'.heap.size w' w2))
    (HS0 : Hid (∀ w', Below (W.alloc (.cells #[.string a, .string b] 43)).heap.size (W.alloc (.cells #[.string a, .string b] 43)) w' → Calls Tryd.prog 16 #[.string { data := #[48, 49, 50, 51, 52, 53, 54, 55, 56, 57, 45, 97, 98, 99, 100, 101, 102, 103, 104, 105, 106, 107, 108, 109, 110, 111, 112, 113, 114, 115, 116, 117, 118, 119, 120, 121, 122, 46, 95, 126, 65, 66, 67] }] w' fun e w2 => e = .returned (.string c0) ∧ Below w'.heap.size w' w2))
    (HM0 : Hid (∀ w', Below (W.alloc (.cells #[.string a, .string b] 43)).heap.size (W.alloc (.cells #[.string a, .string b] 43)) w' → Calls Tryd.prog 22 #[.string { data := #[48, 49, 50, 51, 52, 53, 54, 55, 56, 57, 45, 97, 98, 99, 100, 101, 102, 103, 104, 105, 106, 107, 108, 109, 110, 111, 112, 113, 114, 115, 116, 117, 118, 119, 120, 121, 122, 46, 95, 126, 65, 66, 67] }, .string c0] w' fun e w2 => e = .returned (.bool true) ∧ Below w'.heap.size w' w2))
    (HV : Hid (∀ w', Below (W.alloc (.cells #[.string a, .string b] 43)).heap.size (W.alloc (.cells #[.string a, .string b] 43)) w' → Calls Tryd.prog 25 #[.string a] w' fun e w2 => e = .returned (.bool true) ∧ Below w'.heap.size w' w2))
    (HS : Hid (∀ w', Below (W.alloc (.cells #[.string a, .string b] 43)).heap.size (W.alloc (.cells #[.string a, .string b] 43)) w' → Calls Tryd.prog 16 #[.string a] w' fun e w2 => e = .returned (.string c) ∧ Below w'.heap.size w' w2))
    (HN : Hid (∀ w', Below (W.alloc (.cells #[.string a, .string b] 43)).heap.size (W.alloc (.cells #[.string a, .string b] 43)) w' → Calls Tryd.prog 22 #[.string a, .string c] w' fun e w2 => e = .returned (.bool true) ∧ Below w'.heap.size w' w2))
    (HM : Hid (∀ w', Below (W.alloc (.cells #[.string a, .string b] 43)).heap.size (W.alloc (.cells #[.string a, .string b] 43)) w' → Calls Tryd.prog 22 #[.string a, .string b] w' fun e w2 => e = .returned (.bool m) ∧ Below w'.heap.size w' w2))
    (HA : Hid (∀ w', Below (W.alloc (.cells #[.string a, .string b] 43)).heap.size (W.alloc (.cells #[.string a, .string b] 43)) w' → Calls Tryd.prog 22 #[.string a, .string (c ++ { data := #[65] })] w' fun e w2 => e = .returned (.bool false) ∧ Below w'.heap.size w' w2))
    (HB : Hid (∀ w', Below (W.alloc (.cells #[.string a, .string b] 43)).heap.size (W.alloc (.cells #[.string a, .string b] 43)) w' → Calls Tryd.prog 22 #[.string a, .string (c.extract 0 42)] w' fun e w2 => e = .returned (.bool false) ∧ Below w'.heap.size w' w2))
    (hq : (b.toList == c.toList) = m) (hc : c.size = 43) :
    Calls Tryd.prog 9 #[.agg #[.string a, .string b]] W fun e w' => e = .returned (.bool true) ∧ Below W.heap.size W w' := by
  have b0 : Below (W.alloc (.cells #[.string a, .string b] 43)).heap.size (W.alloc (.cells #[.string a, .string b] 43)) (W.alloc (.cells #[.string a, .string b] 43)) := Below.refl _ _
  have HD := Lib.hid fun w => head42 c w hc
  have hss : ¬ 9223372036854775807 < c.size + 1 := by omega
  clear hc
  go_enter Tryd.func9, Tryd.ntmps9
  go_wp2_with (first
    | (go_at_call 25; (with_reducible refine (HV0.out _ b0).mono ?_); rintro e w1 ⟨rfl, hw1⟩; have b1 := b0.trans (hw1.mono b0.size))
    | (go_at_call 16; (with_reducible refine (HS0.out _ b1).mono ?_); rintro e w2 ⟨rfl, hw2⟩; have b2 := b1.trans (hw2.mono b1.size))
    | (go_at_call 22; (with_reducible refine (HM0.out _ b2).mono ?_); rintro e w3 ⟨rfl, hw3⟩; have b3 := b2.trans (hw3.mono b2.size); obtain ⟨x0, x1⟩ := tw_below b3)
    | (go_at_call 25; (with_reducible refine (HV.out _ b3).mono ?_); rintro e w4 ⟨rfl, hw4⟩; have b4 := b3.trans (hw4.mono b3.size); clear x0 x1; obtain ⟨x0, x1⟩ := tw_below b4)
    | (go_at_call 16; (with_reducible refine (HS.out _ b4).mono ?_); rintro e w5 ⟨rfl, hw5⟩; have b5 := b4.trans (hw5.mono b4.size)))
  clear x0 x1
  have bq := b5.drew
  have cq := tw_below bq
  go_region_held3 (fun w' => w'.cell? ⟨W.heap.size, 0, none⟩ = some (.string a) ∧ w'.cell? ⟨W.heap.size, 1, none⟩ = some (.string b)) (first | exact cq | exact c6 | exact c7 | exact c8 | exact c9)
    (first
      | (go_at_call 22; (with_reducible refine (HN.out _ bq).mono ?_); rintro e w6 ⟨rfl, hw6⟩; have b6 := bq.trans (hw6.mono bq.size); have c6 := tw_below b6)
      | (go_at_call 22; (with_reducible refine (HM.out _ b6).mono ?_); rintro e w7 ⟨rfl, hw7⟩; have b7 := b6.trans (hw7.mono b6.size); have c7 := tw_below b7)
      | (go_at_call 22; (with_reducible refine (HA.out _ b7).mono ?_); rintro e w8 ⟨rfl, hw8⟩; have b8 := b7.trans (hw8.mono b7.size); have c8 := tw_below b8)
      | (go_at_call 26; (with_reducible refine (HD.out _).mono ?_); rintro e w10 ⟨rfl, rfl⟩)
      | (go_at_call 22; (with_reducible refine (HB.out _ b8).mono ?_); rintro e w9 ⟨rfl, hw9⟩; have b9 := b8.trans (hw9.mono b8.size); have c9 := tw_below b9))
  go_wp2
  go_ret
  exact ⟨by simp, tw_fin b9⟩
end Go.Proofs.YtmkifaddfnodhaaDoor
