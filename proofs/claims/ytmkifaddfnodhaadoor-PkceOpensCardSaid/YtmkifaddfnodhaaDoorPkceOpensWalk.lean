/- P10.5 and P10.6 by the package's own calls, walked. -/
import Derived.Test.YtmkifaddfnodhaaDoorPkceSealWalk
import Derived.Deep.RegionHeld3
namespace Go.Proofs.YtmkifaddfnodhaaDoor
open Go.RowKit
set_option maxHeartbeats 4000000 in
set_option maxRecDepth 100000 in
theorem opens_no {t : TypeId} {E : Addr} (a b o : ByteArray) (r g : Int) (D0 : ByteArray) (W : World)
    (HS0 : Hid (∀ w', Below (W.alloc (.cells #[.string a, .string b, .int .i64 r, .string o, .int .i64 g] 30)).heap.size (W.alloc (.cells #[.string a, .string b, .int .i64 r, .string o, .int .i64 g] 30)) w' → Calls Tryd.prog 18 #[.string { data := #[112, 97, 115, 115, 119, 111, 114, 100] }, .string { data := #[115, 97, 108, 116] }, .int .i64 1] w' fun e w2 => e = .returned (.tuple #[.agg #[.string { data := #[115, 97, 108, 116] }, .string D0], .nilIface]) ∧ Below w'.heap.size w' w2))
    (HA0 : Hid (∀ w', Below (W.alloc (.cells #[.string a, .string b, .int .i64 r, .string o, .int .i64 g] 30)).heap.size (W.alloc (.cells #[.string a, .string b, .int .i64 r, .string o, .int .i64 g] 30)) w' → Calls Tryd.prog 20 #[.string { data := #[112, 97, 115, 115, 119, 111, 114, 100] }, .agg #[.string { data := #[115, 97, 108, 116] }, .string D0], .int .i64 1] w' fun e w2 => e = .returned (.bool true) ∧ Below w'.heap.size w' w2))
    (HB0 : Hid (∀ w', Below (W.alloc (.cells #[.string a, .string b, .int .i64 r, .string o, .int .i64 g] 30)).heap.size (W.alloc (.cells #[.string a, .string b, .int .i64 r, .string o, .int .i64 g] 30)) w' → Calls Tryd.prog 20 #[.string { data := #[112, 97, 115, 115, 119, 111, 114, 101] }, .agg #[.string { data := #[115, 97, 108, 116] }, .string D0], .int .i64 1] w' fun e w2 => e = .returned (.bool false) ∧ Below w'.heap.size w' w2))
    (HM : Hid (∀ w', Below (W.alloc (.cells #[.string a, .string b, .int .i64 r, .string o, .int .i64 g] 30)).heap.size (W.alloc (.cells #[.string a, .string b, .int .i64 r, .string o, .int .i64 g] 30)) w' → Calls Tryd.prog 18 #[.string a, .string b, .int .i64 r] w' fun e w2 => e = .returned (.tuple #[.agg #[.string { data := #[] }, .string { data := #[] }], .iface t (.pointer (some E))]) ∧ Below w'.heap.size w' w2))
    (h : b.size = 0 ∨ 64 < b.size ∨ r < 1 ∨ 1000 < r) :
    Calls Tryd.prog 7 #[.agg #[.string a, .string b, .int .i64 r, .string o, .int .i64 g]] W fun e w' => e = .returned (.bool true) ∧ Below W.heap.size W w' := by
  have b0 : Below (W.alloc (.cells #[.string a, .string b, .int .i64 r, .string o, .int .i64 g] 30)).heap.size (W.alloc (.cells #[.string a, .string b, .int .i64 r, .string o, .int .i64 g] 30)) (W.alloc (.cells #[.string a, .string b, .int .i64 r, .string o, .int .i64 g] 30)) := Below.refl _ _
  by_cases h0 : b.size = 0
  · obtain rfl := empty_of_size b h0
    clear h h0
    go_enter Tryd.func7, Tryd.ntmps7
    go_wp2_with (first
      | (go_at_call 18; (with_reducible refine (HS0.out _ b0).mono ?_); rintro e w1 ⟨rfl, hw1⟩; have b1 := b0.trans (hw1.mono b0.size); have b1a := b1.alloc b1.size (.cells #[.string { data := #[115, 97, 108, 116] }, .string D0] 32))
      | (go_at_call 20; (with_reducible refine (HA0.out _ b1a).mono ?_); rintro e w2 ⟨rfl, hw2⟩; have b2 := b1a.trans (hw2.mono b1a.size); obtain ⟨k0, k1⟩ := sec_below hw2)
      | (go_at_call 20; (with_reducible refine (HB0.out _ b2).mono ?_); rintro e w3 ⟨rfl, hw3⟩; have b3 := b2.trans (hw3.mono b2.size); clear k0 k1; obtain ⟨x0, x1, x2, _⟩ := se_below b3)
      | (go_at_call 18; (with_reducible refine (HM.out _ b3).mono ?_); rintro e w4 ⟨rfl, hw4⟩; have b4 := b3.trans (hw4.mono b3.size); clear x0 x1 x2; have b4a := b4.alloc b4.size (.cells #[.string { data := #[] }, .string { data := #[] }] 32); obtain ⟨y0, y1, y2, y3⟩ := se_below b4a))
    go_ret
    exact ⟨by simp, se_fin b4a⟩
  · have hl := ne_empty b h0
    by_cases h1 : 64 < b.size
    · have hI : (64 : Int) < (b.size : Int) := by omega
      have dI : decide ((64 : Int) < (b.size : Int)) = true := decide_eq_true hI
      clear h h0 h1
      go_enter Tryd.func7, Tryd.ntmps7
      go_wp2_with (first
        | (go_at_call 18; (with_reducible refine (HS0.out _ b0).mono ?_); rintro e w1 ⟨rfl, hw1⟩; have b1 := b0.trans (hw1.mono b0.size); have b1a := b1.alloc b1.size (.cells #[.string { data := #[115, 97, 108, 116] }, .string D0] 32))
        | (go_at_call 20; (with_reducible refine (HA0.out _ b1a).mono ?_); rintro e w2 ⟨rfl, hw2⟩; have b2 := b1a.trans (hw2.mono b1a.size); obtain ⟨k0, k1⟩ := sec_below hw2)
        | (go_at_call 20; (with_reducible refine (HB0.out _ b2).mono ?_); rintro e w3 ⟨rfl, hw3⟩; have b3 := b2.trans (hw3.mono b2.size); clear k0 k1; obtain ⟨x0, x1, x2, _⟩ := se_below b3)
        | (go_at_call 18; (with_reducible refine (HM.out _ b3).mono ?_); rintro e w4 ⟨rfl, hw4⟩; have b4 := b3.trans (hw4.mono b3.size); clear x0 x1 x2; have b4a := b4.alloc b4.size (.cells #[.string { data := #[] }, .string { data := #[] }] 32); obtain ⟨y0, y1, y2, y3⟩ := se_below b4a))
      go_ret
      exact ⟨by simp, se_fin b4a⟩
    · have hI : ¬ (64 : Int) < (b.size : Int) := by omega
      have dI : decide ((64 : Int) < (b.size : Int)) = false := decide_eq_false hI
      by_cases h2 : r < 1
      · have d2 : decide (r < 1) = true := decide_eq_true h2
        clear h h0 h1
        go_enter Tryd.func7, Tryd.ntmps7
        go_wp2_with (first
          | (go_at_call 18; (with_reducible refine (HS0.out _ b0).mono ?_); rintro e w1 ⟨rfl, hw1⟩; have b1 := b0.trans (hw1.mono b0.size); have b1a := b1.alloc b1.size (.cells #[.string { data := #[115, 97, 108, 116] }, .string D0] 32))
          | (go_at_call 20; (with_reducible refine (HA0.out _ b1a).mono ?_); rintro e w2 ⟨rfl, hw2⟩; have b2 := b1a.trans (hw2.mono b1a.size); obtain ⟨k0, k1⟩ := sec_below hw2)
          | (go_at_call 20; (with_reducible refine (HB0.out _ b2).mono ?_); rintro e w3 ⟨rfl, hw3⟩; have b3 := b2.trans (hw3.mono b2.size); clear k0 k1; obtain ⟨x0, x1, x2, _⟩ := se_below b3)
          | (go_at_call 18; (with_reducible refine (HM.out _ b3).mono ?_); rintro e w4 ⟨rfl, hw4⟩; have b4 := b3.trans (hw4.mono b3.size); clear x0 x1 x2; have b4a := b4.alloc b4.size (.cells #[.string { data := #[] }, .string { data := #[] }] 32); obtain ⟨y0, y1, y2, y3⟩ := se_below b4a))
        go_ret
        exact ⟨by simp, se_fin b4a⟩
      · have h3 : 1000 < r := by omega
        have d2 : decide (r < 1) = false := decide_eq_false h2
        have d3 : decide (1000 < r) = true := decide_eq_true h3
        clear h h0 h1
        go_enter Tryd.func7, Tryd.ntmps7
        go_wp2_with (first
          | (go_at_call 18; (with_reducible refine (HS0.out _ b0).mono ?_); rintro e w1 ⟨rfl, hw1⟩; have b1 := b0.trans (hw1.mono b0.size); have b1a := b1.alloc b1.size (.cells #[.string { data := #[115, 97, 108, 116] }, .string D0] 32))
          | (go_at_call 20; (with_reducible refine (HA0.out _ b1a).mono ?_); rintro e w2 ⟨rfl, hw2⟩; have b2 := b1a.trans (hw2.mono b1a.size); obtain ⟨k0, k1⟩ := sec_below hw2)
          | (go_at_call 20; (with_reducible refine (HB0.out _ b2).mono ?_); rintro e w3 ⟨rfl, hw3⟩; have b3 := b2.trans (hw3.mono b2.size); clear k0 k1; obtain ⟨x0, x1, x2, _⟩ := se_below b3)
          | (go_at_call 18; (with_reducible refine (HM.out _ b3).mono ?_); rintro e w4 ⟨rfl, hw4⟩; have b4 := b3.trans (hw4.mono b3.size); clear x0 x1 x2; have b4a := b4.alloc b4.size (.cells #[.string { data := #[] }, .string { data := #[] }] 32); obtain ⟨y0, y1, y2, y3⟩ := se_below b4a))
        go_ret
        exact ⟨by simp, se_fin b4a⟩
set_option maxHeartbeats 4000000 in
set_option maxRecDepth 100000 in
theorem opens_yes (a b o : ByteArray) (r g : Int) (D0 D D2 : ByteArray) (q : Bool) (W : World)
    (HS0 : Hid (∀ w', Below (W.alloc (.cells #[.string a, .string b, .int .i64 r, .string o, .int .i64 g] 30)).heap.size (W.alloc (.cells #[.string a, .string b, .int .i64 r, .string o, .int .i64 g] 30)) w' → Calls Tryd.prog 18 #[.string { data := #[112, 97, 115, 115, 119, 111, 114, 100] }, .string { data := #[115, 97, 108, 116] }, .int .i64 1] w' fun e w2 => e = .returned (.tuple #[.agg #[.string { data := #[115, 97, 108, 116] }, .string D0], .nilIface]) ∧ Below w'.heap.size w' w2))
    (HA0 : Hid (∀ w', Below (W.alloc (.cells #[.string a, .string b, .int .i64 r, .string o, .int .i64 g] 30)).heap.size (W.alloc (.cells #[.string a, .string b, .int .i64 r, .string o, .int .i64 g] 30)) w' → Calls Tryd.prog 20 #[.string { data := #[112, 97, 115, 115, 119, 111, 114, 100] }, .agg #[.string { data := #[115, 97, 108, 116] }, .string D0], .int .i64 1] w' fun e w2 => e = .returned (.bool true) ∧ Below w'.heap.size w' w2))
    (HB0 : Hid (∀ w', Below (W.alloc (.cells #[.string a, .string b, .int .i64 r, .string o, .int .i64 g] 30)).heap.size (W.alloc (.cells #[.string a, .string b, .int .i64 r, .string o, .int .i64 g] 30)) w' → Calls Tryd.prog 20 #[.string { data := #[112, 97, 115, 115, 119, 111, 114, 101] }, .agg #[.string { data := #[115, 97, 108, 116] }, .string D0], .int .i64 1] w' fun e w2 => e = .returned (.bool false) ∧ Below w'.heap.size w' w2))
    (HM : Hid (∀ w', Below (W.alloc (.cells #[.string a, .string b, .int .i64 r, .string o, .int .i64 g] 30)).heap.size (W.alloc (.cells #[.string a, .string b, .int .i64 r, .string o, .int .i64 g] 30)) w' → Calls Tryd.prog 18 #[.string a, .string b, .int .i64 r] w' fun e w2 => e = .returned (.tuple #[.agg #[.string b, .string D], .nilIface]) ∧ Below w'.heap.size w' w2))
    (HO : Hid (∀ w', Below (W.alloc (.cells #[.string a, .string b, .int .i64 r, .string o, .int .i64 g] 30)).heap.size (W.alloc (.cells #[.string a, .string b, .int .i64 r, .string o, .int .i64 g] 30)) w' → Calls Tryd.prog 18 #[.string o, .string b, .int .i64 r] w' fun e w2 => e = .returned (.tuple #[.agg #[.string b, .string D2], .nilIface]) ∧ Below w'.heap.size w' w2))
    (HP : Hid (∀ w', Below (W.alloc (.cells #[.string a, .string b, .int .i64 r, .string o, .int .i64 g] 30)).heap.size (W.alloc (.cells #[.string a, .string b, .int .i64 r, .string o, .int .i64 g] 30)) w' → Calls Tryd.prog 20 #[.string a, .agg #[.string b, .string D], .int .i64 r] w' fun e w2 => e = .returned (.bool true) ∧ Below w'.heap.size w' w2))
    (HQ : Hid (∀ w', Below (W.alloc (.cells #[.string a, .string b, .int .i64 r, .string o, .int .i64 g] 30)).heap.size (W.alloc (.cells #[.string a, .string b, .int .i64 r, .string o, .int .i64 g] 30)) w' → Calls Tryd.prog 20 #[.string o, .agg #[.string b, .string D], .int .i64 r] w' fun e w2 => e = .returned (.bool q) ∧ Below w'.heap.size w' w2))
    (HV : Hid (∀ w', Below (W.alloc (.cells #[.string a, .string b, .int .i64 r, .string o, .int .i64 g] 30)).heap.size (W.alloc (.cells #[.string a, .string b, .int .i64 r, .string o, .int .i64 g] 30)) w' → Calls Tryd.prog 20 #[.string a, .agg #[.string b, .string (D.extract 0 31)], .int .i64 r] w' fun e w2 => e = .returned (.bool false) ∧ Below w'.heap.size w' w2))
    (HL : Hid (∀ w', Below (W.alloc (.cells #[.string a, .string b, .int .i64 r, .string o, .int .i64 g] 30)).heap.size (W.alloc (.cells #[.string a, .string b, .int .i64 r, .string o, .int .i64 g] 30)) w' → Calls Tryd.prog 20 #[.string a, .agg #[.string b, .string (D ++ { data := #[0] })], .int .i64 r] w' fun e w2 => e = .returned (.bool false) ∧ Below w'.heap.size w' w2))
    (hq : (D2.toList == D.toList) = q) (hD : D.size = 32) :
    Calls Tryd.prog 7 #[.agg #[.string a, .string b, .int .i64 r, .string o, .int .i64 g]] W fun e w' => e = .returned (.bool true) ∧ Below W.heap.size W w' := by
  have b0 : Below (W.alloc (.cells #[.string a, .string b, .int .i64 r, .string o, .int .i64 g] 30)).heap.size (W.alloc (.cells #[.string a, .string b, .int .i64 r, .string o, .int .i64 g] 30)) (W.alloc (.cells #[.string a, .string b, .int .i64 r, .string o, .int .i64 g] 30)) := Below.refl _ _
  have dq : ((D.size : Int) != 32) = false := by rw [hD]; rfl
  have s31 : (31 : Int) ≤ (D.size : Int) := by omega
  have s31n : 31 ≤ D.size := by omega
  have hss : ¬ 9223372036854775807 < D.size + 1 := by omega
  clear hD
  go_enter Tryd.func7, Tryd.ntmps7
  go_wp2_with (first
    | (go_at_call 18; (with_reducible refine (HS0.out _ b0).mono ?_); rintro e w1 ⟨rfl, hw1⟩; have b1 := b0.trans (hw1.mono b0.size); have b1a := b1.alloc b1.size (.cells #[.string { data := #[115, 97, 108, 116] }, .string D0] 32))
    | (go_at_call 20; (with_reducible refine (HA0.out _ b1a).mono ?_); rintro e w2 ⟨rfl, hw2⟩; have b2 := b1a.trans (hw2.mono b1a.size); obtain ⟨k0, k1⟩ := sec_below hw2)
    | (go_at_call 20; (with_reducible refine (HB0.out _ b2).mono ?_); rintro e w3 ⟨rfl, hw3⟩; have b3 := b2.trans (hw3.mono b2.size); clear k0 k1; obtain ⟨x0, x1, x2, _⟩ := se_below b3)
    | (go_at_call 18; (with_reducible refine (HM.out _ b3).mono ?_); rintro e w4 ⟨rfl, hw4⟩; have b4 := b3.trans (hw4.mono b3.size); clear x0 x1 x2; have b4a := b4.alloc b4.size (.cells #[.string b, .string D] 32); obtain ⟨y0, y1, y2, y3⟩ := se_below b4a)
    | (go_at_call 20; (with_reducible refine (HP.out _ b4a).mono ?_); rintro e w5 ⟨rfl, hw5⟩; have b5 := b4a.trans (hw5.mono b4a.size); obtain ⟨z0, z1⟩ := sec_below hw5; clear y0 y1 y2 y3; obtain ⟨y0, y1, y2, y3⟩ := se_below b5)
    | (go_at_call 18; (with_reducible refine (HO.out _ b5).mono ?_); rintro e w6 ⟨rfl, hw6⟩; have b6 := b5.trans (hw6.mono b5.size); have b6a := b6.alloc b6.size (.cells #[.string b, .string D2] 32); have bk6 := (hw5.trans (hw6.mono hw5.size)).alloc (hw5.trans (hw6.mono hw5.size)).size (.cells #[.string b, .string D2] 32)))
  clear y0 y1 y2 y3 z0 z1
  have b6d := b6a.drew
  have bo6 : Below (w6.alloc (.cells #[.string b, .string D2] 32)).heap.size (w6.alloc (.cells #[.string b, .string D2] 32)) (w6.alloc (.cells #[.string b, .string D2] 32)).drew := (Below.refl _ _).drew
  have c0 : (w6.alloc (.cells #[.string b, .string D2] 32)).drew.cell? ⟨W.heap.size, 2, none⟩ = some (.int .i64 r) ∧ (w6.alloc (.cells #[.string b, .string D2] 32)).drew.cell? ⟨W.heap.size, 3, none⟩ = some (.string o) ∧ (w6.alloc (.cells #[.string b, .string D2] 32)).drew.cell? ⟨w4.heap.size, 0, none⟩ = some (.string b) ∧ (w6.alloc (.cells #[.string b, .string D2] 32)).drew.cell? ⟨w4.heap.size, 1, none⟩ = some (.string D) ∧ (w6.alloc (.cells #[.string b, .string D2] 32)).drew.cell? ⟨w6.heap.size, 1, none⟩ = some (.string D2) := ⟨(se_below b6d).2.2.1, (se_below b6d).2.2.2, (sec_below bk6.drew).1, (sec_below bk6.drew).2, (sec_below bo6).2⟩
  go_region_held3 (fun w' => w'.cell? ⟨W.heap.size, 2, none⟩ = some (.int .i64 r) ∧ w'.cell? ⟨W.heap.size, 3, none⟩ = some (.string o) ∧ w'.cell? ⟨w4.heap.size, 0, none⟩ = some (.string b) ∧ w'.cell? ⟨w4.heap.size, 1, none⟩ = some (.string D) ∧ w'.cell? ⟨w6.heap.size, 1, none⟩ = some (.string D2)) (first | exact c0 | exact c1)
    ((go_at_call 20; (with_reducible refine (HQ.out _ b6d).mono ?_); rintro e w7 ⟨rfl, hw7⟩; have b7 := b6d.trans (hw7.mono b6d.size); have bk7 := bk6.drew.trans (hw7.mono bk6.drew.size); have bo7 := bo6.trans (hw7.mono bo6.size); have c1 : w7.cell? ⟨W.heap.size, 2, none⟩ = some (.int .i64 r) ∧ w7.cell? ⟨W.heap.size, 3, none⟩ = some (.string o) ∧ w7.cell? ⟨w4.heap.size, 0, none⟩ = some (.string b) ∧ w7.cell? ⟨w4.heap.size, 1, none⟩ = some (.string D) ∧ w7.cell? ⟨w6.heap.size, 1, none⟩ = some (.string D2) := ⟨(se_below b7).2.2.1, (se_below b7).2.2.2, (sec_below bk7).1, (sec_below bk7).2, (sec_below bo7).2⟩))
  obtain ⟨_, _, e0, e1, _⟩ := c1
  clear c0 hq bo6 bo7 b6d
  obtain ⟨f0, f1⟩ := sec_below (bk7.alloc bk7.size (.cells #[.string { data := #[] }, .string { data := #[] }] 32))
  go_wp2
  go_region
  clear f0 f1
  have b8 := (b7.alloc b7.size (.cells #[.string b, .string (D.extract 0 31)] 32)).drew
  have bk8 := (bk7.alloc bk7.size (.cells #[.string b, .string (D.extract 0 31)] 32)).drew
  have bs8 : Below (w7.alloc (.cells #[.string b, .string (D.extract 0 31)] 32)).heap.size (w7.alloc (.cells #[.string b, .string (D.extract 0 31)] 32)) (w7.alloc (.cells #[.string b, .string (D.extract 0 31)] 32)).drew := (Below.refl _ _).drew
  obtain ⟨f0, f1⟩ := sec_below bk8
  generalize (w7.alloc (.cells #[.string b, .string (D.extract 0 31)] 32)).drew = w8 at *
  have b9 := b8.alloc b8.size (.cells #[.string b, .string (D ++ { data := #[0] })] 32)
  have bs9 := bs8.alloc bs8.size (.cells #[.string b, .string (D ++ { data := #[0] })] 32)
  obtain ⟨v0, v1⟩ := sec_below bs9
  obtain ⟨y0, y1, y2, _⟩ := se_below b9
  go_wp2_with (first
    | (go_at_call 20; (with_reducible refine (HV.out _ b9).mono ?_); rintro e w10 ⟨rfl, hw10⟩; have b10 := b9.trans (hw10.mono b9.size); clear y0 y1 y2 v0 v1; obtain ⟨y0, y1, y2, _⟩ := se_below b10; obtain ⟨v0, v1⟩ := sec_below hw10)
    | (go_at_call 20; (with_reducible refine (HL.out _ b10).mono ?_); rintro e w11 ⟨rfl, hw11⟩; have b11 := b10.trans (hw11.mono b10.size)))
  go_ret
  exact ⟨by simp, se_fin b11⟩
end Go.Proofs.YtmkifaddfnodhaaDoor
