/- P1.4: three digests beside one another, walked. -/
import Derived.Test.YtkhfelfdgpfjkaaDoorSumsHashC
import Derived.Deep.Cut
import Derived.BigQuiet
import Derived.StillTailTactics
import Derived.Deep.RegionHeld3
namespace Go.Proofs.YtkhfelfdgpfjkaaDoor
open Go.RowKit
/-- three digests and their three texts -/
structure Trio (w : World) (g0 g1 g2 ga : Nat) (a0 a1 a2 : ByteArray) : Prop where
  d0 : Dig w g0 a0
  d1 : Dig w g1 a1
  d2 : Dig w g2 a2
  ar : Blk w ga 42 [.string a0, .string a1, .string a2]
theorem Trio.below {w w' : World} {g0 g1 g2 ga : Nat} {a0 a1 a2 : ByteArray} (h : Trio w g0 g1 g2 ga a0 a1 a2) (hb : Below w.heap.size w w') : Trio w' g0 g1 g2 ga a0 a1 a2 := ⟨h.d0.below hb, h.d1.below hb, h.d2.below hb, h.ar.below hb h.ar.lt⟩
theorem Trio.drew {w : World} {g0 g1 g2 ga : Nat} {a0 a1 a2 : ByteArray} (h : Trio w g0 g1 g2 ga a0 a1 a2) : Trio w.drew g0 g1 g2 ga a0 a1 a2 := h.below (Below.refl _ _).drew
/-- what stands in the script at place i -/
structure Piece (w : World) (ba : Option Addr) (i : Nat) (who : Int) (t : ByteArray) (ask : Int) : Prop where
  ex : ∃ sb so, ba = some ⟨sb, so, none⟩ ∧ w.cell? ⟨sb, so + i * 3, none⟩ = some (.int .i64 who) ∧ w.cell? ⟨sb, so + i * 3 + 1, none⟩ = some (.string t) ∧ w.cell? ⟨sb, so + i * 3 + 2, none⟩ = some (.int .i64 ask)
  who : (Lit.int .i64 who).wf = true
  ask : (Lit.int .i64 ask).wf = true
  small : t.size ≤ 140737488351232
set_option maxHeartbeats 8000000 in
set_option maxRecDepth 100000 in
theorem sumsHash_walk (ba : Option Addr) (n cap : Nat) (W : World) (hn : n ≤ 140737488351232) (who ask : Nat → Int) (txt : Nat → ByteArray) (hsc : ∀ i, i < n → Piece W ba i (who i) (txt i) (ask i)) (ht : ShaTabs W) :
    Calls Tryd.prog 7 #[.slice ba n cap] W fun e w' => e = .returned (.bool true) ∧ Below W.heap.size W w' := by
  have HSC := Lib.hid hsc
  have HT := Lib.hid ht
  have hlt := ht.lt
  have HF : Hid (∀ w', Below W.heap.size W w' → Calls Tryd.prog 20 #[] w' fun e w2 => e = .returned (.pointer (some ⟨w'.heap.size, 0, none⟩)) ∧ Dig w2 w'.heap.size { data := #[] } ∧ Below w'.heap.size w' w2) := Lib.hid fun w' h' => dig_new w' (HT.out.below h').p
  have r0 := Below.refl W.heap.size W
  clear hsc ht
  go_enter Tryd.func7, Tryd.ntmps7
  go_wp2_with fail
  go_at_call 20
  (with_reducible refine (HF.out _ r0).mono ?_); rintro e w1 ⟨rfl, hD0, hb1⟩
  have b1 := hb1
  have l01 := hD0.lt
  have HD0 := Lib.hid hD0
  clear hD0
  go_wp2_with fail
  go_at_call 20
  (with_reducible refine (HF.out _ b1).mono ?_); rintro e w2 ⟨rfl, hD1, hb2⟩
  have b2 := b1.trans (hb2.mono b1.size)
  have l12 := hD1.lt
  have HD1 := Lib.hid hD1
  clear hD1
  go_wp2_with fail
  go_at_call 20
  (with_reducible refine (HF.out _ b2).mono ?_); rintro e w3 ⟨rfl, hD2, hb3⟩
  have b3 := b2.trans (hb3.mono b2.size)
  have l23 := hD2.lt
  have b4 := b3.alloc b3.size (.cells #[.string { data := #[] }, .string { data := #[] }, .string { data := #[] }] 42)
  have TR : Hid (Trio (w3.alloc (.cells #[.string { data := #[] }, .string { data := #[] }, .string { data := #[] }] 42)) W.heap.size w1.heap.size w2.heap.size w3.heap.size { data := #[] } { data := #[] } { data := #[] }) := by
    have a3 : Below w3.heap.size w3 (w3.alloc (.cells #[.string { data := #[] }, .string { data := #[] }, .string { data := #[] }] 42)) := (Below.refl _ _).alloc (Nat.le_refl _) _
    exact Lib.hid ⟨((HD0.out.below hb2).below hb3).below a3, (HD1.out.below hb3).below a3, hD2.below a3, Blk.new w3 _ _⟩
  clear hD2 HD0 HD1 HF
  go_wp2
  go_loopw [7, 8, 9, 10] (fun i _ _ _ wr => ∃ (k : Nat) (a0 a1 a2 : ByteArray), k ≤ n ∧ i = .int .i64 k ∧ a0.size ≤ 16777216 ∧ a1.size ≤ 16777216 ∧ a2.size ≤ 16777216 ∧ Below W.heap.size W wr ∧ Hid (Trio wr W.heap.size w1.heap.size w2.heap.size w3.heap.size a0 a1 a2)) (fun i _ _ _ _ => n - (intOf i).toNat)
  case atStart => exact ⟨0, _, _, _, Nat.zero_le _, rfl, by decide, by decide, by decide, b4, TR⟩
  case round =>
    clear b1 b2 b3 b4 hb1 hb2 hb3 TR
    obtain ⟨k, a0, a1, a2, hk, rfl, s0, s1, s2, hb, HTR⟩ := hrel
    by_cases hltn : k < n
    · obtain ⟨⟨sb, so, rfl, e0, e1, e2⟩, hwho, hask, hsm⟩ := HSC.out k hltn
      have j0 : (0 : Int) ≤ (k : Int) := by omega
      have j1 : (k : Int) < (n : Int) := by omega
      have hsb := lt_of_cell e0
      have HC0 := Lib.hid (cell_below e0 hb)
      have E1 := Lib.hid e1
      have E2 := Lib.hid e2
      have m0 := Int.emod_nonneg (ask k) (show (3 : Int) ≠ 0 by omega)
      have m1 := Int.emod_lt_of_pos (ask k) (show (0 : Int) < 3 by omega)
      have HPA : Hid (∀ w', Calls Tryd.prog 18 #[.int .i64 (ask k), .int .i64 3] w' fun e w2 => e = .returned (.int .i64 (ask k % 3)) ∧ w' = w2) := Lib.hid fun w' => kit_pick (ask k) 3 w' hask (by omega) (by omega)
      have hq : who k % 3 = 0 ∨ who k % 3 = 1 ∨ who k % 3 = 2 := by omega
      have HPW0 := Lib.hid fun w' => kit_pick (who k) 3 w' hwho (by omega) (by omega)
      generalize txt k = t at *
      generalize ask k % 3 = m at *
      generalize ask k = av at *
      generalize hwv : who k = wv at *
      clear hwv e0 e1 e2 hwho hask
      have e0 := HC0.out
      rcases hq with hq | hq | hq
      · have HPW : Hid (∀ w', Calls Tryd.prog 18 #[.int .i64 wv, .int .i64 3] w' fun e w2 => e = .returned (.int .i64 0) ∧ w' = w2) := Lib.hid fun w' => by
          have h := HPW0.out w'
          rw [hq] at h
          exact h
        clear HPW0 hq
        have ca : wr.cell? ⟨w3.heap.size, 0, none⟩ = some (.string a0) := HTR.out.ar.cell 0
        have e1 := cell_below E1.out hb
        have hwr : IntKind.i64.wrap ((a0.size : Int) + (t.size : Int)) = (a0.size : Int) + (t.size : Int) := IntWalk.i64_in _ (by omega)
        by_cases htoo : (16777216 : Int) < (a0.size : Int) + (t.size : Int)
        · have dtoo : decide ((16777216 : Int) < (a0.size : Int) + (t.size : Int)) = true := decide_eq_true htoo
          go_wp2_with (go_at_call 18; (with_reducible refine (HPW.out _).mono ?_); rintro e w4 ⟨rfl, rfl⟩)
          refine wp_region_still_lit (by kernel_rfl) (by kernel_rfl) ?_
          repeat still_step
          refine wpStill_nil ?_
          change Exit.then _ _ _ _ wr.drew
          have hbd := hb.drew
          generalize wr.drew = wd at *
          clear ca e0 e1 hwr
          go_wp2
          go_ret
          exact ⟨rfl, hbd⟩
        · have dtoo : decide ((16777216 : Int) < (a0.size : Int) + (t.size : Int)) = false := decide_eq_false htoo
          go_wp2_with (go_at_call 18; (with_reducible refine (HPW.out _).mono ?_); rintro e w4 ⟨rfl, rfl⟩)
          refine wp_region_still_lit (by kernel_rfl) (by kernel_rfl) ?_
          repeat still_step
          refine wpStill_nil ?_
          change Exit.then _ _ _ _ wr.drew
          have hbd := hb.drew
          have HTD := Lib.hid HTR.out.drew
          clear hb HTR ca e0 e1 hwr HC0 HPW
          generalize wr.drew = wd at *
          have e1 := cell_below E1.out hbd
          have HA := Lib.hid (dig_add W.heap.size a0 t wd HTD.out.d0 (by omega) (HT.out.below hbd).p (by omega))
          go_wp2_with (go_at_call 21; (with_reducible refine HA.out.mono ?_); rintro e w5 ⟨rfl, ha5, hD5⟩)
          have hb5 : Below W.heap.size W w5 := hbd.trans (ha5.below hbd.size (by omega))
          have HT5 : Hid (Dig w5 W.heap.size (a0 ++ t) ∧ Dig w5 w1.heap.size a1 ∧ Dig w5 w2.heap.size a2 ∧ Blk w5 w3.heap.size 42 [.string a0, .string a1, .string a2]) := Lib.hid ⟨hD5, HTD.out.d1.aside ha5 (by omega), HTD.out.d2.aside ha5 (by omega), ha5.blk HTD.out.ar (by omega)⟩
          clear hbd HTD e1 HA ha5 hD5
          obtain ⟨x, hx⟩ : ∃ x, x = a0 ++ t := ⟨_, rfl⟩
          have hxs : x.size ≤ 16777216 := by rw [hx, ByteArray.size_append]; omega
          rw [← hx] at HT5
          have HX := Lib.hid hx
          clear hx
          have ca : w5.drew.cell? ⟨w3.heap.size, 0, none⟩ = some (.string a0) := HT5.out.2.2.2.cell 0
          have cf : w5.drew.frozen? ⟨w3.heap.size, 0, none⟩ = false := HT5.out.2.2.2.frozen 0
          have e1 := cell_below E1.out hb5.drew
          refine wp_region_still_tail 11 (by kernel_rfl) (by kernel_rfl) ?_
          simp only [List.take_succ_cons, List.take_zero, List.drop_succ_cons, List.drop_zero]
          have ca' : w5.cell? ⟨w3.heap.size, 0, none⟩ = some (.string a0) := ca
          have e1' := cell_below E1.out hb5
          have hss : ¬ 9223372036854775807 < a0.size + t.size := by omega
          repeat still_step
          refine wpStill_nil ?_
          clear hss
          change wpList _ _ _ _ _ w5.drew
          rw [← HX.out]
          have HT6 : Hid (Trio (w5.drew.setCell ⟨w3.heap.size, 0, none⟩ (.string x)) W.heap.size w1.heap.size w2.heap.size w3.heap.size x a1 a2) := by
            have hst := Aside.setCell w5.drew w3.heap.size 0 (.string x)
            have as0 : Aside w3.heap.size w5 w5.drew := (Aside.refl _ _).drew
            exact Lib.hid ⟨(HT5.out.1.aside as0 (by omega)).aside hst (by omega), (HT5.out.2.1.aside as0 (by omega)).aside hst (by omega), (HT5.out.2.2.1.aside as0 (by omega)).aside hst (by omega), HT5.out.2.2.2.drew.set 0 (.string x)⟩
          have hb6 : Below W.heap.size W (w5.drew.setCell ⟨w3.heap.size, 0, none⟩ (.string x)) := hb5.drew.setCell (by simp; omega) _
          clear hb5 HT5 ca' e1' e1
          generalize w5.drew = w5d at *
          go_wp2
          generalize w5d.setCell ⟨w3.heap.size, 0, none⟩ (.string x) = w6 at *
          clear ca cf
          have HI : Hid (∀ w', Below w6.heap.size w6 w' → Calls Tryd.prog 22 #[.pointer (some ⟨W.heap.size, 0, none⟩), .string x, .int .i64 m] w' fun e w2 => e = .returned (.bool true) ∧ Below w'.heap.size w' w2) := Lib.hid fun w' h' => sumIs_any W.heap.size x m w' (HT6.out.d0.below h') (by omega) m0 (by omega) ((HT.out.below hb6).below h')
          have z0 := (Below.refl w6.heap.size w6).drew
          have c0 : w6.drew.cell? ⟨w3.heap.size, 0, none⟩ = some (.string x) ∧ w6.drew.cell? ⟨sb, so + k * 3 + 2, none⟩ = some (.int .i64 av) := ⟨HT6.out.ar.cell 0, cell_below E2.out hb6.drew⟩
          go_region_held3 (fun w' => w'.cell? ⟨w3.heap.size, 0, none⟩ = some (.string x) ∧ w'.cell? ⟨sb, so + k * 3 + 2, none⟩ = some (.int .i64 av)) (first | exact c0 | exact c1)
            (first
              | (go_at_call 18; (with_reducible refine (HPA.out _).mono ?_); rintro e w7 ⟨rfl, rfl⟩)
              | (go_at_call 22; (with_reducible refine (HI.out _ z0).mono ?_); rintro e w7 ⟨rfl, hb7⟩; have z1 := z0.trans (hb7.mono z0.size); have c1 : w7.cell? ⟨w3.heap.size, 0, none⟩ = some (.string x) ∧ w7.cell? ⟨sb, so + k * 3 + 2, none⟩ = some (.int .i64 av) := ⟨(HT6.out.below z1).ar.cell 0, cell_below E2.out (hb6.trans (z1.mono hb6.size))⟩))
          have hb8 := hb6.trans (z1.mono hb6.size)
          have HT8 := Lib.hid (HT6.out.below z1)
          clear c0 c1 hb7 z0 z1 hb6 HT6 HI
          go_wp2
          go_roundw
          case rel => exact ⟨k + 1, x, a1, a2, by omega, by go_num, hxs, s1, s2, hb8, HT8⟩
          case measure => simp [intOf]; omega
      · have HPW : Hid (∀ w', Calls Tryd.prog 18 #[.int .i64 wv, .int .i64 3] w' fun e w2 => e = .returned (.int .i64 1) ∧ w' = w2) := Lib.hid fun w' => by
          have h := HPW0.out w'
          rw [hq] at h
          exact h
        clear HPW0 hq
        have ca : wr.cell? ⟨w3.heap.size, 1, none⟩ = some (.string a1) := HTR.out.ar.cell 1
        have e1 := cell_below E1.out hb
        have hwr : IntKind.i64.wrap ((a1.size : Int) + (t.size : Int)) = (a1.size : Int) + (t.size : Int) := IntWalk.i64_in _ (by omega)
        by_cases htoo : (16777216 : Int) < (a1.size : Int) + (t.size : Int)
        · have dtoo : decide ((16777216 : Int) < (a1.size : Int) + (t.size : Int)) = true := decide_eq_true htoo
          go_wp2_with (go_at_call 18; (with_reducible refine (HPW.out _).mono ?_); rintro e w4 ⟨rfl, rfl⟩)
          refine wp_region_still_lit (by kernel_rfl) (by kernel_rfl) ?_
          repeat still_step
          refine wpStill_nil ?_
          change Exit.then _ _ _ _ wr.drew
          have hbd := hb.drew
          generalize wr.drew = wd at *
          clear ca e0 e1 hwr
          go_wp2
          go_ret
          exact ⟨rfl, hbd⟩
        · have dtoo : decide ((16777216 : Int) < (a1.size : Int) + (t.size : Int)) = false := decide_eq_false htoo
          go_wp2_with (go_at_call 18; (with_reducible refine (HPW.out _).mono ?_); rintro e w4 ⟨rfl, rfl⟩)
          refine wp_region_still_lit (by kernel_rfl) (by kernel_rfl) ?_
          repeat still_step
          refine wpStill_nil ?_
          change Exit.then _ _ _ _ wr.drew
          have hbd := hb.drew
          have HTD := Lib.hid HTR.out.drew
          clear hb HTR ca e0 e1 hwr HC0 HPW
          generalize wr.drew = wd at *
          have e1 := cell_below E1.out hbd
          have HA := Lib.hid (dig_add w1.heap.size a1 t wd HTD.out.d1 (by omega) (HT.out.below hbd).p (by omega))
          go_wp2_with (go_at_call 21; (with_reducible refine HA.out.mono ?_); rintro e w5 ⟨rfl, ha5, hD5⟩)
          have hb5 : Below W.heap.size W w5 := hbd.trans (ha5.below hbd.size (by omega))
          have HT5 : Hid (Dig w5 W.heap.size a0 ∧ Dig w5 w1.heap.size (a1 ++ t) ∧ Dig w5 w2.heap.size a2 ∧ Blk w5 w3.heap.size 42 [.string a0, .string a1, .string a2]) := Lib.hid ⟨HTD.out.d0.aside ha5 (by omega), hD5, HTD.out.d2.aside ha5 (by omega), ha5.blk HTD.out.ar (by omega)⟩
          clear hbd HTD e1 HA ha5 hD5
          obtain ⟨x, hx⟩ : ∃ x, x = a1 ++ t := ⟨_, rfl⟩
          have hxs : x.size ≤ 16777216 := by rw [hx, ByteArray.size_append]; omega
          rw [← hx] at HT5
          have HX := Lib.hid hx
          clear hx
          have ca : w5.drew.cell? ⟨w3.heap.size, 1, none⟩ = some (.string a1) := HT5.out.2.2.2.cell 1
          have cf : w5.drew.frozen? ⟨w3.heap.size, 1, none⟩ = false := HT5.out.2.2.2.frozen 1
          have e1 := cell_below E1.out hb5.drew
          refine wp_region_still_tail 11 (by kernel_rfl) (by kernel_rfl) ?_
          simp only [List.take_succ_cons, List.take_zero, List.drop_succ_cons, List.drop_zero]
          have ca' : w5.cell? ⟨w3.heap.size, 1, none⟩ = some (.string a1) := ca
          have e1' := cell_below E1.out hb5
          have hss : ¬ 9223372036854775807 < a1.size + t.size := by omega
          repeat still_step
          refine wpStill_nil ?_
          clear hss
          change wpList _ _ _ _ _ w5.drew
          rw [← HX.out]
          have HT6 : Hid (Trio (w5.drew.setCell ⟨w3.heap.size, 1, none⟩ (.string x)) W.heap.size w1.heap.size w2.heap.size w3.heap.size a0 x a2) := by
            have hst := Aside.setCell w5.drew w3.heap.size 1 (.string x)
            have as0 : Aside w3.heap.size w5 w5.drew := (Aside.refl _ _).drew
            exact Lib.hid ⟨(HT5.out.1.aside as0 (by omega)).aside hst (by omega), (HT5.out.2.1.aside as0 (by omega)).aside hst (by omega), (HT5.out.2.2.1.aside as0 (by omega)).aside hst (by omega), HT5.out.2.2.2.drew.set 1 (.string x)⟩
          have hb6 : Below W.heap.size W (w5.drew.setCell ⟨w3.heap.size, 1, none⟩ (.string x)) := hb5.drew.setCell (by simp; omega) _
          clear hb5 HT5 ca' e1' e1
          generalize w5.drew = w5d at *
          go_wp2
          generalize w5d.setCell ⟨w3.heap.size, 1, none⟩ (.string x) = w6 at *
          clear ca cf
          have HI : Hid (∀ w', Below w6.heap.size w6 w' → Calls Tryd.prog 22 #[.pointer (some ⟨w1.heap.size, 0, none⟩), .string x, .int .i64 m] w' fun e w2 => e = .returned (.bool true) ∧ Below w'.heap.size w' w2) := Lib.hid fun w' h' => sumIs_any w1.heap.size x m w' (HT6.out.d1.below h') (by omega) m0 (by omega) ((HT.out.below hb6).below h')
          have z0 := (Below.refl w6.heap.size w6).drew
          have c0 : w6.drew.cell? ⟨w3.heap.size, 1, none⟩ = some (.string x) ∧ w6.drew.cell? ⟨sb, so + k * 3 + 2, none⟩ = some (.int .i64 av) := ⟨HT6.out.ar.cell 1, cell_below E2.out hb6.drew⟩
          go_region_held3 (fun w' => w'.cell? ⟨w3.heap.size, 1, none⟩ = some (.string x) ∧ w'.cell? ⟨sb, so + k * 3 + 2, none⟩ = some (.int .i64 av)) (first | exact c0 | exact c1)
            (first
              | (go_at_call 18; (with_reducible refine (HPA.out _).mono ?_); rintro e w7 ⟨rfl, rfl⟩)
              | (go_at_call 22; (with_reducible refine (HI.out _ z0).mono ?_); rintro e w7 ⟨rfl, hb7⟩; have z1 := z0.trans (hb7.mono z0.size); have c1 : w7.cell? ⟨w3.heap.size, 1, none⟩ = some (.string x) ∧ w7.cell? ⟨sb, so + k * 3 + 2, none⟩ = some (.int .i64 av) := ⟨(HT6.out.below z1).ar.cell 1, cell_below E2.out (hb6.trans (z1.mono hb6.size))⟩))
          have hb8 := hb6.trans (z1.mono hb6.size)
          have HT8 := Lib.hid (HT6.out.below z1)
          clear c0 c1 hb7 z0 z1 hb6 HT6 HI
          go_wp2
          go_roundw
          case rel => exact ⟨k + 1, a0, x, a2, by omega, by go_num, s0, hxs, s2, hb8, HT8⟩
          case measure => simp [intOf]; omega
      · have HPW : Hid (∀ w', Calls Tryd.prog 18 #[.int .i64 wv, .int .i64 3] w' fun e w2 => e = .returned (.int .i64 2) ∧ w' = w2) := Lib.hid fun w' => by
          have h := HPW0.out w'
          rw [hq] at h
          exact h
        clear HPW0 hq
        have ca : wr.cell? ⟨w3.heap.size, 2, none⟩ = some (.string a2) := HTR.out.ar.cell 2
        have e1 := cell_below E1.out hb
        have hwr : IntKind.i64.wrap ((a2.size : Int) + (t.size : Int)) = (a2.size : Int) + (t.size : Int) := IntWalk.i64_in _ (by omega)
        by_cases htoo : (16777216 : Int) < (a2.size : Int) + (t.size : Int)
        · have dtoo : decide ((16777216 : Int) < (a2.size : Int) + (t.size : Int)) = true := decide_eq_true htoo
          go_wp2_with (go_at_call 18; (with_reducible refine (HPW.out _).mono ?_); rintro e w4 ⟨rfl, rfl⟩)
          refine wp_region_still_lit (by kernel_rfl) (by kernel_rfl) ?_
          repeat still_step
          refine wpStill_nil ?_
          change Exit.then _ _ _ _ wr.drew
          have hbd := hb.drew
          generalize wr.drew = wd at *
          clear ca e0 e1 hwr
          go_wp2
          go_ret
          exact ⟨rfl, hbd⟩
        · have dtoo : decide ((16777216 : Int) < (a2.size : Int) + (t.size : Int)) = false := decide_eq_false htoo
          go_wp2_with (go_at_call 18; (with_reducible refine (HPW.out _).mono ?_); rintro e w4 ⟨rfl, rfl⟩)
          refine wp_region_still_lit (by kernel_rfl) (by kernel_rfl) ?_
          repeat still_step
          refine wpStill_nil ?_
          change Exit.then _ _ _ _ wr.drew
          have hbd := hb.drew
          have HTD := Lib.hid HTR.out.drew
          clear hb HTR ca e0 e1 hwr HC0 HPW
          generalize wr.drew = wd at *
          have e1 := cell_below E1.out hbd
          have HA := Lib.hid (dig_add w2.heap.size a2 t wd HTD.out.d2 (by omega) (HT.out.below hbd).p (by omega))
          go_wp2_with (go_at_call 21; (with_reducible refine HA.out.mono ?_); rintro e w5 ⟨rfl, ha5, hD5⟩)
          have hb5 : Below W.heap.size W w5 := hbd.trans (ha5.below hbd.size (by omega))
          have HT5 : Hid (Dig w5 W.heap.size a0 ∧ Dig w5 w1.heap.size a1 ∧ Dig w5 w2.heap.size (a2 ++ t) ∧ Blk w5 w3.heap.size 42 [.string a0, .string a1, .string a2]) := Lib.hid ⟨HTD.out.d0.aside ha5 (by omega), HTD.out.d1.aside ha5 (by omega), hD5, ha5.blk HTD.out.ar (by omega)⟩
          clear hbd HTD e1 HA ha5 hD5
          obtain ⟨x, hx⟩ : ∃ x, x = a2 ++ t := ⟨_, rfl⟩
          have hxs : x.size ≤ 16777216 := by rw [hx, ByteArray.size_append]; omega
          rw [← hx] at HT5
          have HX := Lib.hid hx
          clear hx
          have ca : w5.drew.cell? ⟨w3.heap.size, 2, none⟩ = some (.string a2) := HT5.out.2.2.2.cell 2
          have cf : w5.drew.frozen? ⟨w3.heap.size, 2, none⟩ = false := HT5.out.2.2.2.frozen 2
          have e1 := cell_below E1.out hb5.drew
          refine wp_region_still_tail 11 (by kernel_rfl) (by kernel_rfl) ?_
          simp only [List.take_succ_cons, List.take_zero, List.drop_succ_cons, List.drop_zero]
          have ca' : w5.cell? ⟨w3.heap.size, 2, none⟩ = some (.string a2) := ca
          have e1' := cell_below E1.out hb5
          have hss : ¬ 9223372036854775807 < a2.size + t.size := by omega
          repeat still_step
          refine wpStill_nil ?_
          clear hss
          change wpList _ _ _ _ _ w5.drew
          rw [← HX.out]
          have HT6 : Hid (Trio (w5.drew.setCell ⟨w3.heap.size, 2, none⟩ (.string x)) W.heap.size w1.heap.size w2.heap.size w3.heap.size a0 a1 x) := by
            have hst := Aside.setCell w5.drew w3.heap.size 2 (.string x)
            have as0 : Aside w3.heap.size w5 w5.drew := (Aside.refl _ _).drew
            exact Lib.hid ⟨(HT5.out.1.aside as0 (by omega)).aside hst (by omega), (HT5.out.2.1.aside as0 (by omega)).aside hst (by omega), (HT5.out.2.2.1.aside as0 (by omega)).aside hst (by omega), HT5.out.2.2.2.drew.set 2 (.string x)⟩
          have hb6 : Below W.heap.size W (w5.drew.setCell ⟨w3.heap.size, 2, none⟩ (.string x)) := hb5.drew.setCell (by simp; omega) _
          clear hb5 HT5 ca' e1' e1
          generalize w5.drew = w5d at *
          go_wp2
          generalize w5d.setCell ⟨w3.heap.size, 2, none⟩ (.string x) = w6 at *
          clear ca cf
          have HI : Hid (∀ w', Below w6.heap.size w6 w' → Calls Tryd.prog 22 #[.pointer (some ⟨w2.heap.size, 0, none⟩), .string x, .int .i64 m] w' fun e w2 => e = .returned (.bool true) ∧ Below w'.heap.size w' w2) := Lib.hid fun w' h' => sumIs_any w2.heap.size x m w' (HT6.out.d2.below h') (by omega) m0 (by omega) ((HT.out.below hb6).below h')
          have z0 := (Below.refl w6.heap.size w6).drew
          have c0 : w6.drew.cell? ⟨w3.heap.size, 2, none⟩ = some (.string x) ∧ w6.drew.cell? ⟨sb, so + k * 3 + 2, none⟩ = some (.int .i64 av) := ⟨HT6.out.ar.cell 2, cell_below E2.out hb6.drew⟩
          go_region_held3 (fun w' => w'.cell? ⟨w3.heap.size, 2, none⟩ = some (.string x) ∧ w'.cell? ⟨sb, so + k * 3 + 2, none⟩ = some (.int .i64 av)) (first | exact c0 | exact c1)
            (first
              | (go_at_call 18; (with_reducible refine (HPA.out _).mono ?_); rintro e w7 ⟨rfl, rfl⟩)
              | (go_at_call 22; (with_reducible refine (HI.out _ z0).mono ?_); rintro e w7 ⟨rfl, hb7⟩; have z1 := z0.trans (hb7.mono z0.size); have c1 : w7.cell? ⟨w3.heap.size, 2, none⟩ = some (.string x) ∧ w7.cell? ⟨sb, so + k * 3 + 2, none⟩ = some (.int .i64 av) := ⟨(HT6.out.below z1).ar.cell 2, cell_below E2.out (hb6.trans (z1.mono hb6.size))⟩))
          have hb8 := hb6.trans (z1.mono hb6.size)
          have HT8 := Lib.hid (HT6.out.below z1)
          clear c0 c1 hb7 z0 z1 hb6 HT6 HI
          go_wp2
          go_roundw
          case rel => exact ⟨k + 1, a0, a1, x, by omega, by go_num, s0, s1, hxs, hb8, HT8⟩
          case measure => simp [intOf]; omega
    · obtain rfl : k = n := by omega
      have HI0 : Hid (∀ w', Below wr.heap.size wr w' → Calls Tryd.prog 22 #[.pointer (some ⟨W.heap.size, 0, none⟩), .string a0, .int .i64 2] w' fun e w2 => e = .returned (.bool true) ∧ Below w'.heap.size w' w2) := Lib.hid fun w' h' => sumIs_any W.heap.size a0 2 w' (HTR.out.d0.below h') (by omega) (by omega) (by omega) ((HT.out.below hb).below h')
      have HI1 : Hid (∀ w', Below wr.heap.size wr w' → Calls Tryd.prog 22 #[.pointer (some ⟨w1.heap.size, 0, none⟩), .string a1, .int .i64 2] w' fun e w2 => e = .returned (.bool true) ∧ Below w'.heap.size w' w2) := Lib.hid fun w' h' => sumIs_any w1.heap.size a1 2 w' (HTR.out.d1.below h') (by omega) (by omega) (by omega) ((HT.out.below hb).below h')
      have HI2 : Hid (∀ w', Below wr.heap.size wr w' → Calls Tryd.prog 22 #[.pointer (some ⟨w2.heap.size, 0, none⟩), .string a2, .int .i64 2] w' fun e w2 => e = .returned (.bool true) ∧ Below w'.heap.size w' w2) := Lib.hid fun w' h' => sumIs_any w2.heap.size a2 2 w' (HTR.out.d2.below h') (by omega) (by omega) (by omega) ((HT.out.below hb).below h')
      have z0 := Below.refl wr.heap.size wr
      have c0 : wr.cell? ⟨w3.heap.size, 0, none⟩ = some (.string a0) := HTR.out.ar.cell 0
      go_wp2_with (first
        | (go_at_call 22; (with_reducible refine (HI0.out _ z0).mono ?_); rintro e w5 ⟨rfl, hb5⟩; have z1 := z0.trans (hb5.mono z0.size); have c1 : w5.cell? ⟨w3.heap.size, 1, none⟩ = some (.string a1) := (HTR.out.below z1).ar.cell 1)
        | (go_at_call 22; (with_reducible refine (HI1.out _ z1).mono ?_); rintro e w6 ⟨rfl, hb6⟩; have z2 := z1.trans (hb6.mono z1.size); have c2 : w6.cell? ⟨w3.heap.size, 2, none⟩ = some (.string a2) := (HTR.out.below z2).ar.cell 2)
        | (go_at_call 22; (with_reducible refine (HI2.out _ z2).mono ?_); rintro e w7 ⟨rfl, hb7⟩; have z3 := z2.trans (hb7.mono z2.size)))
      go_ret
      exact ⟨rfl, hb.trans (z3.mono hb.size)⟩
end Go.Proofs.YtkhfelfdgpfjkaaDoor
