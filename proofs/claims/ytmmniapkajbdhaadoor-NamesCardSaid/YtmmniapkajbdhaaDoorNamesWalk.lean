/- Names, walked: a closed statement. -/
import Derived.Test.YtmmniapkajbdhaaDoorErrs
import Derived.StillTailTactics
namespace Go.Proofs.YtmmniapkajbdhaaDoor
open Go.RowKit
theorem refusals_any {w : World} {E : Nat → Addr} (h : Errs w E) :
    Calls Tryd.prog 7 #[] w fun e w' => e = .returned (.bool true) ∧ w = w' := by
  have v0 := h.v0
  have n0 := Lib.hid (num_0 h)
  have v1 := h.v1
  have n1 := Lib.hid (num_1 h)
  have v2 := h.v2
  have n2 := Lib.hid (num_2 h)
  have v3 := h.v3
  have n3 := Lib.hid (num_3 h)
  have v4 := h.v4
  have n4 := Lib.hid (num_4 h)
  have v5 := h.v5
  have n5 := Lib.hid (num_5 h)
  have v6 := h.v6
  have n6 := Lib.hid (num_6 h)
  have v7 := h.v7
  have n7 := Lib.hid (num_7 h)
  have v8 := h.v8
  have n8 := Lib.hid (num_8 h)
  have v9 := h.v9
  have n9 := Lib.hid (num_9 h)
  have v10 := h.v10
  have n10 := Lib.hid (num_10 h)
  have v11 := h.v11
  have n11 := Lib.hid (num_11 h)
  have v12 := h.v12
  have n12 := Lib.hid (num_12 h)
  clear h
  generalize E 0 = e0 at *
  generalize E 1 = e1 at *
  generalize E 2 = e2 at *
  generalize E 3 = e3 at *
  generalize E 4 = e4 at *
  generalize E 5 = e5 at *
  generalize E 6 = e6 at *
  generalize E 7 = e7 at *
  generalize E 8 = e8 at *
  generalize E 9 = e9 at *
  generalize E 10 = e10 at *
  generalize E 11 = e11 at *
  generalize E 12 = e12 at *
  go_enter Tryd.func7, Tryd.ntmps7
  go_wp2_with (first
    | (go_at_call 15; (with_reducible refine n0.out.mono ?_); rintro e w' ⟨rfl, rfl⟩)
    | (go_at_call 15; (with_reducible refine n1.out.mono ?_); rintro e w' ⟨rfl, rfl⟩)
    | (go_at_call 15; (with_reducible refine n2.out.mono ?_); rintro e w' ⟨rfl, rfl⟩)
    | (go_at_call 15; (with_reducible refine n3.out.mono ?_); rintro e w' ⟨rfl, rfl⟩)
    | (go_at_call 15; (with_reducible refine n4.out.mono ?_); rintro e w' ⟨rfl, rfl⟩)
    | (go_at_call 15; (with_reducible refine n5.out.mono ?_); rintro e w' ⟨rfl, rfl⟩)
    | (go_at_call 15; (with_reducible refine n6.out.mono ?_); rintro e w' ⟨rfl, rfl⟩)
    | (go_at_call 15; (with_reducible refine n7.out.mono ?_); rintro e w' ⟨rfl, rfl⟩)
    | (go_at_call 15; (with_reducible refine n8.out.mono ?_); rintro e w' ⟨rfl, rfl⟩)
    | (go_at_call 15; (with_reducible refine n9.out.mono ?_); rintro e w' ⟨rfl, rfl⟩)
    | (go_at_call 15; (with_reducible refine n10.out.mono ?_); rintro e w' ⟨rfl, rfl⟩)
    | (go_at_call 15; (with_reducible refine n11.out.mono ?_); rintro e w' ⟨rfl, rfl⟩)
    | (go_at_call 15; (with_reducible refine n12.out.mono ?_); rintro e w' ⟨rfl, rfl⟩)
    | (go_at_call 15; (with_reducible refine (num_nil _).mono ?_); rintro e w' ⟨rfl, rfl⟩))
  go_ret
  exact ⟨rfl, rfl⟩
set_option maxHeartbeats 1000000 in
theorem names_walk {W : World} {E : Nat → Addr} (h : Errs W E)
    (hA : ∀ i : Nat, i < 32 → ∃ z, W.cell? ⟨0, i, none⟩ = some (.int .i64 z) ∧ W.cell? ⟨1, i, none⟩ = some (.int .i64 z))
    (hB : ∀ i : Nat, i < 34 → ∃ z, W.cell? ⟨2, i, none⟩ = some (.int .i64 z) ∧ W.cell? ⟨3, i, none⟩ = some (.int .i64 z))
    (hC : ∀ i : Nat, i < 13 → ∃ s, W.cell? ⟨4, i, none⟩ = some (.string s) ∧ W.cell? ⟨5, i, none⟩ = some (.string s)) :
    Calls Tryd.prog 3 #[] W fun e w' => e = .returned (.bool true) ∧ Below W.heap.size W w' := by
  have HA := Lib.hid hA
  have HB := Lib.hid hB
  have HC := Lib.hid hC
  have HE := Lib.hid h
  clear hA hB hC h
  go_enter Tryd.func3, Tryd.ntmps3
  go_wp2
  go_loopw [1, 4] (fun i _ wr => ∃ k : Nat, k ≤ 32 ∧ i = .int .i64 k ∧ Below W.heap.size W wr) (fun i _ _ => 32 - (intOf i).toNat)
  case atStart => exact ⟨0, by omega, rfl, Below.refl _ _⟩
  case round =>
    obtain ⟨k, hk, rfl, hb⟩ := hrel
    by_cases hlt : k < 32
    · obtain ⟨z, c1, c2⟩ := HA.out k hlt
      replace c1 := cell_below c1 hb
      replace c2 := cell_below c2 hb
      have k0 : (0 : Int) ≤ k := by omega
      have k1 : (k : Int) < 32 := by omega
      go_wp2
      refine wp_region_still_lit (by kernel_rfl) (by kernel_rfl) ?_
      repeat still_step
      refine wpStill_nil ?_
      change Exit.then _ _ _ _ wr.drew
      have hbd := hb.drew
      generalize wr.drew = wd at *
      clear c1 c2
      go_wp2
      go_roundw
      case rel => exact ⟨k + 1, by omega, by go_num, hbd⟩
      case measure => simp [intOf]; omega
    · obtain rfl : k = 32 := by omega
      rw [show (((32 : Nat) : Int)) = (32 : Int) from rfl]
      go_wp2
      go_loopw [2, 15] (fun i _ wr2 => ∃ k : Nat, k ≤ 34 ∧ i = .int .i64 k ∧ Below W.heap.size W wr2) (fun i _ _ => 34 - (intOf i).toNat)
      case atStart => exact ⟨0, by omega, rfl, hb⟩
      case round =>
        rename World => wr2
        obtain ⟨k, hk, rfl, hb⟩ := hrel
        by_cases hlt : k < 34
        · obtain ⟨z, c1, c2⟩ := HB.out k hlt
          replace c1 := cell_below c1 hb
          replace c2 := cell_below c2 hb
          have k0 : (0 : Int) ≤ k := by omega
          have k1 : (k : Int) < 34 := by omega
          go_wp2
          refine wp_region_still_lit (by kernel_rfl) (by kernel_rfl) ?_
          repeat still_step
          refine wpStill_nil ?_
          change Exit.then _ _ _ _ wr2.drew
          have hbd := hb.drew
          generalize wr2.drew = wd at *
          clear c1 c2
          go_wp2
          go_roundw
          case rel => exact ⟨k + 1, by omega, by go_num, hbd⟩
          case measure => simp [intOf]; omega
        · obtain rfl : k = 34 := by omega
          rw [show (((34 : Nat) : Int)) = (34 : Int) from rfl]
          go_wp2
          go_loopw [3, 26] (fun i _ wr3 => ∃ k : Nat, k ≤ 13 ∧ i = .int .i64 k ∧ Below W.heap.size W wr3) (fun i _ _ => 13 - (intOf i).toNat)
          case atStart => exact ⟨0, by omega, rfl, hb⟩
          case round =>
            rename World => wr3
            obtain ⟨k, hk, rfl, hb⟩ := hrel
            by_cases hlt : k < 13
            · obtain ⟨z, c1, c2⟩ := HC.out k hlt
              replace c1 := cell_below c1 hb
              replace c2 := cell_below c2 hb
              have k0 : (0 : Int) ≤ k := by omega
              have k1 : (k : Int) < 13 := by omega
              go_wp2
              refine wp_region_still_lit (by kernel_rfl) (by kernel_rfl) ?_
              repeat still_step
              refine wpStill_nil ?_
              change Exit.then _ _ _ _ wr3.drew
              have hbd := hb.drew
              generalize wr3.drew = wd at *
              clear c1 c2
              go_wp2
              go_roundw
              case rel => exact ⟨k + 1, by omega, by go_num, hbd⟩
              case measure => simp [intOf]; omega
            · obtain rfl : k = 13 := by omega
              rw [show (((13 : Nat) : Int)) = (13 : Int) from rfl]
              have he := HE.out.below hb
              have HR := Lib.hid (refusals_any he)
              clear he
              go_wp2_with (go_at_call 7; (with_reducible refine HR.out.mono ?_); rintro e w' ⟨rfl, rfl⟩)
              go_ret
              exact ⟨rfl, hb⟩
end Go.Proofs.YtmmniapkajbdhaaDoor
