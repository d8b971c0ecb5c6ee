/- A digest is written and read back; which letters may stand last, walked. -/
import Derived.Test.YtmkifaddfnodhaaDoorRadixUnUrlP
import Derived.Test.YtmkifaddfnodhaaDoorRadixUrlP
import Derived.Test.YtmkifaddfnodhaaDoorRadixHex
import Derived.Test.YtmkifaddfnodhaaDoorRadixMore
import Derived.Test.YtmkifaddfnodhaaDoorErrs
import Derived.Test.YtmkifaddfnodhaaDoorShaTabs
import Derived.BigQuiet
import Derived.StillTailTactics
import Derived.Deep.RegionHeld3
namespace Go.Proofs.YtmkifaddfnodhaaDoor
open Go.RowKit
theorem bytesOf_pre (a : ByteArray) (n : Nat) : bytesOf (a.extract 0 n) = (bytesOf a).take n := by
  simp [bytesOf, ByteArray.data_extract, List.map_take]
theorem bytesOf_one (a : ByteArray) (k : Nat) (h : k < a.size) : bytesOf (a.extract k (k + 1)) = [(bytesOf a).getD k 0#8] := by
  have e : bytesOf (a.extract k (k + 1)) = ((bytesOf a).drop k).take 1 := by
    simp [bytesOf, ByteArray.data_extract, List.map_take, List.map_drop]
  have hl : k < (bytesOf a).length := by rw [bytesOf_length]; exact h
  rw [e, List.drop_eq_getElem_cons hl, List.take_succ_cons, List.take_zero, List.getD_eq_getElem?_getD, List.getElem?_eq_getElem hl]; rfl
theorem last_bytes (u : ByteArray) (D : List (BitVec 8)) (hu : bytesOf u = URadix.wr URadix.urlA D) (k : Nat) (hk : k < 64) :
    bytesOf (u.extract 0 42 ++ ({ data := #[65, 66, 67, 68, 69, 70, 71, 72, 73, 74, 75, 76, 77, 78, 79, 80, 81, 82, 83, 84, 85, 86, 87, 88, 89, 90, 97, 98, 99, 100, 101, 102, 103, 104, 105, 106, 107, 108, 109, 110, 111, 112, 113, 114, 115, 116, 117, 118, 119, 120, 121, 122, 48, 49, 50, 51, 52, 53, 54, 55, 56, 57, 45, 95] } : ByteArray).extract k (k + 1)) = URadix.last D k := by
  rw [bytesOf_append, bytesOf_pre, hu, bytesOf_one _ k (by show k < 64; exact hk), show bytesOf ({ data := #[65, 66, 67, 68, 69, 70, 71, 72, 73, 74, 75, 76, 77, 78, 79, 80, 81, 82, 83, 84, 85, 86, 87, 88, 89, 90, 97, 98, 99, 100, 101, 102, 103, 104, 105, 106, 107, 108, 109, 110, 111, 112, 113, 114, 115, 116, 117, 118, 119, 120, 121, 122, 48, 49, 50, 51, 52, 53, 54, 55, 56, 57, 45, 95] } : ByteArray) = URadix.urlA from urlS_b]; rfl
set_option maxHeartbeats 2000000 in
theorem radixDigest_walk {E : Nat → Addr} (t : ByteArray) (W : World) (hs : t.size ≤ reachBytes) (hE : Errs W E) (hT : HexTab W) (ht : PTabs W) :
    Calls Tryd.prog 3 #[.string t] W fun e w' => e = .returned (.bool true) ∧ Below W.heap.size W w' := by
  unfold reachBytes at hs
  have HE := Lib.hid hE
  have HT := Lib.hid hT
  obtain ⟨D, hD⟩ : ∃ D, D = USha.sha (bytesOf t) := ⟨_, rfl⟩
  have hDl : D.length = 32 := by rw [hD, USha.sha_length]
  obtain ⟨d, hd⟩ : ∃ d, d = strOf D := ⟨_, rfl⟩
  have hdb : bytesOf d = D := by rw [hd, bytesOf_strOf]
  have d32 : d.size = 32 := by rw [← bytesOf_length, hdb, hDl]
  have HS : Hid (Calls Tryd.prog 11 #[.string t] W fun e w2 => e = .returned (.string d) ∧ Below W.heap.size W w2) := Lib.hid (by
    have h := sha_prog t W (by omega) ht.pf ht.pr ht.lt
    rw [← hD, ← hd] at h
    exact h)
  obtain ⟨u, hu⟩ : ∃ u, u = strOf (URadix.wr URadix.urlA D) := ⟨_, rfl⟩
  have hub : bytesOf u = URadix.wr URadix.urlA D := by rw [hu, bytesOf_strOf]
  have u43 : u.size = 43 := by rw [← bytesOf_length, hub, URadix.wr_length, hDl]
  have HU : Hid (∀ w', Calls Tryd.prog 12 #[.string d] w' fun e w2 => e = .returned (.string u) ∧ Below w'.heap.size w' w2) := Lib.hid fun w' => by
    have h := url_prog d w' (by omega)
    rw [hdb, ← hu] at h
    exact h
  obtain ⟨x, hx⟩ : ∃ x, x = strOf (URadix.hx D) := ⟨_, rfl⟩
  have x64 : x.size = 64 := by rw [hx, strOf_size, URadix.hx_length, hDl]
  have HX : Hid (∀ w', Below W.heap.size W w' → Calls Tryd.prog 13 #[.string d] w' fun e w2 => e = .returned (.string x) ∧ Below w'.heap.size w' w2) := Lib.hid fun w' h' => by
    have h := hex_prog d w' (by omega) (HT.out.below h')
    rw [hdb, ← hx] at h
    exact h
  have HB : Hid (∀ w', Calls Tryd.prog 14 #[.string u] w' fun e w2 => e = .returned (.tuple #[.string d, .nilIface]) ∧ Below w'.heap.size w' w2) := Lib.hid fun w' => by
    have h := unUrl_ok u D w' (by omega) (by rw [hub]; exact URadix.rd_wr URadix.alpha_url D)
    rw [← hd] at h
    exact h
  have HLN : Hid (∀ k, k < 64 → k % 4 ≠ 0 → ∀ w', Below W.heap.size W w' → Calls Tryd.prog 14 #[.string (u.extract 0 42 ++ ({ data := #[65, 66, 67, 68, 69, 70, 71, 72, 73, 74, 75, 76, 77, 78, 79, 80, 81, 82, 83, 84, 85, 86, 87, 88, 89, 90, 97, 98, 99, 100, 101, 102, 103, 104, 105, 106, 107, 108, 109, 110, 111, 112, 113, 114, 115, 116, 117, 118, 119, 120, 121, 122, 48, 49, 50, 51, 52, 53, 54, 55, 56, 57, 45, 95] } : ByteArray).extract k (k + 1))] w' fun e w2 => e = .returned (.tuple #[.string { data := #[] }, .iface 92 (.pointer (some (E 1)))]) ∧ Below w'.heap.size w' w2) := Lib.hid fun k hk h4 w' h' => by
    have hb := last_bytes u D hub k hk
    exact unUrl_no _ w' _ (E 1) (HE.out.below h').v1 (by rw [← bytesOf_length, hb, URadix.last_length D hDl]; omega) (by rw [hb, URadix.rd_last D hDl k hk, if_neg h4])
  have HLY : Hid (∀ k, k < 64 → k % 4 = 0 → ∃ p : ByteArray, p.size = 32 ∧ p.extract 0 31 = d.extract 0 31 ∧ ((u.extract 0 42 ++ ({ data := #[65, 66, 67, 68, 69, 70, 71, 72, 73, 74, 75, 76, 77, 78, 79, 80, 81, 82, 83, 84, 85, 86, 87, 88, 89, 90, 97, 98, 99, 100, 101, 102, 103, 104, 105, 106, 107, 108, 109, 110, 111, 112, 113, 114, 115, 116, 117, 118, 119, 120, 121, 122, 48, 49, 50, 51, 52, 53, 54, 55, 56, 57, 45, 95] } : ByteArray).extract k (k + 1)) = u ↔ p = d) ∧ ∀ w', Calls Tryd.prog 14 #[.string (u.extract 0 42 ++ ({ data := #[65, 66, 67, 68, 69, 70, 71, 72, 73, 74, 75, 76, 77, 78, 79, 80, 81, 82, 83, 84, 85, 86, 87, 88, 89, 90, 97, 98, 99, 100, 101, 102, 103, 104, 105, 106, 107, 108, 109, 110, 111, 112, 113, 114, 115, 116, 117, 118, 119, 120, 121, 122, 48, 49, 50, 51, 52, 53, 54, 55, 56, 57, 45, 95] } : ByteArray).extract k (k + 1))] w' fun e w2 => e = .returned (.tuple #[.string p, .nilIface]) ∧ Below w'.heap.size w' w2) := Lib.hid fun k hk h4 => by
    have hb := last_bytes u D hub k hk
    have hr := URadix.rd_last D hDl k hk
    rw [if_pos h4] at hr
    have hpb := bytesOf_strOf (URadix.dec ((URadix.enc D).take 42 ++ [k]))
    refine ⟨strOf (URadix.dec ((URadix.enc D).take 42 ++ [k])), by rw [strOf_size, URadix.dec_last_length D hDl], bytesOf_inj (by rw [bytesOf_pre, bytesOf_pre, hpb, hdb, URadix.dec_last_take D hDl k hk]), ?_, fun w' => unUrl_ok _ _ w' (by rw [← bytesOf_length, hb, URadix.last_length D hDl]; omega) (by rw [hb]; exact hr)⟩
    have hsame := URadix.last_same D hDl k hk h4
    constructor
    · intro e
      apply bytesOf_inj
      rw [hpb, hdb]
      exact hsame.1 (by rw [← hb, e, hub])
    · intro e
      apply bytesOf_inj
      rw [hb, hub]
      exact hsame.2 (by rw [← hpb, e, hdb])
  have q1 : ((d.size : Int) != 32) = false := by rw [d32]; rfl
  have q2 : ((u.size : Int) != 43) = false := by rw [u43]; rfl
  have q3 : ((x.size : Int) != 64) = false := by rw [x64]; rfl
  have uI : (u.size : Int) = 43 := by omega
  have dI : (d.size : Int) = 32 := by omega
  clear hD hDl hd hdb hu hub hx hE hT ht
  go_enter Tryd.func3, Tryd.ntmps3
  go_wp2_with (first
    | (go_at_call 11; (with_reducible refine HS.out.mono ?_); rintro e w1 ⟨rfl, hb1⟩)
    | (go_at_call 12; (with_reducible refine (HU.out _).mono ?_); rintro e w2 ⟨rfl, hb2⟩; have b2 := hb1.trans (hb2.mono hb1.size))
    | (go_at_call 13; (with_reducible refine (HX.out _ b2).mono ?_); rintro e w3 ⟨rfl, hb3⟩; have b3 := b2.trans (hb3.mono b2.size))
    | (go_at_call 14; (with_reducible refine (HB.out _).mono ?_); rintro e w4 ⟨rfl, hb4⟩; have b4 := b3.trans (hb4.mono b3.size)))
  clear hb1 hb2 hb3 hb4 b2 b3 HS HU HX HB q1 q2 q3
  go_loopw [8, 9, 10, 11] (fun i _ _ _ wr => ∃ k : Nat, k ≤ 64 ∧ i = .int .i64 k ∧ Below W.heap.size W wr) (fun i _ _ _ _ => 64 - (intOf i).toNat)
  case atStart => exact ⟨0, Nat.zero_le _, rfl, b4⟩
  case round =>
    rename World => wr
    clear b4
    obtain ⟨k, hk, rfl, hb⟩ := hrel
    by_cases hlt : k < 64
    · have k0 : (0 : Int) ≤ (k : Int) := by omega
      have k1 : (k : Int) ≤ 63 := by omega
      have k2 : (k : Int) + 1 ≤ 64 := by omega
      have k3 : (k : Int) ≤ (k : Int) + 1 := by omega
      have k4 : 0 ≤ (k : Int) + 1 := by omega
      have k5 : k + 1 ≤ 64 := by omega
      have kw : IntKind.i64.wrap ((k : Int) + 1) = (k : Int) + 1 := by rw [IntKind.wrap_i64]; omega
      by_cases h4 : k % 4 = 0
      · obtain ⟨p, p32, h31, hiff, hcall⟩ := HLY.out k hlt h4
        have HC := Lib.hid hcall
        have h4I : ((k : Int) % 4 != 0) = false := by rw [show (k : Int) % 4 = 0 by omega]; rfl
        have pq : ((p.size : Int) != 32) = false := by rw [p32]; rfl
        have pI : (p.size : Int) = 32 := by omega
        clear hcall
        go_wp2
        refine wp_region_still_lit (by kernel_rfl) (by kernel_rfl) ?_
        repeat still_step
        refine wpStill_nil ?_
        change Exit.then _ _ _ _ wr.drew
        have hbd := hb.drew
        generalize wr.drew = wd at *
        generalize hS : u.extract 0 42 ++ ({ data := #[65, 66, 67, 68, 69, 70, 71, 72, 73, 74, 75, 76, 77, 78, 79, 80, 81, 82, 83, 84, 85, 86, 87, 88, 89, 90, 97, 98, 99, 100, 101, 102, 103, 104, 105, 106, 107, 108, 109, 110, 111, 112, 113, 114, 115, 116, 117, 118, 119, 120, 121, 122, 48, 49, 50, 51, 52, 53, 54, 55, 56, 57, 45, 95] } : ByteArray).extract k (k + 1) = S at *
        clear hS
        by_cases hq : S = u
        · obtain rfl := hiff.1 hq
          subst hq
          go_wp2_with (go_at_call 14; (with_reducible refine (HC.out _).mono ?_); rintro e w5 ⟨rfl, hb5⟩; have b5 := hbd.trans (hb5.mono hbd.size))
          refine wp_region_still_lit (by kernel_rfl) (by kernel_rfl) ?_
          repeat still_step
          refine wpStill_nil ?_
          change Exit.then _ _ _ _ w5.drew
          have b6 := b5.drew
          generalize w5.drew = w6 at *
          go_wp2
          go_roundw
          case rel => exact ⟨k + 1, by omega, by go_num, b6⟩
          case measure => simp [intOf]; omega
        · have l1 := (Lib.bytes_beq_false_iff _ _).2 hq
          have l2 := (Lib.bytes_beq_false_iff p d).2 (fun h => hq (hiff.2 h))
          clear hq hiff
          go_wp2_with (go_at_call 14; (with_reducible refine (HC.out _).mono ?_); rintro e w5 ⟨rfl, hb5⟩; have b5 := hbd.trans (hb5.mono hbd.size))
          refine wp_region_still_lit (by kernel_rfl) (by kernel_rfl) ?_
          repeat still_step
          refine wpStill_nil ?_
          change Exit.then _ _ _ _ w5.drew
          have b6 := b5.drew
          generalize w5.drew = w6 at *
          go_wp2
          go_roundw
          case rel => exact ⟨k + 1, by omega, by go_num, b6⟩
          case measure => simp [intOf]; omega
      · have HC := Lib.hid (HLN.out k hlt h4)
        have h4I : ((k : Int) % 4 != 0) = true := by rw [bne_iff_ne]; omega
        go_wp2
        refine wp_region_still_lit (by kernel_rfl) (by kernel_rfl) ?_
        repeat still_step
        refine wpStill_nil ?_
        change Exit.then _ _ _ _ wr.drew
        have hbd := hb.drew
        generalize wr.drew = wd at *
        go_wp2_with (go_at_call 14; (with_reducible refine (HC.out _ hbd).mono ?_); rintro e w5 ⟨rfl, hb5⟩; have b5 := hbd.trans (hb5.mono hbd.size))
        have b6 := b5.drew
        have hE5 : Errs w5.drew E := HE.out.below b6
        have v1 := hE5.v1
        have HN := Lib.hid (num_1 hE5)
        clear hE5
        go_region_held3 (fun w' => w'.cell? ⟨0, 0, none⟩ = some (.iface 92 (.pointer (some (E 1))))) (first | exact v1)
          ((go_at_call 15; (with_reducible refine HN.out.mono ?_); rintro e w7 ⟨rfl, rfl⟩))
        all_goals
          clear v1 HN
          generalize w5.drew = w6 at *
          go_wp2
          go_roundw
          case rel => exact ⟨k + 1, by omega, by go_num, b6⟩
          case measure => simp [intOf]; omega
    · obtain rfl : k = 64 := by omega
      rw [show (((64 : Nat)) : Int) = (64 : Int) from rfl]
      go_wp2
      go_ret
      exact ⟨rfl, hb⟩
end Go.Proofs.YtmkifaddfnodhaaDoor
