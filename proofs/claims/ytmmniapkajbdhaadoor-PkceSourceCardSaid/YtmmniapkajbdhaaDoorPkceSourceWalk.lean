/- P10.7, P10.8: two sources beside one another: every Push, every Fresh, every Left: walked. -/
import Derived.Test.YtmmniapkajbdhaaDoorPairOps
import Derived.Test.YtmmniapkajbdhaaDoorSrcFresh2
import Derived.Test.YtmmniapkajbdhaaDoorKitPick
import Derived.Deep.RegionHeld3
import Derived.Deep.AppendLies
namespace Go.Proofs.YtmmniapkajbdhaaDoor
open Go.RowKit
/-- what stands in the script at place i -/
structure Turn (w : World) (ba : Option Addr) (i : Nat) (who kd : Int) (t : ByteArray) : Prop where
  ex : ∃ sb so, ba = some ⟨sb, so, none⟩ ∧ w.cell? ⟨sb, so + i * 3, none⟩ = some (.int .i64 who) ∧ w.cell? ⟨sb, so + i * 3 + 1, none⟩ = some (.int .i64 kd) ∧ w.cell? ⟨sb, so + i * 3 + 2, none⟩ = some (.string t)
  who : (Lit.int .i64 who).wf = true
theorem two_funs (a b : Nat) : ∃ f : Nat → Nat, f 0 = a ∧ f 1 = b := ⟨fun i => if i = 0 then a else b, rfl, rfl⟩
theorem asked_id {w w' : World} {B g : Nat} {L : List (List (BitVec 8))} (h : Asked (fun a b => a = b) w w' B g L) : ∃ ba cap, Src w' B g ba cap L ∧ Keeps [g] w w' := by
  obtain ⟨w5, w6, ba, cap, hS, hK, rfl, hw⟩ := h
  rcases hw with rfl | rfl
  · exact ⟨ba, cap, hS, hK⟩
  · exact ⟨ba, cap, hS.drew, hK.trans (Keeps.of_below (Below.refl _ _).drew)⟩
theorem two_all {P : Nat → Prop} (h0 : P 0) (h1 : P 1) : ∀ i, i < 2 → P i := fun i hi => by
  match i, hi with
  | 0, _ => exact h0
  | 1, _ => exact h1
set_option maxHeartbeats 16000000 in
set_option maxRecDepth 100000 in
theorem pkceSource_walk {E : Nat → Addr} (pa : Option Addr) (n cap : Nat) (W : World) (hn : n ≤ 4398046510976) (who kd : Nat → Int) (txt : Nat → ByteArray) (hsc : ∀ i, i < n → Turn W pa i (who i) (kd i) (txt i)) (hE : Errs W E) :
    Calls Tryd.prog 5 #[.slice pa n cap] W fun e w' => e = .returned (.bool true) ∧ Below W.heap.size W w' := by
  have HSC := Lib.hid hsc
  have HE := Lib.hid hE
  clear hsc hE
  go_enter Tryd.func5, Tryd.ntmps5
  go_wp2_with fail
  go_at_call 11
  (with_reducible refine (newSource_any W W.heap.size).mono ?_); rintro e w1 ⟨rfl, hs0, hb1⟩
  have l01 := hs0.lt
  have HS0 := Lib.hid hs0
  clear hs0
  go_wp2_with fail
  go_at_call 11
  (with_reducible refine (newSource_any w1 W.heap.size).mono ?_); rintro e w2 ⟨rfl, hs1, hb2⟩
  have l12 := hs1.lt
  have HS1 := Lib.hid hs1
  clear hs1
  go_wp2_with fail
  go_at_call 12
  (with_reducible refine (rnew_any _ W.heap.size).mono ?_); rintro e w3 ⟨rfl, hr0, hb3⟩
  have l23 := hr0.lt
  simp only [World.size_alloc] at l23
  have HR0 := Lib.hid hr0
  clear hr0
  go_wp2_with fail
  go_at_call 12
  (with_reducible refine (rnew_any w3 W.heap.size).mono ?_); rintro e w4 ⟨rfl, hr1, hb4⟩
  have l34 := hr1.lt
  obtain ⟨gs, gs0, gs1⟩ := two_funs W.heap.size w1.heap.size
  obtain ⟨gr, gr0, gr1⟩ := two_funs (w2.heap.size + 1) w3.heap.size
  have b2 : Below W.heap.size W w2 := hb1.trans (hb2.mono hb1.size)
  have b3 : Below W.heap.size W w3 := (b2.alloc b2.size _).trans (hb3.mono (b2.alloc b2.size _).size)
  have b4 : Below W.heap.size W w4 := b3.trans (hb4.mono b3.size)
  have bV := (b4.alloc b4.size (.cells #[.pointer (some ⟨w2.heap.size + 1, 0, none⟩), .pointer (some ⟨w3.heap.size, 0, none⟩)] 33)).alloc (by have := b4.size; simp; omega) (.cells #[.slice none 0 0] 34)
  have HV : Hid (Pair ((w4.alloc (.cells #[.pointer (some ⟨w2.heap.size + 1, 0, none⟩), .pointer (some ⟨w3.heap.size, 0, none⟩)] 33)).alloc (.cells #[.slice none 0 0] 34)) W.heap.size gs gr w2.heap.size w4.heap.size (w4.heap.size + 1) (fun _ => none) (fun _ => none) (fun _ => 0) (fun _ => 0) (fun _ => []) (fun _ => []) none 0 []) := by
    have k23 : Below w2.heap.size w2 w3 := ((Below.refl _ _).alloc (Nat.le_refl _) _).trans (hb3.mono (by simp))
    have k24 : Below w2.heap.size w2 w4 := k23.trans (hb4.mono k23.size)
    have k4V : Below w4.heap.size w4 ((w4.alloc (.cells #[.pointer (some ⟨w2.heap.size + 1, 0, none⟩), .pointer (some ⟨w3.heap.size, 0, none⟩)] 33)).alloc (.cells #[.slice none 0 0] 34)) := ((Below.refl _ _).alloc (Nat.le_refl _) _).alloc (by simp) _
    have k2V : Below w2.heap.size w2 ((w4.alloc (.cells #[.pointer (some ⟨w2.heap.size + 1, 0, none⟩), .pointer (some ⟨w3.heap.size, 0, none⟩)] 33)).alloc (.cells #[.slice none 0 0] 34)) := k24.trans (k4V.mono k24.size)
    have k1V : Below w1.heap.size w1 ((w4.alloc (.cells #[.pointer (some ⟨w2.heap.size + 1, 0, none⟩), .pointer (some ⟨w3.heap.size, 0, none⟩)] 33)).alloc (.cells #[.slice none 0 0] 34)) := hb2.trans (k2V.mono hb2.size)
    have ba := Blk.new w2 30 [.pointer (some ⟨W.heap.size, 0, none⟩), .pointer (some ⟨w1.heap.size, 0, none⟩)]
    have bb := Blk.new w4 33 [.pointer (some ⟨w2.heap.size + 1, 0, none⟩), .pointer (some ⟨w3.heap.size, 0, none⟩)]
    have bq := Blk.new (w4.alloc (.cells #[.pointer (some ⟨w2.heap.size + 1, 0, none⟩), .pointer (some ⟨w3.heap.size, 0, none⟩)] 33)) 34 [.slice none 0 0]
    simp only [World.size_alloc] at bq
    have h0 := HR0.out
    simp only [World.size_alloc] at h0
    have n01 : gs 0 ≠ gs 1 := by omega
    have r01 : gr 0 ≠ gr 1 := by omega
    have ba3 := (ba.below hb3 ba.lt).below hb4 (ba.below hb3 ba.lt).lt
    rw [← gs0, ← gs1] at ba3
    rw [← gr0, ← gr1] at bb
    refine Lib.hid ⟨two_all (by rw [gs0]; exact (HS0.out.below hb2).below k2V) (by rw [gs1]; exact HS1.out.below k2V), two_all (by rw [gr0]; exact (h0.below hb4).below k4V) (by rw [gr1]; exact hr1.below k4V), ?_, ?_, bq, World.ownsRow_nil _ _ _ _, ?_, ?_, (fun _ _ _ _ _ k hk => by cases hk), (fun _ _ _ _ _ k hk => by cases hk), (fun _ _ k hk => by cases hk)⟩
    · exact (ba3.alloc _).alloc _
    · rw [gr0, gr1] at bb ⊢; exact bb.alloc _
    · intro i i' hi hi' hne
      match i, hi, i', hi' with
      | 0, _, 0, _ => exact absurd rfl hne
      | 0, _, 1, _ => exact n01
      | 1, _, 0, _ => exact n01.symm
      | 1, _, 1, _ => exact absurd rfl hne
    · intro i i' hi hi' hne
      match i, hi, i', hi' with
      | 0, _, 0, _ => exact absurd rfl hne
      | 0, _, 1, _ => exact r01
      | 1, _, 0, _ => exact r01.symm
      | 1, _, 1, _ => exact absurd rfl hne
  have hgs : ∀ i, i < 2 → W.heap.size ≤ gs i := two_all (by omega) (by omega)
  have hgr : ∀ i, i < 2 → W.heap.size ≤ gr i := two_all (by omega) (by omega)
  have hg4 : W.heap.size ≤ w4.heap.size := b4.size
  have HGS := Lib.hid hgs
  have HGR := Lib.hid hgr
  have x0 : (w4.alloc (.cells #[.pointer (some ⟨w2.heap.size + 1, 0, none⟩), .pointer (some ⟨w3.heap.size, 0, none⟩)] 33)).cell? ⟨w2.heap.size, 0, none⟩ = some (.pointer (some ⟨W.heap.size, 0, none⟩)) := by
    have ba := Blk.new w2 30 [.pointer (some ⟨W.heap.size, 0, none⟩), .pointer (some ⟨w1.heap.size, 0, none⟩)]
    exact ((((ba.below hb3 ba.lt).below hb4 (ba.below hb3 ba.lt).lt).alloc _).cell 0)
  have x1 : (w4.alloc (.cells #[.pointer (some ⟨w2.heap.size + 1, 0, none⟩), .pointer (some ⟨w3.heap.size, 0, none⟩)] 33)).cell? ⟨w2.heap.size, 1, none⟩ = some (.pointer (some ⟨w1.heap.size, 0, none⟩)) := by
    have ba := Blk.new w2 30 [.pointer (some ⟨W.heap.size, 0, none⟩), .pointer (some ⟨w1.heap.size, 0, none⟩)]
    exact ((((ba.below hb3 ba.lt).below hb4 (ba.below hb3 ba.lt).lt).alloc _).cell 1)
  clear hr1 HS0 HS1 HR0 hgs hgr gs0 gs1 gr0 gr1
  go_wp2
  go_loopw [6, 7, 8, 9, 10, 11, 12, 13, 14] (fun i _ _ _ _ _ _ _ _ wr => ∃ (k : Nat) (bs br : Nat → Option Addr) (cs cr : Nat → Nat) (L : Nat → List ByteArray) (vb : Option Addr) (vc : Nat) (S : List ByteArray), k ≤ n ∧ i = .int .i64 k ∧ (∀ i, i < 2 → (L i).length ≤ 1024) ∧ S.length ≤ k ∧ Below W.heap.size W wr ∧ Hid (Pair wr W.heap.size gs gr w2.heap.size w4.heap.size (w4.heap.size + 1) bs br cs cr L L vb vc S)) (fun i _ _ _ _ _ _ _ _ _ => n - (intOf i).toNat)
  case atStart => exact ⟨0, _, _, _, _, _, _, _, _, Nat.zero_le _, rfl, fun i _ => by simp, by simp, bV, HV⟩
  case round =>
    clear HV bV b2 b3 b4 hb1 hb2 hb3 hb4 x0 x1
    obtain ⟨k, bs, br, cs, cr, L, vb, vc, S, hk, rfl, hL, hSk, hb, HP⟩ := hrel
    have HL := Lib.hid hL
    clear hL
    by_cases hlt : k < n
    · obtain ⟨⟨sb, so, rfl, e0, e1, e2⟩, hwho⟩ := HSC.out k hlt
      have j0 : (0 : Int) ≤ (k : Int) := by omega
      have j1 : (k : Int) < (n : Int) := by omega
      have hm0 := Int.emod_nonneg (who k) (show (2 : Int) ≠ 0 by omega)
      have hm1 := Int.emod_lt_of_pos (who k) (show (0 : Int) < 2 by omega)
      have HPW0 := Lib.hid fun w' => kit_pick (who k) 2 w' hwho (by omega) (by omega)
      obtain ⟨j, hj, hj2⟩ : ∃ j : Nat, who k % 2 = (j : Int) ∧ j < 2 := ⟨(who k % 2).toNat, by omega, by omega⟩
      have HPW : Hid (∀ w', Calls Tryd.prog 13 #[.int .i64 (who k), .int .i64 2] w' fun e w2 => e = .returned (.int .i64 (j : Int)) ∧ w' = w2) := Lib.hid fun w' => by
        have h := HPW0.out w'
        rw [hj] at h
        exact h
      have i0 : (0 : Int) ≤ (j : Int) := by omega
      have i1 : (j : Int) < 2 := by omega
      clear HPW0 hj hm0 hm1 hwho
      generalize who k = wv at *
      generalize kd k = kv at *
      generalize txt k = x at *
      have E2 := Lib.hid (cell_below e2 (Below.refl _ _))
      have hbk := hb.alloc hb.size (.cells #[.int .i64 kv] 3)
      have HPK := Lib.hid (HP.out.below ((Below.refl _ _).alloc (Nat.le_refl _) (.cells #[.int .i64 kv] 3)))
      have HKB := Lib.hid (Blk.new wr 3 [.int .i64 kv])
      have c0 := cell_below e0 hb
      have c1 := cell_below e1 hb
      clear e0 e1 e2 HP hb
      by_cases hk0 : kv = 0
      · subst hk0
        by_cases h32 : x.size = 32
        · by_cases hmany : (L j).length < 1024
          · -- the draw is pushed
            go_wp2_with (go_at_call 13; (with_reducible refine (HPW.out _).mono ?_); rintro e w5 ⟨rfl, rfl⟩)
            generalize wr.alloc (.cells #[.int .i64 0] 3) = wk at *
            clear c0 c1 HPW
            have hjl : (L j).length < 1024 := hmany
            have HPU := Lib.hid (push_yes x ((HPK.out.s j hj2).below (Below.refl _ _).drew) h32 (by rw [List.length_map]; omega) hbk.drew.size)
            have S0 : wk.drew.cell? ⟨w2.heap.size, j, none⟩ = some (.pointer (some ⟨gs j, 0, none⟩)) ∧ wk.drew.cell? ⟨sb, so + k * 3 + 2, none⟩ = some (.string x) := ⟨HPK.out.ca j hj2, cell_below E2.out hbk.drew⟩
            go_region_held3 (fun w' => w'.cell? ⟨w2.heap.size, j, none⟩ = some (.pointer (some ⟨gs j, 0, none⟩)) ∧ w'.cell? ⟨sb, so + k * 3 + 2, none⟩ = some (.string x)) (first | exact S0 | exact S1)
              ((go_at_call 14; (with_reducible refine HPU.out.mono ?_); rintro e w5 ⟨rfl, ht⟩
                obtain ⟨hbb5, hkb5, ba5, cap5, hP5⟩ := (HPK.out.below (Below.refl _ _).drew).pushS j hj2 x ht (HGS.out j hj2) hbk.drew.size
                have hb5 := hbk.drew.trans hbb5
                have S1 : w5.cell? ⟨w2.heap.size, j, none⟩ = some (.pointer (some ⟨gs j, 0, none⟩)) ∧ w5.cell? ⟨sb, so + k * 3 + 2, none⟩ = some (.string x) := ⟨hP5.ca j hj2, cell_below E2.out hb5⟩))
            have HP5 := Lib.hid hP5
            have HK5 := Lib.hid (hkb5 (HKB.out.below (Below.refl _ _).drew HKB.out.lt) (by decide) (by decide))
            clear S0 S1 HPU ht hbb5 hP5 HPK hbk hkb5 HKB
            go_wp2
            have HRU := Lib.hid (rpush_yes x ((HP5.out.r j hj2).below (Below.refl _ _).drew) h32 hjl hb5.drew.size)
            have HNU := Lib.hid (num_nil w5.drew)
            have T0 : w5.drew.cell? ⟨w4.heap.size, j, none⟩ = some (.pointer (some ⟨gr j, 0, none⟩)) ∧ w5.drew.cell? ⟨sb, so + k * 3 + 2, none⟩ = some (.string x) := ⟨HP5.out.cb j hj2, cell_below E2.out hb5.drew⟩
            go_region_held3 (fun w' => w'.cell? ⟨w4.heap.size, j, none⟩ = some (.pointer (some ⟨gr j, 0, none⟩)) ∧ w'.cell? ⟨sb, so + k * 3 + 2, none⟩ = some (.string x)) (first | exact T0 | exact T1)
              (first
                | (go_at_call 15; (with_reducible refine HNU.out.mono ?_); rintro e w6 ⟨rfl, rfl⟩)
                | (go_at_call 16; (with_reducible refine HRU.out.mono ?_); rintro e w7 ⟨rfl, ht⟩
                   obtain ⟨hbb7, hkb7, ba7, cap7, hP7⟩ := (HP5.out.below (Below.refl _ _).drew).pushR j hj2 x ht (HGR.out j hj2) hb5.drew.size
                   have hb7 := hb5.drew.trans hbb7
                   have T1 : w7.cell? ⟨w4.heap.size, j, none⟩ = some (.pointer (some ⟨gr j, 0, none⟩)) ∧ w7.cell? ⟨sb, so + k * 3 + 2, none⟩ = some (.string x) := ⟨hP7.cb j hj2, cell_below E2.out hb7⟩))
            have HP7 := Lib.hid hP7
            have ck : w7.cell? ⟨wr.heap.size, 0, none⟩ = some (.int .i64 0) := (hkb7 (HK5.out.below (Below.refl _ _).drew HK5.out.lt) (by decide) (by decide)).cell 0
            clear T0 T1 HRU HNU ht hbb7 hP7 HP5 hb5 hkb7 HK5 h32
            go_wp2
            clear ck
            obtain ⟨LZ, hLZ⟩ : ∃ LZ, LZ = (upd L j (L j ++ [x])) := ⟨_, rfl⟩
            have HLZ : Hid (∀ i, i < 2 → (LZ i).length ≤ 1024) := Lib.hid (by rw [hLZ]; exact upd_le HL.out (by rw [List.length_append]; simp; omega))
            rw [← hLZ] at HP7
            clear hLZ
            have HF0 : Hid (Calls Tryd.prog 21 #[.pointer (some ⟨gs 0, 0, none⟩)] w7.drew fun e w2 => e = .returned (.int .i64 ((LZ 0).length : Int)) ∧ w7.drew = w2) := Lib.hid (by have h := left_any ((HP7.out.s 0 (by omega)).below (Below.refl _ _).drew); rwa [List.length_map] at h)
            have HF1 : Hid (Calls Tryd.prog 21 #[.pointer (some ⟨gs 1, 0, none⟩)] w7.drew fun e w2 => e = .returned (.int .i64 ((LZ 1).length : Int)) ∧ w7.drew = w2) := Lib.hid (by have h := left_any ((HP7.out.s 1 (by omega)).below (Below.refl _ _).drew); rwa [List.length_map] at h)
            have HF2 := Lib.hid (rleft_any ((HP7.out.r 0 (by omega)).below (Below.refl _ _).drew))
            have HF3 := Lib.hid (rleft_any ((HP7.out.r 1 (by omega)).below (Below.refl _ _).drew))
            have Z0 : w7.drew.cell? ⟨w2.heap.size, 0, none⟩ = some (.pointer (some ⟨gs 0, 0, none⟩)) ∧ w7.drew.cell? ⟨w2.heap.size, 1, none⟩ = some (.pointer (some ⟨gs 1, 0, none⟩)) ∧ w7.drew.cell? ⟨w4.heap.size, 0, none⟩ = some (.pointer (some ⟨gr 0, 0, none⟩)) ∧ w7.drew.cell? ⟨w4.heap.size, 1, none⟩ = some (.pointer (some ⟨gr 1, 0, none⟩)) := ⟨HP7.out.ca 0 (by omega), HP7.out.ca 1 (by omega), HP7.out.cb 0 (by omega), HP7.out.cb 1 (by omega)⟩
            go_region_held3 (fun w' => w'.cell? ⟨w2.heap.size, 0, none⟩ = some (.pointer (some ⟨gs 0, 0, none⟩)) ∧ w'.cell? ⟨w2.heap.size, 1, none⟩ = some (.pointer (some ⟨gs 1, 0, none⟩)) ∧ w'.cell? ⟨w4.heap.size, 0, none⟩ = some (.pointer (some ⟨gr 0, 0, none⟩)) ∧ w'.cell? ⟨w4.heap.size, 1, none⟩ = some (.pointer (some ⟨gr 1, 0, none⟩))) (exact Z0)
              (first
                | (go_at_call 21; (with_reducible refine HF0.out.mono ?_); rintro e w20 ⟨rfl, rfl⟩)
                | (go_at_call 22; (with_reducible refine HF2.out.mono ?_); rintro e w21 ⟨rfl, rfl⟩)
                | (go_at_call 21; (with_reducible refine HF1.out.mono ?_); rintro e w22 ⟨rfl, rfl⟩)
                | (go_at_call 22; (with_reducible refine HF3.out.mono ?_); rintro e w23 ⟨rfl, rfl⟩))
            have hbz := hb7.drew
            have HPZ := Lib.hid (HP7.out.below (Below.refl _ _).drew)
            clear Z0 HF0 HF1 HF2 HF3 HP7 hb7
            generalize w7.drew = wz at *
            go_wp2
            go_roundw
            case rel => exact ⟨k + 1, _, _, _, _, LZ, _, _, _, by omega, by go_num, HLZ.out, by omega, hbz, HPZ⟩
            case measure => simp [intOf]; omega
          · -- too many wait
            go_wp2_with (go_at_call 13; (with_reducible refine (HPW.out _).mono ?_); rintro e w5 ⟨rfl, rfl⟩)
            generalize wr.alloc (.cells #[.int .i64 0] 3) = wk at *
            clear c0 c1 HPW
            have HPU := Lib.hid (push_many x ((HPK.out.s j hj2).below (Below.refl _ _).drew) (HE.out.below hbk.drew) h32 (by rw [List.length_map]; omega))
            have hbd := hbk.drew
            have HPD := Lib.hid (HPK.out.below (Below.refl _ _).drew)
            have HKD := Lib.hid (HKB.out.below (Below.refl _ _).drew HKB.out.lt)
            have S0 : wk.drew.cell? ⟨w2.heap.size, j, none⟩ = some (.pointer (some ⟨gs j, 0, none⟩)) ∧ wk.drew.cell? ⟨sb, so + k * 3 + 2, none⟩ = some (.string x) := ⟨HPD.out.ca j hj2, cell_below E2.out hbd⟩
            go_region_held3 (fun w' => w'.cell? ⟨w2.heap.size, j, none⟩ = some (.pointer (some ⟨gs j, 0, none⟩)) ∧ w'.cell? ⟨sb, so + k * 3 + 2, none⟩ = some (.string x)) (first | exact S0)
              ((go_at_call 14; (with_reducible refine HPU.out.mono ?_); rintro e w5 ⟨rfl, rfl⟩))
            clear S0 HPU HPK HKB hbk
            generalize wk.drew = wd at *
            go_wp2
            have HNU := Lib.hid (num_2 (HE.out.below hbd.drew))
            have HRU := Lib.hid (rpush_many x ((HPD.out.r j hj2).below (Below.refl _ _).drew) h32 (by omega))
            have T0 : wd.drew.cell? ⟨w4.heap.size, j, none⟩ = some (.pointer (some ⟨gr j, 0, none⟩)) ∧ wd.drew.cell? ⟨sb, so + k * 3 + 2, none⟩ = some (.string x) := ⟨HPD.out.cb j hj2, cell_below E2.out hbd.drew⟩
            go_region_held3 (fun w' => w'.cell? ⟨w4.heap.size, j, none⟩ = some (.pointer (some ⟨gr j, 0, none⟩)) ∧ w'.cell? ⟨sb, so + k * 3 + 2, none⟩ = some (.string x)) (first | exact T0)
              (first
                | (go_at_call 15; (with_reducible refine HNU.out.mono ?_); rintro e w6 ⟨rfl, rfl⟩)
                | (go_at_call 16; (with_reducible refine HRU.out.mono ?_); rintro e w6 ⟨rfl, rfl⟩))
            have hbe := hbd.drew
            have HPE := Lib.hid (HPD.out.below (Below.refl _ _).drew)
            have ck : wd.drew.cell? ⟨wr.heap.size, 0, none⟩ = some (.int .i64 0) := HKD.out.cell 0
            clear T0 HNU HRU HPD HKD hbd h32
            generalize wd.drew = we at *
            go_wp2
            clear ck
            obtain ⟨LZ, hLZ⟩ : ∃ LZ, LZ = L := ⟨_, rfl⟩
            have HLZ : Hid (∀ i, i < 2 → (LZ i).length ≤ 1024) := Lib.hid (by rw [hLZ]; exact HL.out)
            rw [← hLZ] at HPE
            clear hLZ
            have HF0 : Hid (Calls Tryd.prog 21 #[.pointer (some ⟨gs 0, 0, none⟩)] we.drew fun e w2 => e = .returned (.int .i64 ((LZ 0).length : Int)) ∧ we.drew = w2) := Lib.hid (by have h := left_any ((HPE.out.s 0 (by omega)).below (Below.refl _ _).drew); rwa [List.length_map] at h)
            have HF1 : Hid (Calls Tryd.prog 21 #[.pointer (some ⟨gs 1, 0, none⟩)] we.drew fun e w2 => e = .returned (.int .i64 ((LZ 1).length : Int)) ∧ we.drew = w2) := Lib.hid (by have h := left_any ((HPE.out.s 1 (by omega)).below (Below.refl _ _).drew); rwa [List.length_map] at h)
            have HF2 := Lib.hid (rleft_any ((HPE.out.r 0 (by omega)).below (Below.refl _ _).drew))
            have HF3 := Lib.hid (rleft_any ((HPE.out.r 1 (by omega)).below (Below.refl _ _).drew))
            have Z0 : we.drew.cell? ⟨w2.heap.size, 0, none⟩ = some (.pointer (some ⟨gs 0, 0, none⟩)) ∧ we.drew.cell? ⟨w2.heap.size, 1, none⟩ = some (.pointer (some ⟨gs 1, 0, none⟩)) ∧ we.drew.cell? ⟨w4.heap.size, 0, none⟩ = some (.pointer (some ⟨gr 0, 0, none⟩)) ∧ we.drew.cell? ⟨w4.heap.size, 1, none⟩ = some (.pointer (some ⟨gr 1, 0, none⟩)) := ⟨HPE.out.ca 0 (by omega), HPE.out.ca 1 (by omega), HPE.out.cb 0 (by omega), HPE.out.cb 1 (by omega)⟩
            go_region_held3 (fun w' => w'.cell? ⟨w2.heap.size, 0, none⟩ = some (.pointer (some ⟨gs 0, 0, none⟩)) ∧ w'.cell? ⟨w2.heap.size, 1, none⟩ = some (.pointer (some ⟨gs 1, 0, none⟩)) ∧ w'.cell? ⟨w4.heap.size, 0, none⟩ = some (.pointer (some ⟨gr 0, 0, none⟩)) ∧ w'.cell? ⟨w4.heap.size, 1, none⟩ = some (.pointer (some ⟨gr 1, 0, none⟩))) (exact Z0)
              (first
                | (go_at_call 21; (with_reducible refine HF0.out.mono ?_); rintro e w20 ⟨rfl, rfl⟩)
                | (go_at_call 22; (with_reducible refine HF2.out.mono ?_); rintro e w21 ⟨rfl, rfl⟩)
                | (go_at_call 21; (with_reducible refine HF1.out.mono ?_); rintro e w22 ⟨rfl, rfl⟩)
                | (go_at_call 22; (with_reducible refine HF3.out.mono ?_); rintro e w23 ⟨rfl, rfl⟩))
            have hbz := hbe.drew
            have HPZ := Lib.hid (HPE.out.below (Below.refl _ _).drew)
            clear Z0 HF0 HF1 HF2 HF3 HPE hbe
            generalize we.drew = wz at *
            go_wp2
            go_roundw
            case rel => exact ⟨k + 1, _, _, _, _, LZ, _, _, _, by omega, by go_num, HLZ.out, by omega, hbz, HPZ⟩
            case measure => simp [intOf]; omega
        · -- no draw
          go_wp2_with (go_at_call 13; (with_reducible refine (HPW.out _).mono ?_); rintro e w5 ⟨rfl, rfl⟩)
          generalize wr.alloc (.cells #[.int .i64 0] 3) = wk at *
          clear c0 c1 HPW
          have HPU := Lib.hid (push_len x (gs j) wk.drew (HE.out.below hbk.drew) h32)
          have hbd := hbk.drew
          have HPD := Lib.hid (HPK.out.below (Below.refl _ _).drew)
          have HKD := Lib.hid (HKB.out.below (Below.refl _ _).drew HKB.out.lt)
          have S0 : wk.drew.cell? ⟨w2.heap.size, j, none⟩ = some (.pointer (some ⟨gs j, 0, none⟩)) ∧ wk.drew.cell? ⟨sb, so + k * 3 + 2, none⟩ = some (.string x) := ⟨HPD.out.ca j hj2, cell_below E2.out hbd⟩
          go_region_held3 (fun w' => w'.cell? ⟨w2.heap.size, j, none⟩ = some (.pointer (some ⟨gs j, 0, none⟩)) ∧ w'.cell? ⟨sb, so + k * 3 + 2, none⟩ = some (.string x)) (first | exact S0)
            ((go_at_call 14; (with_reducible refine HPU.out.mono ?_); rintro e w5 ⟨rfl, rfl⟩))
          clear S0 HPU HPK HKB hbk
          generalize wk.drew = wd at *
          go_wp2
          have HNU := Lib.hid (num_0 (HE.out.below hbd.drew))
          have HRU := Lib.hid (rpush_len x (gr j) wd.drew h32)
          have T0 : wd.drew.cell? ⟨w4.heap.size, j, none⟩ = some (.pointer (some ⟨gr j, 0, none⟩)) ∧ wd.drew.cell? ⟨sb, so + k * 3 + 2, none⟩ = some (.string x) := ⟨HPD.out.cb j hj2, cell_below E2.out hbd.drew⟩
          go_region_held3 (fun w' => w'.cell? ⟨w4.heap.size, j, none⟩ = some (.pointer (some ⟨gr j, 0, none⟩)) ∧ w'.cell? ⟨sb, so + k * 3 + 2, none⟩ = some (.string x)) (first | exact T0)
            (first
              | (go_at_call 15; (with_reducible refine HNU.out.mono ?_); rintro e w6 ⟨rfl, rfl⟩)
              | (go_at_call 16; (with_reducible refine HRU.out.mono ?_); rintro e w6 ⟨rfl, rfl⟩))
          have hbe := hbd.drew
          have HPE := Lib.hid (HPD.out.below (Below.refl _ _).drew)
          have ck : wd.drew.cell? ⟨wr.heap.size, 0, none⟩ = some (.int .i64 0) := HKD.out.cell 0
          clear T0 HNU HRU HPD HKD hbd h32
          generalize wd.drew = we at *
          go_wp2
          clear ck
          obtain ⟨LZ, hLZ⟩ : ∃ LZ, LZ = L := ⟨_, rfl⟩
          have HLZ : Hid (∀ i, i < 2 → (LZ i).length ≤ 1024) := Lib.hid (by rw [hLZ]; exact HL.out)
          rw [← hLZ] at HPE
          clear hLZ
          have HF0 : Hid (Calls Tryd.prog 21 #[.pointer (some ⟨gs 0, 0, none⟩)] we.drew fun e w2 => e = .returned (.int .i64 ((LZ 0).length : Int)) ∧ we.drew = w2) := Lib.hid (by have h := left_any ((HPE.out.s 0 (by omega)).below (Below.refl _ _).drew); rwa [List.length_map] at h)
          have HF1 : Hid (Calls Tryd.prog 21 #[.pointer (some ⟨gs 1, 0, none⟩)] we.drew fun e w2 => e = .returned (.int .i64 ((LZ 1).length : Int)) ∧ we.drew = w2) := Lib.hid (by have h := left_any ((HPE.out.s 1 (by omega)).below (Below.refl _ _).drew); rwa [List.length_map] at h)
          have HF2 := Lib.hid (rleft_any ((HPE.out.r 0 (by omega)).below (Below.refl _ _).drew))
          have HF3 := Lib.hid (rleft_any ((HPE.out.r 1 (by omega)).below (Below.refl _ _).drew))
          have Z0 : we.drew.cell? ⟨w2.heap.size, 0, none⟩ = some (.pointer (some ⟨gs 0, 0, none⟩)) ∧ we.drew.cell? ⟨w2.heap.size, 1, none⟩ = some (.pointer (some ⟨gs 1, 0, none⟩)) ∧ we.drew.cell? ⟨w4.heap.size, 0, none⟩ = some (.pointer (some ⟨gr 0, 0, none⟩)) ∧ we.drew.cell? ⟨w4.heap.size, 1, none⟩ = some (.pointer (some ⟨gr 1, 0, none⟩)) := ⟨HPE.out.ca 0 (by omega), HPE.out.ca 1 (by omega), HPE.out.cb 0 (by omega), HPE.out.cb 1 (by omega)⟩
          go_region_held3 (fun w' => w'.cell? ⟨w2.heap.size, 0, none⟩ = some (.pointer (some ⟨gs 0, 0, none⟩)) ∧ w'.cell? ⟨w2.heap.size, 1, none⟩ = some (.pointer (some ⟨gs 1, 0, none⟩)) ∧ w'.cell? ⟨w4.heap.size, 0, none⟩ = some (.pointer (some ⟨gr 0, 0, none⟩)) ∧ w'.cell? ⟨w4.heap.size, 1, none⟩ = some (.pointer (some ⟨gr 1, 0, none⟩))) (exact Z0)
            (first
              | (go_at_call 21; (with_reducible refine HF0.out.mono ?_); rintro e w20 ⟨rfl, rfl⟩)
              | (go_at_call 22; (with_reducible refine HF2.out.mono ?_); rintro e w21 ⟨rfl, rfl⟩)
              | (go_at_call 21; (with_reducible refine HF1.out.mono ?_); rintro e w22 ⟨rfl, rfl⟩)
              | (go_at_call 22; (with_reducible refine HF3.out.mono ?_); rintro e w23 ⟨rfl, rfl⟩))
          have hbz := hbe.drew
          have HPZ := Lib.hid (HPE.out.below (Below.refl _ _).drew)
          clear Z0 HF0 HF1 HF2 HF3 HPE hbe
          generalize we.drew = wz at *
          go_wp2
          go_roundw
          case rel => exact ⟨k + 1, _, _, _, _, LZ, _, _, _, by omega, by go_num, HLZ.out, by omega, hbz, HPZ⟩
          case measure => simp [intOf]; omega
      · have q0 : (kv == 0) = false := by rw [beq_eq_false_iff_ne]; exact hk0
        by_cases h14 : 1 ≤ kv ∧ kv ≤ 4
        · obtain ⟨h1, h2⟩ := h14
          have q1 : decide ((1 : Int) ≤ kv) = true := decide_eq_true h1
          have q2 : decide (kv ≤ 4) = true := decide_eq_true h2
          rcases hLj : L j with _ | ⟨x0, R⟩
          · by_cases h4 : kv = 4
            · subst h4
              clear q0 q1 q2 hk0 h1 h2
              have c3 : (wr.alloc (.cells #[.int .i64 4] 3)).cell? ⟨w2.heap.size, j, none⟩ = some (.pointer (some ⟨gs j, 0, none⟩)) := HPK.out.ca j hj2
              have HFR := Lib.hid (fresh_dry (E := E) (.nilFunc) (by have h := HPK.out.s j hj2; rw [hLj] at h; exact h) (HE.out.below hbk))
              go_wp2_with (first
                | (go_at_call 13; (with_reducible refine (HPW.out _).mono ?_); rintro e w5 ⟨rfl, rfl⟩)
                | (go_at_call 19; (with_reducible refine HFR.out.mono ?_); rintro e w5 ⟨rfl, ha5⟩
                   have hb5 := hbk.trans (ha5.mono hbk.size)
                   have HP5 := Lib.hid (HPK.out.below ha5)
                   have HK5 := Lib.hid (HKB.out.below ha5 HKB.out.lt)))
              clear c0 c1 c3 HPW HFR HPK HKB hbk ha5
              have HDR := Lib.hid (drawn_dry 4 (.slice vb S.length vc) (by have h := (HP5.out.r j hj2).below (Below.refl _ _).drew; rw [hLj] at h; exact h))
              have hb5d := hb5.drew
              have HPd := Lib.hid (HP5.out.below (Below.refl _ _).drew)
              have HKd := Lib.hid (HK5.out.below (Below.refl _ _).drew HK5.out.lt)
              have T0 : w5.drew.cell? ⟨w4.heap.size, j, none⟩ = some (.pointer (some ⟨gr j, 0, none⟩)) ∧ w5.drew.cell? ⟨wr.heap.size, 0, none⟩ = some (.int .i64 4) ∧ w5.drew.cell? ⟨w4.heap.size + 1, 0, none⟩ = some (.slice vb S.length vc) := ⟨HP5.out.cb j hj2, HK5.out.cell 0, HP5.out.cq⟩
              go_region_held3 (fun w' => w'.cell? ⟨w4.heap.size, j, none⟩ = some (.pointer (some ⟨gr j, 0, none⟩)) ∧ w'.cell? ⟨wr.heap.size, 0, none⟩ = some (.int .i64 4) ∧ w'.cell? ⟨w4.heap.size + 1, 0, none⟩ = some (.slice vb S.length vc)) (first | exact T0 | exact T1)
                ((go_at_call 20; (with_reducible refine HDR.out.mono ?_); rintro e w7 ⟨rfl, rfl⟩
                  have hb7 := hb5d
                  have HP7 := HPd
                  have HK7 := HKd
                  have T1 : w5.drew.cell? ⟨w4.heap.size, j, none⟩ = some (.pointer (some ⟨gr j, 0, none⟩)) ∧ w5.drew.cell? ⟨wr.heap.size, 0, none⟩ = some (.int .i64 4) ∧ w5.drew.cell? ⟨w4.heap.size + 1, 0, none⟩ = some (.slice vb S.length vc) := ⟨HP7.out.cb j hj2, HK7.out.cell 0, HP7.out.cq⟩))
              clear T0 T1 HDR
              have HNU := Lib.hid (num_6 (HE.out.below hb7))
              clear HP5 hb5 HPd HKd hb5d HK5 HK7
              generalize w5.drew = w9 at *
              go_wp2_with (go_at_call 15; (with_reducible refine HNU.out.mono ?_); rintro e w8 ⟨rfl, rfl⟩)
              clear HNU
              obtain ⟨LZ, hLZ⟩ : ∃ LZ, LZ = L := ⟨_, rfl⟩
              have HLZ : Hid (∀ i, i < 2 → (LZ i).length ≤ 1024) := Lib.hid (by rw [hLZ]; exact HL.out)
              rw [← hLZ] at HP7
              clear hLZ
              have HF0 : Hid (Calls Tryd.prog 21 #[.pointer (some ⟨gs 0, 0, none⟩)] w9.drew fun e w2 => e = .returned (.int .i64 ((LZ 0).length : Int)) ∧ w9.drew = w2) := Lib.hid (by have h := left_any ((HP7.out.s 0 (by omega)).below (Below.refl _ _).drew); rwa [List.length_map] at h)
              have HF1 : Hid (Calls Tryd.prog 21 #[.pointer (some ⟨gs 1, 0, none⟩)] w9.drew fun e w2 => e = .returned (.int .i64 ((LZ 1).length : Int)) ∧ w9.drew = w2) := Lib.hid (by have h := left_any ((HP7.out.s 1 (by omega)).below (Below.refl _ _).drew); rwa [List.length_map] at h)
              have HF2 := Lib.hid (rleft_any ((HP7.out.r 0 (by omega)).below (Below.refl _ _).drew))
              have HF3 := Lib.hid (rleft_any ((HP7.out.r 1 (by omega)).below (Below.refl _ _).drew))
              have Z0 : w9.drew.cell? ⟨w2.heap.size, 0, none⟩ = some (.pointer (some ⟨gs 0, 0, none⟩)) ∧ w9.drew.cell? ⟨w2.heap.size, 1, none⟩ = some (.pointer (some ⟨gs 1, 0, none⟩)) ∧ w9.drew.cell? ⟨w4.heap.size, 0, none⟩ = some (.pointer (some ⟨gr 0, 0, none⟩)) ∧ w9.drew.cell? ⟨w4.heap.size, 1, none⟩ = some (.pointer (some ⟨gr 1, 0, none⟩)) := ⟨HP7.out.ca 0 (by omega), HP7.out.ca 1 (by omega), HP7.out.cb 0 (by omega), HP7.out.cb 1 (by omega)⟩
              go_region_held3 (fun w' => w'.cell? ⟨w2.heap.size, 0, none⟩ = some (.pointer (some ⟨gs 0, 0, none⟩)) ∧ w'.cell? ⟨w2.heap.size, 1, none⟩ = some (.pointer (some ⟨gs 1, 0, none⟩)) ∧ w'.cell? ⟨w4.heap.size, 0, none⟩ = some (.pointer (some ⟨gr 0, 0, none⟩)) ∧ w'.cell? ⟨w4.heap.size, 1, none⟩ = some (.pointer (some ⟨gr 1, 0, none⟩))) (exact Z0)
                (first
                  | (go_at_call 21; (with_reducible refine HF0.out.mono ?_); rintro e w20 ⟨rfl, rfl⟩)
                  | (go_at_call 22; (with_reducible refine HF2.out.mono ?_); rintro e w21 ⟨rfl, rfl⟩)
                  | (go_at_call 21; (with_reducible refine HF1.out.mono ?_); rintro e w22 ⟨rfl, rfl⟩)
                  | (go_at_call 22; (with_reducible refine HF3.out.mono ?_); rintro e w23 ⟨rfl, rfl⟩))
              have hbz := hb7.drew
              have HPZ := Lib.hid (HP7.out.below (Below.refl _ _).drew)
              clear Z0 HF0 HF1 HF2 HF3 HP7 hb7
              generalize w9.drew = wz at *
              go_wp2
              go_roundw
              case rel => exact ⟨k + 1, _, _, _, _, LZ, _, _, _, by omega, by go_num, HLZ.out, by omega, hbz, HPZ⟩
              case measure => simp [intOf]; omega
            · have q4 : decide (kv < 4) = true := decide_eq_true (by omega)
              have q4b : kv < 4 := by omega
              have c3 : (wr.alloc (.cells #[.int .i64 kv] 3)).cell? ⟨w2.heap.size, j, none⟩ = some (.pointer (some ⟨gs j, 0, none⟩)) := HPK.out.ca j hj2
              have HFR := Lib.hid (fresh_dry (E := E) (.func (.func 17) #[] #[.pointer (some ⟨wr.heap.size, 0, none⟩), .pointer (some ⟨w4.heap.size + 1, 0, none⟩)]) (by have h := HPK.out.s j hj2; rw [hLj] at h; exact h) (HE.out.below hbk))
              go_wp2_with (first
                | (go_at_call 13; (with_reducible refine (HPW.out _).mono ?_); rintro e w5 ⟨rfl, rfl⟩)
                | (go_at_call 19; (with_reducible refine HFR.out.mono ?_); rintro e w5 ⟨rfl, ha5⟩
                   have hb5 := hbk.trans (ha5.mono hbk.size)
                   have HP5 := Lib.hid (HPK.out.below ha5)
                   have HK5 := Lib.hid (HKB.out.below ha5 HKB.out.lt)))
              clear c0 c1 c3 HPW HFR HPK HKB hbk ha5
              have HDR := Lib.hid (drawn_dry kv (.slice vb S.length vc) (by have h := (HP5.out.r j hj2).below (Below.refl _ _).drew; rw [hLj] at h; exact h))
              have hb5d := hb5.drew
              have HPd := Lib.hid (HP5.out.below (Below.refl _ _).drew)
              have HKd := Lib.hid (HK5.out.below (Below.refl _ _).drew HK5.out.lt)
              have T0 : w5.drew.cell? ⟨w4.heap.size, j, none⟩ = some (.pointer (some ⟨gr j, 0, none⟩)) ∧ w5.drew.cell? ⟨wr.heap.size, 0, none⟩ = some (.int .i64 kv) ∧ w5.drew.cell? ⟨w4.heap.size + 1, 0, none⟩ = some (.slice vb S.length vc) := ⟨HP5.out.cb j hj2, HK5.out.cell 0, HP5.out.cq⟩
              go_region_held3 (fun w' => w'.cell? ⟨w4.heap.size, j, none⟩ = some (.pointer (some ⟨gr j, 0, none⟩)) ∧ w'.cell? ⟨wr.heap.size, 0, none⟩ = some (.int .i64 kv) ∧ w'.cell? ⟨w4.heap.size + 1, 0, none⟩ = some (.slice vb S.length vc)) (first | exact T0 | exact T1)
                ((go_at_call 20; (with_reducible refine HDR.out.mono ?_); rintro e w7 ⟨rfl, rfl⟩
                  have hb7 := hb5d
                  have HP7 := HPd
                  have HK7 := HKd
                  have T1 : w5.drew.cell? ⟨w4.heap.size, j, none⟩ = some (.pointer (some ⟨gr j, 0, none⟩)) ∧ w5.drew.cell? ⟨wr.heap.size, 0, none⟩ = some (.int .i64 kv) ∧ w5.drew.cell? ⟨w4.heap.size + 1, 0, none⟩ = some (.slice vb S.length vc) := ⟨HP7.out.cb j hj2, HK7.out.cell 0, HP7.out.cq⟩))
              clear T0 T1 HDR
              have HNU := Lib.hid (num_6 (HE.out.below hb7))
              clear HP5 hb5 HPd HKd hb5d HK5 HK7
              generalize w5.drew = w9 at *
              go_wp2_with (go_at_call 15; (with_reducible refine HNU.out.mono ?_); rintro e w8 ⟨rfl, rfl⟩)
              clear HNU
              obtain ⟨LZ, hLZ⟩ : ∃ LZ, LZ = L := ⟨_, rfl⟩
              have HLZ : Hid (∀ i, i < 2 → (LZ i).length ≤ 1024) := Lib.hid (by rw [hLZ]; exact HL.out)
              rw [← hLZ] at HP7
              clear hLZ
              have HF0 : Hid (Calls Tryd.prog 21 #[.pointer (some ⟨gs 0, 0, none⟩)] w9.drew fun e w2 => e = .returned (.int .i64 ((LZ 0).length : Int)) ∧ w9.drew = w2) := Lib.hid (by have h := left_any ((HP7.out.s 0 (by omega)).below (Below.refl _ _).drew); rwa [List.length_map] at h)
              have HF1 : Hid (Calls Tryd.prog 21 #[.pointer (some ⟨gs 1, 0, none⟩)] w9.drew fun e w2 => e = .returned (.int .i64 ((LZ 1).length : Int)) ∧ w9.drew = w2) := Lib.hid (by have h := left_any ((HP7.out.s 1 (by omega)).below (Below.refl _ _).drew); rwa [List.length_map] at h)
              have HF2 := Lib.hid (rleft_any ((HP7.out.r 0 (by omega)).below (Below.refl _ _).drew))
              have HF3 := Lib.hid (rleft_any ((HP7.out.r 1 (by omega)).below (Below.refl _ _).drew))
              have Z0 : w9.drew.cell? ⟨w2.heap.size, 0, none⟩ = some (.pointer (some ⟨gs 0, 0, none⟩)) ∧ w9.drew.cell? ⟨w2.heap.size, 1, none⟩ = some (.pointer (some ⟨gs 1, 0, none⟩)) ∧ w9.drew.cell? ⟨w4.heap.size, 0, none⟩ = some (.pointer (some ⟨gr 0, 0, none⟩)) ∧ w9.drew.cell? ⟨w4.heap.size, 1, none⟩ = some (.pointer (some ⟨gr 1, 0, none⟩)) := ⟨HP7.out.ca 0 (by omega), HP7.out.ca 1 (by omega), HP7.out.cb 0 (by omega), HP7.out.cb 1 (by omega)⟩
              go_region_held3 (fun w' => w'.cell? ⟨w2.heap.size, 0, none⟩ = some (.pointer (some ⟨gs 0, 0, none⟩)) ∧ w'.cell? ⟨w2.heap.size, 1, none⟩ = some (.pointer (some ⟨gs 1, 0, none⟩)) ∧ w'.cell? ⟨w4.heap.size, 0, none⟩ = some (.pointer (some ⟨gr 0, 0, none⟩)) ∧ w'.cell? ⟨w4.heap.size, 1, none⟩ = some (.pointer (some ⟨gr 1, 0, none⟩))) (exact Z0)
                (first
                  | (go_at_call 21; (with_reducible refine HF0.out.mono ?_); rintro e w20 ⟨rfl, rfl⟩)
                  | (go_at_call 22; (with_reducible refine HF2.out.mono ?_); rintro e w21 ⟨rfl, rfl⟩)
                  | (go_at_call 21; (with_reducible refine HF1.out.mono ?_); rintro e w22 ⟨rfl, rfl⟩)
                  | (go_at_call 22; (with_reducible refine HF3.out.mono ?_); rintro e w23 ⟨rfl, rfl⟩))
              have hbz := hb7.drew
              have HPZ := Lib.hid (HP7.out.below (Below.refl _ _).drew)
              clear Z0 HF0 HF1 HF2 HF3 HP7 hb7
              generalize w9.drew = wz at *
              go_wp2
              go_roundw
              case rel => exact ⟨k + 1, _, _, _, _, LZ, _, _, _, by omega, by go_num, HLZ.out, by omega, hbz, HPZ⟩
              case measure => simp [intOf]; omega
          · have hx0 : x0.size = 32 := by
              have h := (HPK.out.s j hj2).len (bytesOf x0) (by rw [hLj]; simp)
              rwa [bytesOf_length] at h
            have hR : R.length < 1024 := by
              have h := HL.out j hj2
              rw [hLj] at h
              simp at h
              omega
            by_cases h4 : kv = 4
            · subst h4
              have HY : Hid (saysB 4 S (idOf (bytesOf x0)) = false) := Lib.hid rfl
              clear q0 q1 q2 hk0 h1 h2
              have c3 : (wr.alloc (.cells #[.int .i64 4] 3)).cell? ⟨w2.heap.size, j, none⟩ = some (.pointer (some ⟨gs j, 0, none⟩)) := HPK.out.ca j hj2
              have HFR := Lib.hid (fresh_nil (by have h := HPK.out.s j hj2; rw [hLj] at h; exact h) (by rw [List.length_map]; omega))
              go_wp2_with (first
                | (go_at_call 13; (with_reducible refine (HPW.out _).mono ?_); rintro e w5 ⟨rfl, rfl⟩)
                | (go_at_call 19; (with_reducible refine HFR.out.mono ?_); rintro e w5 ⟨rfl, ha5⟩
                   obtain ⟨ba5, cap5, hS5, hk5⟩ := ha5
                   obtain ⟨hbb5, hkb5, hP5⟩ := HPK.out.freshS j hj2 hS5 hk5 (HGS.out j hj2) hbk.size
                   have hb5 := hbk.trans hbb5
                   have HP5 := Lib.hid hP5
                   have HK5 := Lib.hid (hkb5 HKB.out (by decide) (by decide))
                   clear hP5 hbb5 hkb5 hS5 hk5))
              clear c0 c1 c3 HPW HFR HPK HKB hbk
              have hdr0 := drawn_yes 4 S vb vc (by have h := (HP5.out.r j hj2).below (Below.refl _ _).drew; rw [hLj] at h; exact h) hx0 (by omega) (HP5.out.below (Below.refl _ _).drew).o (by omega)
              rw [HY.out] at hdr0
              have HDR := Lib.hid hdr0
              clear hdr0
              have T0 : w5.drew.cell? ⟨w4.heap.size, j, none⟩ = some (.pointer (some ⟨gr j, 0, none⟩)) ∧ w5.drew.cell? ⟨wr.heap.size, 0, none⟩ = some (.int .i64 4) ∧ w5.drew.cell? ⟨w4.heap.size + 1, 0, none⟩ = some (.slice vb S.length vc) := ⟨HP5.out.cb j hj2, HK5.out.cell 0, HP5.out.cq⟩
              go_region_held3 (fun w' => w'.cell? ⟨w4.heap.size, j, none⟩ = some (.pointer (some ⟨gr j, 0, none⟩)) ∧ w'.cell? ⟨wr.heap.size, 0, none⟩ = some (.int .i64 4) ∧ w'.cell? ⟨w4.heap.size + 1, 0, none⟩ = some (.slice vb S.length vc)) (first | exact T0 | exact T1)
                ((go_at_call 20; (with_reducible refine HDR.out.mono ?_); rintro e w7 ⟨rfl, hd7⟩
                  obtain ⟨hbb7, hkb7, ba7, cap7, hP7⟩ := (HP5.out.below (Below.refl _ _).drew).dropR j hj2 hd7 (HGR.out j hj2) hb5.drew.size
                  have hb7 := hb5.drew.trans hbb7
                  have HP7 := Lib.hid hP7
                  have HK7 := Lib.hid (hkb7 (HK5.out.below (Below.refl _ _).drew HK5.out.lt) (by decide) (by decide))
                  clear hP7 hbb7 hkb7 hd7
                  have T1 : w7.cell? ⟨w4.heap.size, j, none⟩ = some (.pointer (some ⟨gr j, 0, none⟩)) ∧ w7.cell? ⟨wr.heap.size, 0, none⟩ = some (.int .i64 4) ∧ w7.cell? ⟨w4.heap.size + 1, 0, none⟩ = some (.slice vb S.length vc) := ⟨HP7.out.cb j hj2, HK7.out.cell 0, HP7.out.cq⟩))
              clear T0 T1 HDR
              have HNU := Lib.hid (num_nil w7)
              clear HP5 hb5 HK5 HK7
              have cq7 : w7.cell? ⟨w4.heap.size + 1, 0, none⟩ = some (.slice vb S.length vc) := HP7.out.cq
              obtain ⟨i00, hi, hz0, hz1, hz2⟩ := info_parts infoS'
              have hbs := hb7.size
              go_wp2_with (first
                | (go_at_call 15; (with_reducible refine HNU.out.mono ?_); rintro e w8 ⟨rfl, rfl⟩)
                | (at_builtin; refine wpList_append_lies _ (by rfl) (.tmp 106) (.tmp 108) 34 (by rfl) W.heap.size 9 i00 _ 1 16 Tryd.underlying34 hi hz0 hz1 hz2 rfl (by omega) (.slice vb S.length vc) S.length (strs S) (by rfl) (HP7.out.o.alloc _) ⟨w7.heap.size, 0, none⟩ 1 1 [.string (idOf (bytesOf x0))] (by rfl) (by rfl) (World.news_of_block (cs := #[.string (idOf (bytesOf x0))]) (t := 9) (fr := (0, 0)) (heap_alloc_new w7 _)) (by simp [Value.oneCell']) (by omega) (by unfold maxLen; omega) (by omega) (by simp; omega) (w7.heap.size + 1) (by simp) ?_
                   intro gg cap10 w10 hown10 hgrow10 hat10 hlt10
                   obtain ⟨c10, f10, hP11⟩ := HP7.out.seen (idOf (bytesOf x0)) hown10 hgrow10 hat10
                   have hb11 : Below W.heap.size W (w10.setCell ⟨w4.heap.size + 1, 0, none⟩ (.slice (some ⟨gg, 0, none⟩) (S.length + 1) cap10)) := ((hb7.alloc hbs _).grown hgrow10 (by simp; omega) (fun g hg => (HP7.out.o.lt g hg).1)).setCell (by simp; omega) _
                   have HP11 := Lib.hid hP11
                   clear hP11 hown10 hgrow10 hat10 hlt10))
              clear HNU HP7 hb7 cq7 c10 f10
              generalize w10.setCell ⟨w4.heap.size + 1, 0, none⟩ (.slice (some ⟨gg, 0, none⟩) (S.length + 1) cap10) = w11 at *
              obtain ⟨LZ, hLZ⟩ : ∃ LZ, LZ = (upd L j R) := ⟨_, rfl⟩
              have HLZ : Hid (∀ i, i < 2 → (LZ i).length ≤ 1024) := Lib.hid (by rw [hLZ]; exact upd_le HL.out (by omega))
              rw [← hLZ] at HP11
              clear hLZ
              have HF0 : Hid (Calls Tryd.prog 21 #[.pointer (some ⟨gs 0, 0, none⟩)] w11.drew fun e w2 => e = .returned (.int .i64 ((LZ 0).length : Int)) ∧ w11.drew = w2) := Lib.hid (by have h := left_any ((HP11.out.s 0 (by omega)).below (Below.refl _ _).drew); rwa [List.length_map] at h)
              have HF1 : Hid (Calls Tryd.prog 21 #[.pointer (some ⟨gs 1, 0, none⟩)] w11.drew fun e w2 => e = .returned (.int .i64 ((LZ 1).length : Int)) ∧ w11.drew = w2) := Lib.hid (by have h := left_any ((HP11.out.s 1 (by omega)).below (Below.refl _ _).drew); rwa [List.length_map] at h)
              have HF2 := Lib.hid (rleft_any ((HP11.out.r 0 (by omega)).below (Below.refl _ _).drew))
              have HF3 := Lib.hid (rleft_any ((HP11.out.r 1 (by omega)).below (Below.refl _ _).drew))
              have Z0 : w11.drew.cell? ⟨w2.heap.size, 0, none⟩ = some (.pointer (some ⟨gs 0, 0, none⟩)) ∧ w11.drew.cell? ⟨w2.heap.size, 1, none⟩ = some (.pointer (some ⟨gs 1, 0, none⟩)) ∧ w11.drew.cell? ⟨w4.heap.size, 0, none⟩ = some (.pointer (some ⟨gr 0, 0, none⟩)) ∧ w11.drew.cell? ⟨w4.heap.size, 1, none⟩ = some (.pointer (some ⟨gr 1, 0, none⟩)) := ⟨HP11.out.ca 0 (by omega), HP11.out.ca 1 (by omega), HP11.out.cb 0 (by omega), HP11.out.cb 1 (by omega)⟩
              go_region_held3 (fun w' => w'.cell? ⟨w2.heap.size, 0, none⟩ = some (.pointer (some ⟨gs 0, 0, none⟩)) ∧ w'.cell? ⟨w2.heap.size, 1, none⟩ = some (.pointer (some ⟨gs 1, 0, none⟩)) ∧ w'.cell? ⟨w4.heap.size, 0, none⟩ = some (.pointer (some ⟨gr 0, 0, none⟩)) ∧ w'.cell? ⟨w4.heap.size, 1, none⟩ = some (.pointer (some ⟨gr 1, 0, none⟩))) (exact Z0)
                (first
                  | (go_at_call 21; (with_reducible refine HF0.out.mono ?_); rintro e w20 ⟨rfl, rfl⟩)
                  | (go_at_call 22; (with_reducible refine HF2.out.mono ?_); rintro e w21 ⟨rfl, rfl⟩)
                  | (go_at_call 21; (with_reducible refine HF1.out.mono ?_); rintro e w22 ⟨rfl, rfl⟩)
                  | (go_at_call 22; (with_reducible refine HF3.out.mono ?_); rintro e w23 ⟨rfl, rfl⟩))
              have hbz := hb11.drew
              have HPZ := Lib.hid (HP11.out.below (Below.refl _ _).drew)
              clear Z0 HF0 HF1 HF2 HF3 HP11 hb11
              generalize w11.drew = wz at *
              go_wp2
              go_roundw
              case rel => exact ⟨k + 1, _, _, _, _, LZ, _, _, _, by omega, by go_num, HLZ.out, by rw [List.length_append]; simp; omega, hbz, HPZ⟩
              case measure => simp [intOf]; omega
            · have q4 : decide (kv < 4) = true := decide_eq_true (by omega)
              have q4b : kv < 4 := by omega
              cases hy : saysB kv S (idOf (bytesOf x0))
              · have HY := Lib.hid hy
                clear hy
                have c3 : (wr.alloc (.cells #[.int .i64 kv] 3)).cell? ⟨w2.heap.size, j, none⟩ = some (.pointer (some ⟨gs j, 0, none⟩)) := HPK.out.ca j hj2
                have HFR := Lib.hid (fresh_two (E := E) (R := fun a b => a = b) ⟨wr.heap.size, 0, none⟩ ⟨w4.heap.size + 1, 0, none⟩ false (by have h := HPK.out.s j hj2; rw [hLj] at h; exact h) (by rw [List.length_map]; omega)
                  (Lib.hid fun w' ba' cap' hS' hK' => by
                    obtain ⟨_, hkb, hP'⟩ := HPK.out.freshS j hj2 hS' hK' (HGS.out j hj2) hbk.size
                    have h := ask2_any (idOf (bytesOf x0)) kv S (hkb HKB.out (by decide) (by decide)) hP'.q hP'.o (by omega)
                    rw [HY.out] at h
                    exact h)
                  (Lib.hid fun w5 w6 hK' he => by
                    subst he
                    exact HE.out.below (hbk.trans (hK'.below hbk.size (by simpa using HGS.out j hj2)))))
                go_wp2_with (first
                  | (go_at_call 13; (with_reducible refine (HPW.out _).mono ?_); rintro e w5 ⟨rfl, rfl⟩)
                  | (go_at_call 19; (with_reducible refine HFR.out.mono ?_); rintro e w5 ⟨rfl, ha5⟩
                     obtain ⟨ba5, cap5, hS5, hk5⟩ := asked_id ha5
                     obtain ⟨hbb5, hkb5, hP5⟩ := HPK.out.freshS j hj2 hS5 hk5 (HGS.out j hj2) hbk.size
                     have hb5 := hbk.trans hbb5
                     have HP5 := Lib.hid hP5
                     have HK5 := Lib.hid (hkb5 HKB.out (by decide) (by decide))
                     clear hP5 hbb5 hkb5 hS5 hk5))
                clear c0 c1 c3 HPW HFR HPK HKB hbk ha5
                have hdr0 := drawn_yes kv S vb vc (by have h := (HP5.out.r j hj2).below (Below.refl _ _).drew; rw [hLj] at h; exact h) hx0 (by omega) (HP5.out.below (Below.refl _ _).drew).o (by omega)
                rw [HY.out] at hdr0
                have HDR := Lib.hid hdr0
                clear hdr0
                have T0 : w5.drew.cell? ⟨w4.heap.size, j, none⟩ = some (.pointer (some ⟨gr j, 0, none⟩)) ∧ w5.drew.cell? ⟨wr.heap.size, 0, none⟩ = some (.int .i64 kv) ∧ w5.drew.cell? ⟨w4.heap.size + 1, 0, none⟩ = some (.slice vb S.length vc) := ⟨HP5.out.cb j hj2, HK5.out.cell 0, HP5.out.cq⟩
                go_region_held3 (fun w' => w'.cell? ⟨w4.heap.size, j, none⟩ = some (.pointer (some ⟨gr j, 0, none⟩)) ∧ w'.cell? ⟨wr.heap.size, 0, none⟩ = some (.int .i64 kv) ∧ w'.cell? ⟨w4.heap.size + 1, 0, none⟩ = some (.slice vb S.length vc)) (first | exact T0 | exact T1)
                  ((go_at_call 20; (with_reducible refine HDR.out.mono ?_); rintro e w7 ⟨rfl, hd7⟩
                    obtain ⟨hbb7, hkb7, ba7, cap7, hP7⟩ := (HP5.out.below (Below.refl _ _).drew).dropR j hj2 hd7 (HGR.out j hj2) hb5.drew.size
                    have hb7 := hb5.drew.trans hbb7
                    have HP7 := Lib.hid hP7
                    have HK7 := Lib.hid (hkb7 (HK5.out.below (Below.refl _ _).drew HK5.out.lt) (by decide) (by decide))
                    clear hP7 hbb7 hkb7 hd7
                    have T1 : w7.cell? ⟨w4.heap.size, j, none⟩ = some (.pointer (some ⟨gr j, 0, none⟩)) ∧ w7.cell? ⟨wr.heap.size, 0, none⟩ = some (.int .i64 kv) ∧ w7.cell? ⟨w4.heap.size + 1, 0, none⟩ = some (.slice vb S.length vc) := ⟨HP7.out.cb j hj2, HK7.out.cell 0, HP7.out.cq⟩))
                clear T0 T1 HDR
                have HNU := Lib.hid (num_nil w7)
                clear HP5 hb5 HK5 HK7
                have cq7 : w7.cell? ⟨w4.heap.size + 1, 0, none⟩ = some (.slice vb S.length vc) := HP7.out.cq
                obtain ⟨i00, hi, hz0, hz1, hz2⟩ := info_parts infoS'
                have hbs := hb7.size
                go_wp2_with (first
                  | (go_at_call 15; (with_reducible refine HNU.out.mono ?_); rintro e w8 ⟨rfl, rfl⟩)
                  | (at_builtin; refine wpList_append_lies _ (by rfl) (.tmp 106) (.tmp 108) 34 (by rfl) W.heap.size 9 i00 _ 1 16 Tryd.underlying34 hi hz0 hz1 hz2 rfl (by omega) (.slice vb S.length vc) S.length (strs S) (by rfl) (HP7.out.o.alloc _) ⟨w7.heap.size, 0, none⟩ 1 1 [.string (idOf (bytesOf x0))] (by rfl) (by rfl) (World.news_of_block (cs := #[.string (idOf (bytesOf x0))]) (t := 9) (fr := (0, 0)) (heap_alloc_new w7 _)) (by simp [Value.oneCell']) (by omega) (by unfold maxLen; omega) (by omega) (by simp; omega) (w7.heap.size + 1) (by simp) ?_
                     intro gg cap10 w10 hown10 hgrow10 hat10 hlt10
                     obtain ⟨c10, f10, hP11⟩ := HP7.out.seen (idOf (bytesOf x0)) hown10 hgrow10 hat10
                     have hb11 : Below W.heap.size W (w10.setCell ⟨w4.heap.size + 1, 0, none⟩ (.slice (some ⟨gg, 0, none⟩) (S.length + 1) cap10)) := ((hb7.alloc hbs _).grown hgrow10 (by simp; omega) (fun g hg => (HP7.out.o.lt g hg).1)).setCell (by simp; omega) _
                     have HP11 := Lib.hid hP11
                     clear hP11 hown10 hgrow10 hat10 hlt10))
                clear HNU HP7 hb7 cq7 c10 f10
                generalize w10.setCell ⟨w4.heap.size + 1, 0, none⟩ (.slice (some ⟨gg, 0, none⟩) (S.length + 1) cap10) = w11 at *
                obtain ⟨LZ, hLZ⟩ : ∃ LZ, LZ = (upd L j R) := ⟨_, rfl⟩
                have HLZ : Hid (∀ i, i < 2 → (LZ i).length ≤ 1024) := Lib.hid (by rw [hLZ]; exact upd_le HL.out (by omega))
                rw [← hLZ] at HP11
                clear hLZ
                have HF0 : Hid (Calls Tryd.prog 21 #[.pointer (some ⟨gs 0, 0, none⟩)] w11.drew fun e w2 => e = .returned (.int .i64 ((LZ 0).length : Int)) ∧ w11.drew = w2) := Lib.hid (by have h := left_any ((HP11.out.s 0 (by omega)).below (Below.refl _ _).drew); rwa [List.length_map] at h)
                have HF1 : Hid (Calls Tryd.prog 21 #[.pointer (some ⟨gs 1, 0, none⟩)] w11.drew fun e w2 => e = .returned (.int .i64 ((LZ 1).length : Int)) ∧ w11.drew = w2) := Lib.hid (by have h := left_any ((HP11.out.s 1 (by omega)).below (Below.refl _ _).drew); rwa [List.length_map] at h)
                have HF2 := Lib.hid (rleft_any ((HP11.out.r 0 (by omega)).below (Below.refl _ _).drew))
                have HF3 := Lib.hid (rleft_any ((HP11.out.r 1 (by omega)).below (Below.refl _ _).drew))
                have Z0 : w11.drew.cell? ⟨w2.heap.size, 0, none⟩ = some (.pointer (some ⟨gs 0, 0, none⟩)) ∧ w11.drew.cell? ⟨w2.heap.size, 1, none⟩ = some (.pointer (some ⟨gs 1, 0, none⟩)) ∧ w11.drew.cell? ⟨w4.heap.size, 0, none⟩ = some (.pointer (some ⟨gr 0, 0, none⟩)) ∧ w11.drew.cell? ⟨w4.heap.size, 1, none⟩ = some (.pointer (some ⟨gr 1, 0, none⟩)) := ⟨HP11.out.ca 0 (by omega), HP11.out.ca 1 (by omega), HP11.out.cb 0 (by omega), HP11.out.cb 1 (by omega)⟩
                go_region_held3 (fun w' => w'.cell? ⟨w2.heap.size, 0, none⟩ = some (.pointer (some ⟨gs 0, 0, none⟩)) ∧ w'.cell? ⟨w2.heap.size, 1, none⟩ = some (.pointer (some ⟨gs 1, 0, none⟩)) ∧ w'.cell? ⟨w4.heap.size, 0, none⟩ = some (.pointer (some ⟨gr 0, 0, none⟩)) ∧ w'.cell? ⟨w4.heap.size, 1, none⟩ = some (.pointer (some ⟨gr 1, 0, none⟩))) (exact Z0)
                  (first
                    | (go_at_call 21; (with_reducible refine HF0.out.mono ?_); rintro e w20 ⟨rfl, rfl⟩)
                    | (go_at_call 22; (with_reducible refine HF2.out.mono ?_); rintro e w21 ⟨rfl, rfl⟩)
                    | (go_at_call 21; (with_reducible refine HF1.out.mono ?_); rintro e w22 ⟨rfl, rfl⟩)
                    | (go_at_call 22; (with_reducible refine HF3.out.mono ?_); rintro e w23 ⟨rfl, rfl⟩))
                have hbz := hb11.drew
                have HPZ := Lib.hid (HP11.out.below (Below.refl _ _).drew)
                clear Z0 HF0 HF1 HF2 HF3 HP11 hb11
                generalize w11.drew = wz at *
                go_wp2
                go_roundw
                case rel => exact ⟨k + 1, _, _, _, _, LZ, _, _, _, by omega, by go_num, HLZ.out, by rw [List.length_append]; simp; omega, hbz, HPZ⟩
                case measure => simp [intOf]; omega
              · have HY := Lib.hid hy
                clear hy
                have c3 : (wr.alloc (.cells #[.int .i64 kv] 3)).cell? ⟨w2.heap.size, j, none⟩ = some (.pointer (some ⟨gs j, 0, none⟩)) := HPK.out.ca j hj2
                have HFR := Lib.hid (fresh_two (E := E) (R := fun a b => a = b) ⟨wr.heap.size, 0, none⟩ ⟨w4.heap.size + 1, 0, none⟩ true (by have h := HPK.out.s j hj2; rw [hLj] at h; exact h) (by rw [List.length_map]; omega)
                  (Lib.hid fun w' ba' cap' hS' hK' => by
                    obtain ⟨_, hkb, hP'⟩ := HPK.out.freshS j hj2 hS' hK' (HGS.out j hj2) hbk.size
                    have h := ask2_any (idOf (bytesOf x0)) kv S (hkb HKB.out (by decide) (by decide)) hP'.q hP'.o (by omega)
                    rw [HY.out] at h
                    exact h)
                  (Lib.hid fun w5 w6 hK' he => by
                    subst he
                    exact HE.out.below (hbk.trans (hK'.below hbk.size (by simpa using HGS.out j hj2)))))
                go_wp2_with (first
                  | (go_at_call 13; (with_reducible refine (HPW.out _).mono ?_); rintro e w5 ⟨rfl, rfl⟩)
                  | (go_at_call 19; (with_reducible refine HFR.out.mono ?_); rintro e w5 ⟨rfl, ha5⟩
                     obtain ⟨ba5, cap5, hS5, hk5⟩ := asked_id ha5
                     obtain ⟨hbb5, hkb5, hP5⟩ := HPK.out.freshS j hj2 hS5 hk5 (HGS.out j hj2) hbk.size
                     have hb5 := hbk.trans hbb5
                     have HP5 := Lib.hid hP5
                     have HK5 := Lib.hid (hkb5 HKB.out (by decide) (by decide))
                     clear hP5 hbb5 hkb5 hS5 hk5))
                clear c0 c1 c3 HPW HFR HPK HKB hbk ha5
                have hdr0 := drawn_yes kv S vb vc (by have h := (HP5.out.r j hj2).below (Below.refl _ _).drew; rw [hLj] at h; exact h) hx0 (by omega) (HP5.out.below (Below.refl _ _).drew).o (by omega)
                rw [HY.out] at hdr0
                have HDR := Lib.hid hdr0
                clear hdr0
                have T0 : w5.drew.cell? ⟨w4.heap.size, j, none⟩ = some (.pointer (some ⟨gr j, 0, none⟩)) ∧ w5.drew.cell? ⟨wr.heap.size, 0, none⟩ = some (.int .i64 kv) ∧ w5.drew.cell? ⟨w4.heap.size + 1, 0, none⟩ = some (.slice vb S.length vc) := ⟨HP5.out.cb j hj2, HK5.out.cell 0, HP5.out.cq⟩
                go_region_held3 (fun w' => w'.cell? ⟨w4.heap.size, j, none⟩ = some (.pointer (some ⟨gr j, 0, none⟩)) ∧ w'.cell? ⟨wr.heap.size, 0, none⟩ = some (.int .i64 kv) ∧ w'.cell? ⟨w4.heap.size + 1, 0, none⟩ = some (.slice vb S.length vc)) (first | exact T0 | exact T1)
                  ((go_at_call 20; (with_reducible refine HDR.out.mono ?_); rintro e w7 ⟨rfl, hd7⟩
                    obtain ⟨hbb7, hkb7, ba7, cap7, hP7⟩ := (HP5.out.below (Below.refl _ _).drew).dropR j hj2 hd7 (HGR.out j hj2) hb5.drew.size
                    have hb7 := hb5.drew.trans hbb7
                    have HP7 := Lib.hid hP7
                    have HK7 := Lib.hid (hkb7 (HK5.out.below (Below.refl _ _).drew HK5.out.lt) (by decide) (by decide))
                    clear hP7 hbb7 hkb7 hd7
                    have T1 : w7.cell? ⟨w4.heap.size, j, none⟩ = some (.pointer (some ⟨gr j, 0, none⟩)) ∧ w7.cell? ⟨wr.heap.size, 0, none⟩ = some (.int .i64 kv) ∧ w7.cell? ⟨w4.heap.size + 1, 0, none⟩ = some (.slice vb S.length vc) := ⟨HP7.out.cb j hj2, HK7.out.cell 0, HP7.out.cq⟩))
                clear T0 T1 HDR
                have HNU := Lib.hid (num_7 (HE.out.below hb7))
                clear HP5 hb5 HK5 HK7
                go_wp2_with (go_at_call 15; (with_reducible refine HNU.out.mono ?_); rintro e w8 ⟨rfl, rfl⟩)
                clear HNU
                obtain ⟨LZ, hLZ⟩ : ∃ LZ, LZ = (upd L j R) := ⟨_, rfl⟩
                have HLZ : Hid (∀ i, i < 2 → (LZ i).length ≤ 1024) := Lib.hid (by rw [hLZ]; exact upd_le HL.out (by omega))
                rw [← hLZ] at HP7
                clear hLZ
                have HF0 : Hid (Calls Tryd.prog 21 #[.pointer (some ⟨gs 0, 0, none⟩)] w7.drew fun e w2 => e = .returned (.int .i64 ((LZ 0).length : Int)) ∧ w7.drew = w2) := Lib.hid (by have h := left_any ((HP7.out.s 0 (by omega)).below (Below.refl _ _).drew); rwa [List.length_map] at h)
                have HF1 : Hid (Calls Tryd.prog 21 #[.pointer (some ⟨gs 1, 0, none⟩)] w7.drew fun e w2 => e = .returned (.int .i64 ((LZ 1).length : Int)) ∧ w7.drew = w2) := Lib.hid (by have h := left_any ((HP7.out.s 1 (by omega)).below (Below.refl _ _).drew); rwa [List.length_map] at h)
                have HF2 := Lib.hid (rleft_any ((HP7.out.r 0 (by omega)).below (Below.refl _ _).drew))
                have HF3 := Lib.hid (rleft_any ((HP7.out.r 1 (by omega)).below (Below.refl _ _).drew))
                have Z0 : w7.drew.cell? ⟨w2.heap.size, 0, none⟩ = some (.pointer (some ⟨gs 0, 0, none⟩)) ∧ w7.drew.cell? ⟨w2.heap.size, 1, none⟩ = some (.pointer (some ⟨gs 1, 0, none⟩)) ∧ w7.drew.cell? ⟨w4.heap.size, 0, none⟩ = some (.pointer (some ⟨gr 0, 0, none⟩)) ∧ w7.drew.cell? ⟨w4.heap.size, 1, none⟩ = some (.pointer (some ⟨gr 1, 0, none⟩)) := ⟨HP7.out.ca 0 (by omega), HP7.out.ca 1 (by omega), HP7.out.cb 0 (by omega), HP7.out.cb 1 (by omega)⟩
                go_region_held3 (fun w' => w'.cell? ⟨w2.heap.size, 0, none⟩ = some (.pointer (some ⟨gs 0, 0, none⟩)) ∧ w'.cell? ⟨w2.heap.size, 1, none⟩ = some (.pointer (some ⟨gs 1, 0, none⟩)) ∧ w'.cell? ⟨w4.heap.size, 0, none⟩ = some (.pointer (some ⟨gr 0, 0, none⟩)) ∧ w'.cell? ⟨w4.heap.size, 1, none⟩ = some (.pointer (some ⟨gr 1, 0, none⟩))) (exact Z0)
                  (first
                    | (go_at_call 21; (with_reducible refine HF0.out.mono ?_); rintro e w20 ⟨rfl, rfl⟩)
                    | (go_at_call 22; (with_reducible refine HF2.out.mono ?_); rintro e w21 ⟨rfl, rfl⟩)
                    | (go_at_call 21; (with_reducible refine HF1.out.mono ?_); rintro e w22 ⟨rfl, rfl⟩)
                    | (go_at_call 22; (with_reducible refine HF3.out.mono ?_); rintro e w23 ⟨rfl, rfl⟩))
                have hbz := hb7.drew
                have HPZ := Lib.hid (HP7.out.below (Below.refl _ _).drew)
                clear Z0 HF0 HF1 HF2 HF3 HP7 hb7
                generalize w7.drew = wz at *
                go_wp2
                go_roundw
                case rel => exact ⟨k + 1, _, _, _, _, LZ, _, _, _, by omega, by go_num, HLZ.out, by omega, hbz, HPZ⟩
                case measure => simp [intOf]; omega
        · by_cases h1 : 1 ≤ kv
          · have q1 : decide ((1 : Int) ≤ kv) = true := decide_eq_true h1
            have q2 : decide (kv ≤ 4) = false := decide_eq_false (by omega)
            have q2b : ¬ kv ≤ 4 := by omega
            go_wp2_with (go_at_call 13; (with_reducible refine (HPW.out _).mono ?_); rintro e w5 ⟨rfl, rfl⟩)
            have HPX := Lib.hid (HPK.out)
            have hbx := hbk
            clear c0 c1 HPW HPK hbk HKB
            generalize wr.alloc (.cells #[.int .i64 kv] 3) = wx at *
            obtain ⟨LZ, hLZ⟩ : ∃ LZ, LZ = L := ⟨_, rfl⟩
            have HLZ : Hid (∀ i, i < 2 → (LZ i).length ≤ 1024) := Lib.hid (by rw [hLZ]; exact HL.out)
            rw [← hLZ] at HPX
            clear hLZ
            have HF0 : Hid (Calls Tryd.prog 21 #[.pointer (some ⟨gs 0, 0, none⟩)] wx.drew fun e w2 => e = .returned (.int .i64 ((LZ 0).length : Int)) ∧ wx.drew = w2) := Lib.hid (by have h := left_any ((HPX.out.s 0 (by omega)).below (Below.refl _ _).drew); rwa [List.length_map] at h)
            have HF1 : Hid (Calls Tryd.prog 21 #[.pointer (some ⟨gs 1, 0, none⟩)] wx.drew fun e w2 => e = .returned (.int .i64 ((LZ 1).length : Int)) ∧ wx.drew = w2) := Lib.hid (by have h := left_any ((HPX.out.s 1 (by omega)).below (Below.refl _ _).drew); rwa [List.length_map] at h)
            have HF2 := Lib.hid (rleft_any ((HPX.out.r 0 (by omega)).below (Below.refl _ _).drew))
            have HF3 := Lib.hid (rleft_any ((HPX.out.r 1 (by omega)).below (Below.refl _ _).drew))
            have Z0 : wx.drew.cell? ⟨w2.heap.size, 0, none⟩ = some (.pointer (some ⟨gs 0, 0, none⟩)) ∧ wx.drew.cell? ⟨w2.heap.size, 1, none⟩ = some (.pointer (some ⟨gs 1, 0, none⟩)) ∧ wx.drew.cell? ⟨w4.heap.size, 0, none⟩ = some (.pointer (some ⟨gr 0, 0, none⟩)) ∧ wx.drew.cell? ⟨w4.heap.size, 1, none⟩ = some (.pointer (some ⟨gr 1, 0, none⟩)) := ⟨HPX.out.ca 0 (by omega), HPX.out.ca 1 (by omega), HPX.out.cb 0 (by omega), HPX.out.cb 1 (by omega)⟩
            go_region_held3 (fun w' => w'.cell? ⟨w2.heap.size, 0, none⟩ = some (.pointer (some ⟨gs 0, 0, none⟩)) ∧ w'.cell? ⟨w2.heap.size, 1, none⟩ = some (.pointer (some ⟨gs 1, 0, none⟩)) ∧ w'.cell? ⟨w4.heap.size, 0, none⟩ = some (.pointer (some ⟨gr 0, 0, none⟩)) ∧ w'.cell? ⟨w4.heap.size, 1, none⟩ = some (.pointer (some ⟨gr 1, 0, none⟩))) (exact Z0)
              (first
                | (go_at_call 21; (with_reducible refine HF0.out.mono ?_); rintro e w20 ⟨rfl, rfl⟩)
                | (go_at_call 22; (with_reducible refine HF2.out.mono ?_); rintro e w21 ⟨rfl, rfl⟩)
                | (go_at_call 21; (with_reducible refine HF1.out.mono ?_); rintro e w22 ⟨rfl, rfl⟩)
                | (go_at_call 22; (with_reducible refine HF3.out.mono ?_); rintro e w23 ⟨rfl, rfl⟩))
            have hbz := hbx.drew
            have HPZ := Lib.hid (HPX.out.below (Below.refl _ _).drew)
            clear Z0 HF0 HF1 HF2 HF3 HPX hbx
            generalize wx.drew = wz at *
            go_wp2
            go_roundw
            case rel => exact ⟨k + 1, _, _, _, _, LZ, _, _, _, by omega, by go_num, HLZ.out, by omega, hbz, HPZ⟩
            case measure => simp [intOf]; omega
          · have q1 : decide ((1 : Int) ≤ kv) = false := decide_eq_false h1
            go_wp2_with (go_at_call 13; (with_reducible refine (HPW.out _).mono ?_); rintro e w5 ⟨rfl, rfl⟩)
            have HPX := Lib.hid (HPK.out)
            have hbx := hbk
            clear c0 c1 HPW HPK hbk HKB
            generalize wr.alloc (.cells #[.int .i64 kv] 3) = wx at *
            obtain ⟨LZ, hLZ⟩ : ∃ LZ, LZ = L := ⟨_, rfl⟩
            have HLZ : Hid (∀ i, i < 2 → (LZ i).length ≤ 1024) := Lib.hid (by rw [hLZ]; exact HL.out)
            rw [← hLZ] at HPX
            clear hLZ
            have HF0 : Hid (Calls Tryd.prog 21 #[.pointer (some ⟨gs 0, 0, none⟩)] wx.drew fun e w2 => e = .returned (.int .i64 ((LZ 0).length : Int)) ∧ wx.drew = w2) := Lib.hid (by have h := left_any ((HPX.out.s 0 (by omega)).below (Below.refl _ _).drew); rwa [List.length_map] at h)
            have HF1 : Hid (Calls Tryd.prog 21 #[.pointer (some ⟨gs 1, 0, none⟩)] wx.drew fun e w2 => e = .returned (.int .i64 ((LZ 1).length : Int)) ∧ wx.drew = w2) := Lib.hid (by have h := left_any ((HPX.out.s 1 (by omega)).below (Below.refl _ _).drew); rwa [List.length_map] at h)
            have HF2 := Lib.hid (rleft_any ((HPX.out.r 0 (by omega)).below (Below.refl _ _).drew))
            have HF3 := Lib.hid (rleft_any ((HPX.out.r 1 (by omega)).below (Below.refl _ _).drew))
            have Z0 : wx.drew.cell? ⟨w2.heap.size, 0, none⟩ = some (.pointer (some ⟨gs 0, 0, none⟩)) ∧ wx.drew.cell? ⟨w2.heap.size, 1, none⟩ = some (.pointer (some ⟨gs 1, 0, none⟩)) ∧ wx.drew.cell? ⟨w4.heap.size, 0, none⟩ = some (.pointer (some ⟨gr 0, 0, none⟩)) ∧ wx.drew.cell? ⟨w4.heap.size, 1, none⟩ = some (.pointer (some ⟨gr 1, 0, none⟩)) := ⟨HPX.out.ca 0 (by omega), HPX.out.ca 1 (by omega), HPX.out.cb 0 (by omega), HPX.out.cb 1 (by omega)⟩
            go_region_held3 (fun w' => w'.cell? ⟨w2.heap.size, 0, none⟩ = some (.pointer (some ⟨gs 0, 0, none⟩)) ∧ w'.cell? ⟨w2.heap.size, 1, none⟩ = some (.pointer (some ⟨gs 1, 0, none⟩)) ∧ w'.cell? ⟨w4.heap.size, 0, none⟩ = some (.pointer (some ⟨gr 0, 0, none⟩)) ∧ w'.cell? ⟨w4.heap.size, 1, none⟩ = some (.pointer (some ⟨gr 1, 0, none⟩))) (exact Z0)
              (first
                | (go_at_call 21; (with_reducible refine HF0.out.mono ?_); rintro e w20 ⟨rfl, rfl⟩)
                | (go_at_call 22; (with_reducible refine HF2.out.mono ?_); rintro e w21 ⟨rfl, rfl⟩)
                | (go_at_call 21; (with_reducible refine HF1.out.mono ?_); rintro e w22 ⟨rfl, rfl⟩)
                | (go_at_call 22; (with_reducible refine HF3.out.mono ?_); rintro e w23 ⟨rfl, rfl⟩))
            have hbz := hbx.drew
            have HPZ := Lib.hid (HPX.out.below (Below.refl _ _).drew)
            clear Z0 HF0 HF1 HF2 HF3 HPX hbx
            generalize wx.drew = wz at *
            go_wp2
            go_roundw
            case rel => exact ⟨k + 1, _, _, _, _, LZ, _, _, _, by omega, by go_num, HLZ.out, by omega, hbz, HPZ⟩
            case measure => simp [intOf]; omega
    · obtain rfl : k = n := by omega
      go_wp2
      go_ret
      exact ⟨rfl, hb⟩
end Go.Proofs.YtmmniapkajbdhaaDoor
