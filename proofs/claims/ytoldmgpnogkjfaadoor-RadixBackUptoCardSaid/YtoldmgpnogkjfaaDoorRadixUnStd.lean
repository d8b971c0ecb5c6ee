/- base64 read: the program's UnStd and the reference's, walked. -/
import Derived.Test.YtoldmgpnogkjfaaDoorRadixUnHex
import Derived.Test.YtoldmgpnogkjfaaDoorRadixUrl
import Derived.Test.YtoldmgpnogkjfaaDoorShelfTrim
import Derived.Deep.Cut
namespace Go.Proofs.YtoldmgpnogkjfaaDoor
open Go.RowKit
def trimN : Nat → List (BitVec 8) → List (BitVec 8)
  | 0, s => s
  | k + 1, s => URadix.trimEq (trimN k s)
theorem trimEq_le (s : List (BitVec 8)) : (URadix.trimEq s).length ≤ s.length := by
  unfold URadix.trimEq
  split
  · rw [List.length_dropLast]; omega
  · exact Nat.le_refl _
theorem trimN_le (k : Nat) (s : List (BitVec 8)) : (trimN k s).length ≤ s.length := by
  induction k with
  | zero => exact Nat.le_refl _
  | succ k ih => exact Nat.le_trans (trimEq_le _) ih
set_option maxHeartbeats 1000000 in
set_option maxRecDepth 100000 in
theorem unStd_any (s : ByteArray) (w : World) (t : TypeId) (a : Addr) (hE : ErrText w t a) (hs : s.size ≤ 33554432) (T : List (BitVec 8)) (e : Nat) (hsp : bytesOf s = T ++ List.replicate e 61#8) (hT : URadix.NoEq T) :
    Calls Tryd.prog 18 #[.string s] w fun e' w' => e' = .returned (UnRes (URadix.rdStd T e) t a) ∧ Below w.heap.size w w' := by
  have HE := Lib.hid hE
  have hsz : s.size = T.length + e := by rw [← bytesOf_length, hsp, List.length_append, List.length_replicate]
  clear hE
  by_cases hmod : s.size % 4 = 0
  · have hq : ((s.size : Int) % 4 == 0) = true := by rw [beq_iff_eq]; omega
    have hq' : ((s.size : Int) % 4 != 0) = false := by simp; omega
    have HF0 : Hid (URadix.rdStd T e = URadix.rd URadix.stdA (T ++ List.replicate (e - 2) 61#8)) := Lib.hid (by
      unfold URadix.rdStd; rw [if_neg (by omega)])
    have HTR : Hid (trimN 2 (bytesOf s) = T ++ List.replicate (e - 2) 61#8) := Lib.hid (by
      rw [hsp]; exact URadix.trimEq2 hT e)
    clear hmod hsp hsz hT
    go_enter Tryd.func18, Tryd.ntmps18
    go_wp2
    clear hq hq'
    go_loop [4, 13] (fun b i => ∃ (k : Nat) (B : ByteArray), k ≤ 2 ∧ i = .int .i64 k ∧ b = .string B ∧ Hid (bytesOf B = trimN k (bytesOf s))) (fun _ i => 2 - (intOf i).toNat)
    case atStart => exact ⟨0, s, by omega, rfl, rfl, Lib.hid rfl⟩
    case round =>
      obtain ⟨k, B, hk, rfl, rfl, HB⟩ := hrel
      have hBs : B.size ≤ 33554432 := by
        have := trimN_le k (bytesOf s)
        rw [← HB.out, bytesOf_length, bytesOf_length] at this
        omega
      by_cases hlt : k < 2
      · have HTM := Lib.hid (trim_any B w hBs)
        have HB2 : Hid (bytesOf (strOf (URadix.trimEq (bytesOf B))) = trimN (k + 1) (bytesOf s)) := Lib.hid (by rw [bytesOf_strOf, HB.out]; rfl)
        generalize strOf (URadix.trimEq (bytesOf B)) = B2 at *
        go_wp2_with (go_at_call 34; (with_reducible refine HTM.out.mono ?_); rintro e' w1 ⟨rfl, rfl⟩)
        go_round
        case rel => exact ⟨k + 1, B2, by omega, by go_num, rfl, HB2⟩
        case measure => simp [intOf]; omega
      · obtain rfl : k = 2 := by omega
        have hr := read_any stdS B w alpha_stdS hBs
        rw [stdS_b, HB.out, HTR.out] at hr
        rw [show (((2 : Nat)) : Int) = (2 : Int) from rfl]
        cases hp : URadix.rd URadix.stdA (T ++ List.replicate (e - 2) 61#8) with
        | none =>
          rw [hp] at hr
          have HR : Hid (Calls Tryd.prog 32 #[.string ⟨#[65, 66, 67, 68, 69, 70, 71, 72, 73, 74, 75, 76, 77, 78, 79, 80, 81, 82, 83, 84, 85, 86, 87, 88, 89, 90, 97, 98, 99, 100, 101, 102, 103, 104, 105, 106, 107, 108, 109, 110, 111, 112, 113, 114, 115, 116, 117, 118, 119, 120, 121, 122, 48, 49, 50, 51, 52, 53, 54, 55, 56, 57, 43, 47]⟩, .string B] w fun e w' => e = .returned (.tuple #[.string { data := #[] }, .bool false]) ∧ Below w.heap.size w w') := Lib.hid hr
          have HF : Hid (UnRes (URadix.rdStd T e) t a = .tuple #[.string { data := #[] }, .iface t (.pointer (some a))]) := Lib.hid (by rw [HF0.out, hp]; rfl)
          clear hr hp
          go_wp2_with (go_at_call 32; (with_reducible refine HR.out.mono ?_); rintro e' w1 ⟨rfl, hb1⟩)
          have hc := HE.out.below hb1
          unfold ErrText at hc
          refine wp_region_still_lit (by kernel_rfl) (by kernel_rfl) ?_
          repeat still_step
          refine wpStill_nil ?_
          change Exit.then _ _ _ _ w1.drew
          have hbq := (hb1).drew
          generalize w1.drew = wq at *
          clear hc
          go_wp2
          go_ret2
          exact ⟨by rw [HF.out]; rfl, hbq⟩
        | some p =>
          rw [hp] at hr
          have HR : Hid (Calls Tryd.prog 32 #[.string ⟨#[65, 66, 67, 68, 69, 70, 71, 72, 73, 74, 75, 76, 77, 78, 79, 80, 81, 82, 83, 84, 85, 86, 87, 88, 89, 90, 97, 98, 99, 100, 101, 102, 103, 104, 105, 106, 107, 108, 109, 110, 111, 112, 113, 114, 115, 116, 117, 118, 119, 120, 121, 122, 48, 49, 50, 51, 52, 53, 54, 55, 56, 57, 43, 47]⟩, .string B] w fun e w' => e = .returned (.tuple #[.string (strOf p), .bool true]) ∧ Below w.heap.size w w') := Lib.hid hr
          have HF : Hid (UnRes (URadix.rdStd T e) t a = .tuple #[.string (strOf p), .nilIface]) := Lib.hid (by rw [HF0.out, hp]; rfl)
          clear hr hp
          generalize strOf p = P at *
          go_wp2_with (go_at_call 32; (with_reducible refine HR.out.mono ?_); rintro e' w1 ⟨rfl, hb1⟩)
          go_ret2
          exact ⟨by rw [HF.out]; rfl, hb1⟩
  · have hq : ((s.size : Int) % 4 == 0) = false := by rw [← Bool.not_eq_true, beq_iff_eq]; omega
    have HF : Hid (UnRes (URadix.rdStd T e) t a = .tuple #[.string { data := #[] }, .iface t (.pointer (some a))]) := Lib.hid (by
      unfold URadix.rdStd; rw [if_pos (by omega)]; rfl)
    have hb := Below.refl w.heap.size w
    clear hmod hsp hsz hT
    go_enter Tryd.func18, Tryd.ntmps18
    go_wp2
    have hc := HE.out.below hb
    unfold ErrText at hc
    refine wp_region_still_lit (by kernel_rfl) (by kernel_rfl) ?_
    repeat still_step
    refine wpStill_nil ?_
    change Exit.then _ _ _ _ w.drew
    have hbq := (hb).drew
    generalize w.drew = wq at *
    clear hc
    go_wp2
    go_ret2
    exact ⟨by rw [HF.out]; rfl, hbq⟩
theorem extract00 (s : ByteArray) : s.extract 0 0 = ByteArray.empty := by
  apply bytesOf_inj
  simp [bytesOf]
theorem ref_tail (s : ByteArray) (T : List (BitVec 8)) (e : Nat) (hsp : bytesOf s = T ++ List.replicate e 61#8) (n : Nat) (h0 : T.length ≤ n) (h1 : n < s.size) : s[n] = 61 := by
  have h := bytesOf_get s n h1
  rw [hsp, List.getElem?_append_right h0, List.getElem?_replicate] at h
  split at h
  · exact u8_ext.1 (Option.some.inj h).symm
  · cases h
theorem ref_last (s : ByteArray) (T : List (BitVec 8)) (e : Nat) (hsp : bytesOf s = T ++ List.replicate e 61#8) (hT : URadix.NoEq T) (h0 : 0 < T.length) (h1 : T.length - 1 < s.size) : s[T.length - 1] ≠ 61 := by
  intro h
  have h2 := bytesOf_get s (T.length - 1) h1
  rw [hsp, List.getElem?_append_left (by omega), h] at h2
  apply hT
  rw [List.getLast?_eq_getElem?]
  exact h2
theorem ref_pre (s : ByteArray) (T : List (BitVec 8)) (e : Nat) (hsp : bytesOf s = T ++ List.replicate e 61#8) : bytesOf (s.extract 0 T.length) = T := by
  have : bytesOf (s.extract 0 T.length) = (bytesOf s).take T.length := by simp [bytesOf, ByteArray.data_extract, List.map_take]
  rw [this, hsp, List.take_append_of_le_length (Nat.le_refl _), List.take_length]
set_option maxHeartbeats 1000000 in
set_option maxRecDepth 100000 in
theorem refUnStd_any (s : ByteArray) (w : World) (hs : s.size ≤ 16777216) (T : List (BitVec 8)) (e : Nat) (hsp : bytesOf s = T ++ List.replicate e 61#8) (hT : URadix.NoEq T) :
    Calls Tryd.prog 19 #[.string s] w fun e' w' => e' = .returned (RefRes (URadix.rdStdRef T e)) ∧ Below w.heap.size w w' := by
  have hsz : s.size = T.length + e := by rw [← bytesOf_length, hsp, List.length_append, List.length_replicate]
  have HSP := Lib.hid hsp
  have HT := Lib.hid hT
  have HPRE := Lib.hid (ref_pre s T e hsp)
  have hm := fun w' => meant6_any (s.extract 0 T.length) stdS w' (by rw [← bytesOf_length, ref_pre s T e hsp]; omega) (by decide)
  rw [stdS_b, ref_pre s T e hsp] at hm
  have HMM := Lib.hid hm
  clear hsp hT hm
  obtain ⟨tl, htl⟩ : ∃ tl, tl = T.length := ⟨_, rfl⟩
  have HTL := Lib.hid htl
  rw [← htl] at hsz HMM HPRE
  have hle : tl ≤ s.size := by omega
  have HSZ := Lib.hid hsz
  clear htl hsz
  go_enter Tryd.func19, Tryd.ntmps19
  go_wp2
  go_loop [4] (fun i => ∃ n : Nat, n ≤ s.size ∧ tl ≤ n ∧ i = .int .i64 n) (fun i => (intOf i).toNat)
  case atStart => exact ⟨s.size, Nat.le_refl _, hle, rfl⟩
  case round =>
    obtain ⟨n, hn, htn, rfl⟩ := hrel
    by_cases hlt : tl < n
    · obtain ⟨m, hm⟩ : ∃ m, m = n - 1 := ⟨_, rfl⟩
      have hmI : (n : Int) - 1 = (m : Int) := by omega
      have hms : m < s.size := by omega
      have hc := ref_tail s T e HSP.out m (by rw [← HTL.out]; omega) hms
      have hq : ((s[m].toNat : Int) == 61) = true := by rw [hc]; rfl
      have hgt : (0 : Int) < (n : Int) := by omega
      have hmb : (m : Int) < (s.size : Int) := by omega
      have hm0 : (0 : Int) ≤ (m : Int) := by omega
      have HMn := Lib.hid hm
      clear hc hm
      go_wp2
      go_round
      case rel => exact ⟨m, by omega, by have := HMn.out; omega, rfl⟩
      case measure => have := HMn.out; simp [intOf]; omega
    · obtain rfl : n = tl := by omega
      have HEXIT : Hid (n = 0 ∨ ∃ m, m = n - 1 ∧ ∃ h : m < s.size, 0 < n ∧ ((s[m].toNat : Int) == 61) = false) := Lib.hid (by
        by_cases h0 : n = 0
        · exact Or.inl h0
        · refine Or.inr ⟨n - 1, rfl, by omega, by omega, ?_⟩
          have h := ref_last s T e HSP.out HT.out (by rw [← HTL.out]; omega) (by rw [← HTL.out]; omega)
          rw [← Bool.not_eq_true, beq_iff_eq]
          intro hh
          apply h
          have : s[T.length - 1]'(by rw [← HTL.out]; omega) = s[n - 1]'(by omega) := by congr 1; rw [HTL.out]
          rw [this]
          exact UInt8.toNat_inj.1 (by have h61 : (61 : UInt8).toNat = 61 := rfl; omega))
      have hnS : (n : Int) ≤ (s.size : Int) := by omega
      cases ha : URadix.allIn URadix.stdA T with
      | false =>
        have HM : Hid (∀ w', Calls Tryd.prog 30 #[.string (s.extract 0 n), .int .i64 6, .string ⟨#[65, 66, 67, 68, 69, 70, 71, 72, 73, 74, 75, 76, 77, 78, 79, 80, 81, 82, 83, 84, 85, 86, 87, 88, 89, 90, 97, 98, 99, 100, 101, 102, 103, 104, 105, 106, 107, 108, 109, 110, 111, 112, 113, 114, 115, 116, 117, 118, 119, 120, 121, 122, 48, 49, 50, 51, 52, 53, 54, 55, 56, 57, 43, 47]⟩] w' fun e w2 => e = .returned (.tuple #[.string { data := #[] }, .bool false]) ∧ Below w'.heap.size w' w2) := Lib.hid (fun w' => by
          have h := HMM.out w'
          rw [meantRes_no ha] at h
          exact h)
        have HF : Hid (RefRes (URadix.rdStdRef T e) = .tuple #[.string { data := #[] }, .int .i64 2]) := Lib.hid (by
          unfold URadix.rdStdRef; rw [if_neg (fun x => by rw [ha] at x; exact absurd x.1 (by decide))]; rfl)
        have HU : Hid (∀ w', Calls Tryd.prog 35 #[.string { data := #[] }] w' fun e w2 => e = .returned (.string (strOf (URadix.std (bytesOf { data := #[] })))) ∧ Below w'.heap.size w' w2) := Lib.hid (fun w' => refStd_any ⟨#[]⟩ w' (by decide))
        generalize strOf (URadix.std (bytesOf { data := #[] })) = ZZ at *
        clear ha
        rcases HEXIT.out with h0 | ⟨m, hm, hms, h0, hq⟩
        · subst h0
          rw [show (((0 : Nat)) : Int) = (0 : Int) from rfl]
          have HM0 := HM.out
          rw [extract00] at HM0
          have HM := Lib.hid HM0
          clear HM0
          go_wp2_with (first
            | (go_at_call 30; (with_reducible refine (HM.out _).mono ?_); rintro e' w1 ⟨rfl, hb1⟩)
            | (go_at_call 35; (with_reducible refine (HU.out _).mono ?_); rintro e' w2 ⟨rfl, hb2⟩))
          go_ret2
          exact ⟨by rw [HF.out]; rfl, hb1.trans (hb2.mono hb1.size)⟩
        · have hmI : (n : Int) - 1 = (m : Int) := by omega
          have hgt : (0 : Int) < (n : Int) := by omega
          have hmb : (m : Int) < (s.size : Int) := by omega
          have hm0 : (0 : Int) ≤ (m : Int) := by omega
          clear hm
          go_wp2_with (first
            | (go_at_call 30; (with_reducible refine (HM.out _).mono ?_); rintro e' w1 ⟨rfl, hb1⟩)
            | (go_at_call 35; (with_reducible refine (HU.out _).mono ?_); rintro e' w2 ⟨rfl, hb2⟩))
          go_ret2
          exact ⟨by rw [HF.out]; rfl, hb1.trans (hb2.mono hb1.size)⟩
      | true =>
        have hsm := URadix.small_numsOf (by omega) URadix.alpha_std T
        have HM : Hid (∀ w', Calls Tryd.prog 30 #[.string (s.extract 0 n), .int .i64 6, .string ⟨#[65, 66, 67, 68, 69, 70, 71, 72, 73, 74, 75, 76, 77, 78, 79, 80, 81, 82, 83, 84, 85, 86, 87, 88, 89, 90, 97, 98, 99, 100, 101, 102, 103, 104, 105, 106, 107, 108, 109, 110, 111, 112, 113, 114, 115, 116, 117, 118, 119, 120, 121, 122, 48, 49, 50, 51, 52, 53, 54, 55, 56, 57, 43, 47]⟩] w' fun e w2 => e = .returned (.tuple #[.string (strOf (URadix.dec (URadix.numsOf URadix.stdA T))), .bool true]) ∧ Below w'.heap.size w' w2) := Lib.hid (fun w' => by
          have h := HMM.out w'
          rw [meantRes_yes ha, octs_dec hsm] at h
          exact h)
        have hdl : (strOf (URadix.dec (URadix.numsOf URadix.stdA T))).size ≤ 16777216 := by
          rw [strOf_size, URadix.dec_length, URadix.numsOf_length, ← HTL.out]; omega
        have HU0 : Hid (∀ w', Calls Tryd.prog 35 #[.string (strOf (URadix.dec (URadix.numsOf URadix.stdA T)))] w' fun e w2 => e = .returned (.string (strOf (URadix.std (URadix.dec (URadix.numsOf URadix.stdA T))))) ∧ Below w'.heap.size w' w2) := Lib.hid (fun w' => by
          have h := refStd_any (strOf (URadix.dec (URadix.numsOf URadix.stdA T))) w' hdl
          rw [bytesOf_strOf] at h
          exact h)
        clear hdl hsm
        obtain ⟨R, S, HF, HU, hne⟩ : ∃ (R : Value) (S : ByteArray), Hid (RefRes (URadix.rdStdRef T e) = R) ∧ Hid (∀ w', Calls Tryd.prog 35 #[.string (strOf (URadix.dec (URadix.numsOf URadix.stdA T)))] w' fun e w2 => e = .returned (.string S) ∧ Below w'.heap.size w' w2) ∧
            ((S = s ∧ R = .tuple #[.string (strOf (URadix.dec (URadix.numsOf URadix.stdA T))), .int .i64 0]) ∨ ((S.toList == s.toList) = false ∧ R = .tuple #[.string { data := #[] }, .int .i64 2])) := by
          by_cases hc : URadix.std (URadix.dec (URadix.numsOf URadix.stdA T)) = T ++ List.replicate e 61#8
          · refine ⟨.tuple #[.string (strOf (URadix.dec (URadix.numsOf URadix.stdA T))), .int .i64 0], s, Lib.hid (by unfold URadix.rdStdRef; rw [if_pos ⟨ha, hc⟩]; rfl), ?_, Or.inl ⟨rfl, rfl⟩⟩
            have h := HU0.out
            rw [hc, ← HSP.out, strOf_bytesOf] at h
            exact Lib.hid h
          · refine ⟨.tuple #[.string { data := #[] }, .int .i64 2], _, Lib.hid (by unfold URadix.rdStdRef; rw [if_neg (fun x => hc x.2)]; rfl), HU0, Or.inr ⟨?_, rfl⟩⟩
            exact str_ne (by rw [HSP.out]; exact hc)
        clear HU0 HMM ha
        generalize strOf (URadix.dec (URadix.numsOf URadix.stdA T)) = D at *
        rcases hne with ⟨rfl, rfl⟩ | ⟨hne, rfl⟩ <;> rcases HEXIT.out with h0 | ⟨m, hm, hms, h0, hq⟩
        · subst h0
          rw [show (((0 : Nat)) : Int) = (0 : Int) from rfl]
          have HM0 := HM.out
          rw [extract00] at HM0
          have HM := Lib.hid HM0
          clear HM0
          go_wp2_with (first
            | (go_at_call 30; (with_reducible refine (HM.out _).mono ?_); rintro e' w1 ⟨rfl, hb1⟩)
            | (go_at_call 35; (with_reducible refine (HU.out _).mono ?_); rintro e' w2 ⟨rfl, hb2⟩))
          go_ret2
          exact ⟨by rw [HF.out]; rfl, hb1.trans (hb2.mono hb1.size)⟩
        · have hmI : (n : Int) - 1 = (m : Int) := by omega
          have hgt : (0 : Int) < (n : Int) := by omega
          have hmb : (m : Int) < (S.size : Int) := by omega
          have hm0 : (0 : Int) ≤ (m : Int) := by omega
          clear hm
          go_wp2_with (first
            | (go_at_call 30; (with_reducible refine (HM.out _).mono ?_); rintro e' w1 ⟨rfl, hb1⟩)
            | (go_at_call 35; (with_reducible refine (HU.out _).mono ?_); rintro e' w2 ⟨rfl, hb2⟩))
          go_ret2
          exact ⟨by rw [HF.out]; rfl, hb1.trans (hb2.mono hb1.size)⟩
        · subst h0
          rw [show (((0 : Nat)) : Int) = (0 : Int) from rfl]
          have HM0 := HM.out
          rw [extract00] at HM0
          have HM := Lib.hid HM0
          clear HM0
          go_wp2_with (first
            | (go_at_call 30; (with_reducible refine (HM.out _).mono ?_); rintro e' w1 ⟨rfl, hb1⟩)
            | (go_at_call 35; (with_reducible refine (HU.out _).mono ?_); rintro e' w2 ⟨rfl, hb2⟩))
          go_ret2
          exact ⟨by rw [HF.out]; rfl, hb1.trans (hb2.mono hb1.size)⟩
        · have hmI : (n : Int) - 1 = (m : Int) := by omega
          have hgt : (0 : Int) < (n : Int) := by omega
          have hmb : (m : Int) < (s.size : Int) := by omega
          have hm0 : (0 : Int) ≤ (m : Int) := by omega
          clear hm
          go_wp2_with (first
            | (go_at_call 30; (with_reducible refine (HM.out _).mono ?_); rintro e' w1 ⟨rfl, hb1⟩)
            | (go_at_call 35; (with_reducible refine (HU.out _).mono ?_); rintro e' w2 ⟨rfl, hb2⟩))
          go_ret2
          exact ⟨by rw [HF.out]; rfl, hb1.trans (hb2.mono hb1.size)⟩
end Go.Proofs.YtoldmgpnogkjfaaDoor
