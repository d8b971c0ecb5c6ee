/- What was written is read back, walked. -/
import Derived.Test.YtoldmgpnogkjfaaDoorRadixUnStd
namespace Go.Proofs.YtoldmgpnogkjfaaDoor
open Go.RowKit
theorem urlSafe_yes (c : Nat) (w : World) (h : (65 ≤ c ∧ c ≤ 90) ∨ (97 ≤ c ∧ c ≤ 122) ∨ (48 ≤ c ∧ c ≤ 57) ∨ c = 45 ∨ c = 95) :
    Calls Tryd.prog 23 #[.int .u8 c] w fun e w' => e = .returned (.bool true) ∧ w = w' := by
  rcases h with h | h | h | h | h
  · go_enter Tryd.func23, Tryd.ntmps23
    go_wp2
    go_ret
    first
      | exact ⟨rfl, rfl⟩
      | exact ⟨by simp; omega, rfl⟩
  · go_enter Tryd.func23, Tryd.ntmps23
    go_wp2
    go_ret
    first
      | exact ⟨rfl, rfl⟩
      | exact ⟨by simp; omega, rfl⟩
  · go_enter Tryd.func23, Tryd.ntmps23
    go_wp2
    go_ret
    first
      | exact ⟨rfl, rfl⟩
      | exact ⟨by simp; omega, rfl⟩
  · subst h
    go_enter Tryd.func23, Tryd.ntmps23
    go_wp2
    go_ret
    exact ⟨rfl, rfl⟩
  · subst h
    go_enter Tryd.func23, Tryd.ntmps23
    go_wp2
    go_ret
    exact ⟨rfl, rfl⟩
theorem unRes_some (p : List (BitVec 8)) (t : TypeId) (a : Addr) : UnRes (some p) t a = .tuple #[.string (strOf p), .nilIface] := rfl
theorem safe_or (c : BitVec 8) (h : URadix.safe c = true) : (65 ≤ c.toNat ∧ c.toNat ≤ 90) ∨ (97 ≤ c.toNat ∧ c.toNat ≤ 122) ∨ (48 ≤ c.toNat ∧ c.toNat ≤ 57) ∨ c.toNat = 45 ∨ c.toNat = 95 := by
  unfold URadix.safe at h
  simp only [Bool.or_eq_true, Bool.and_eq_true, decide_eq_true_eq, beq_iff_eq] at h
  rcases h with (((h | h) | h) | h) | h
  · exact Or.inl h
  · exact Or.inr (Or.inl h)
  · exact Or.inr (Or.inr (Or.inl h))
  · exact Or.inr (Or.inr (Or.inr (Or.inl h)))
  · exact Or.inr (Or.inr (Or.inr (Or.inr h)))
set_option maxHeartbeats 2000000 in
set_option maxRecDepth 100000 in
theorem radixBack_walk (s : ByteArray) (w : World) (t : TypeId) (a : Addr) (hE : ErrText w t a) (hT : HexTab w) (hs : s.size ≤ 1048576) :
    Calls Tryd.prog 9 #[.string s] w fun e w' => e = .returned (.bool true) ∧ Below w.heap.size w w' := by
  have HE := Lib.hid hE
  have HT := Lib.hid hT
  clear hE hT
  have HU := Lib.hid (fun w' => url_prog s w' (by omega))
  have HS := Lib.hid (fun w' => std_prog s w' (by omega))
  have HH := Lib.hid (fun w' => hex_prog s w' (by omega))
  have hUs : (strOf (URadix.wr URadix.urlA (bytesOf s))).size = (8 * s.size + 5) / 6 := by rw [strOf_size, URadix.wr_length, bytesOf_length]
  have hSs : (strOf (URadix.std (bytesOf s))).size = (s.size + 2) / 3 * 4 := by rw [strOf_size, URadix.std_length, bytesOf_length]
  have hHs : (strOf (URadix.hx (bytesOf s))).size = 2 * s.size := by rw [strOf_size, URadix.hx_length, bytesOf_length]
  have bU := bytesOf_strOf (URadix.wr URadix.urlA (bytesOf s))
  have bS := bytesOf_strOf (URadix.std (bytesOf s))
  have bH := bytesOf_strOf (URadix.hx (bytesOf s))
  have HSAFE : Hid (∀ i (h : i < (strOf (URadix.wr URadix.urlA (bytesOf s))).size), URadix.safe ((strOf (URadix.wr URadix.urlA (bytesOf s)))[i].toBitVec) = true) := Lib.hid (fun i h => by
    have hl : i < (URadix.wr URadix.urlA (bytesOf s)).length := by rw [strOf_size] at h; exact h
    have e := bytesOf_get (strOf (URadix.wr URadix.urlA (bytesOf s))) i h
    rw [bU, List.getElem?_eq_getElem hl] at e
    rw [← Option.some.inj e]
    exact URadix.safe_wr _ i hl)
  generalize strOf (URadix.wr URadix.urlA (bytesOf s)) = U at *
  generalize strOf (URadix.std (bytesOf s)) = S at *
  generalize strOf (URadix.hx (bytesOf s)) = H at *
  have RU := fun w' => unUrl_ok U (bytesOf s) w' (by omega) (by rw [bU]; exact URadix.rd_wr URadix.alpha_url _)
  have RS := fun w' (h : ErrText w' t a) => unStd_any S w' t a h (by omega) (URadix.wr URadix.stdA (bytesOf s)) (URadix.padN (URadix.wr URadix.stdA (bytesOf s)).length) (by rw [bS]; rfl) (URadix.noEq_of_allIn (URadix.allIn_wr _))
  have RH := fun w' (h : ErrText w' t a) (h2 : HexTab w') => unHex_any H w' t a h h2 (by omega)
  rw [URadix.rdStd_std] at RS
  rw [bH, URadix.rdHex_hx] at RH
  rw [strOf_bytesOf] at RU
  have RS' : ∀ w', ErrText w' t a → Calls Tryd.prog 18 #[.string S] w' fun e w2 => e = .returned (.tuple #[.string s, .nilIface]) ∧ Below w'.heap.size w' w2 := fun w' h => by
    have hh := RS w' h
    rw [unRes_some, strOf_bytesOf] at hh
    exact hh
  have RH' : ∀ w', ErrText w' t a → HexTab w' → Calls Tryd.prog 13 #[.string H] w' fun e w2 => e = .returned (.tuple #[.string s, .nilIface]) ∧ Below w'.heap.size w' w2 := fun w' h h2 => by
    have hh := RH w' h h2
    rw [unRes_some, strOf_bytesOf] at hh
    exact hh
  have QU := Lib.hid RU
  have QS := Lib.hid RS'
  have QH := Lib.hid RH'
  have q1 : ((U.size : Int) == (8 * (s.size : Int) + 5) / 6) = true := by rw [beq_iff_eq]; omega
  have q1' : ((U.size : Int) != (8 * (s.size : Int) + 5) / 6) = false := by rw [bne, q1]; rfl
  have q2 : ((S.size : Int) == ((s.size : Int) + 2) / 3 * 4) = true := by rw [beq_iff_eq]; omega
  have q2' : ((S.size : Int) != ((s.size : Int) + 2) / 3 * 4) = false := by rw [bne, q2]; rfl
  have q3 : ((H.size : Int) == 2 * (s.size : Int)) = true := by rw [beq_iff_eq]; omega
  have q3' : ((H.size : Int) != 2 * (s.size : Int)) = false := by rw [bne, q3]; rfl
  have hUl : U.size ≤ 16777216 := by omega
  have b0 := Below.refl w.heap.size w
  clear hUs hSs hHs bU bS bH RU RS RH RS' RH'
  go_enter Tryd.func9, Tryd.ntmps9
  go_wp2_with (first
    | (go_at_call 21; (with_reducible refine (HU.out _).mono ?_); rintro e w1 ⟨rfl, hb1⟩; have b1 := b0.trans (hb1.mono b0.size))
    | (go_at_call 22; (with_reducible refine (HS.out _).mono ?_); rintro e w2 ⟨rfl, hb2⟩; have b2 := b1.trans (hb2.mono b1.size))
    | (go_at_call 11; (with_reducible refine (HH.out _ (HT.out.below b2)).mono ?_); rintro e w3 ⟨rfl, hb3⟩; have b3 := b2.trans (hb3.mono b2.size)))
  clear q1 q1' q2 q2' q3 q3'
  go_loop [7] (fun i => ∃ k : Nat, k ≤ U.size ∧ i = .int .i64 k) (fun i => U.size - (intOf i).toNat)
  case atStart => exact ⟨0, Nat.zero_le _, rfl⟩
  case round =>
    obtain ⟨k, hk, rfl⟩ := hrel
    by_cases hlt : k < U.size
    · have HSF := Lib.hid (urlSafe_yes U[k].toNat w3 (safe_or _ (HSAFE.out k hlt)))
      have hkI : (k : Int) < (U.size : Int) := by omega
      go_wp2_with (go_at_call 23; (with_reducible refine HSF.out.mono ?_); rintro e w4 ⟨rfl, rfl⟩)
      go_round
      case rel => exact ⟨k + 1, by omega, by go_num⟩
      case measure => simp [intOf]; omega
    · obtain rfl : k = U.size := by omega
      go_wp2_with (first
        | (go_at_call 16; (with_reducible refine (QU.out _).mono ?_); rintro e w4 ⟨rfl, hb4⟩; have b4 := b3.trans (hb4.mono b3.size))
        | (go_at_call 18; (with_reducible refine (QS.out _ (HE.out.below b4)).mono ?_); rintro e w5 ⟨rfl, hb5⟩; have b5 := b4.trans (hb5.mono b4.size))
        | (go_at_call 13; (with_reducible refine (QH.out _ (HE.out.below b5) (HT.out.below b5)).mono ?_); rintro e w6 ⟨rfl, hb6⟩; have b6 := b5.trans (hb6.mono b5.size)))
      go_ret
      exact ⟨by simp, b6⟩
end Go.Proofs.YtoldmgpnogkjfaaDoor
