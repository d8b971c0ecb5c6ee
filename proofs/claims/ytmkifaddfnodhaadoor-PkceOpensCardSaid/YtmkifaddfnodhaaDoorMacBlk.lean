/- The reference's block of a key and its Mac, walked. -/
import Derived.Test.YtmkifaddfnodhaaDoorHashTwo
import Derived.Test.YtmkifaddfnodhaaDoorConv
namespace Go.Proofs.YtmkifaddfnodhaaDoor
open Go.RowKit
theorem below_own {B : Nat} {a w w' : World} {e : TypeId} {size : Nat} {v : Value} {n : Nat} {xs : List Value} (hb : Below B a w) (hB : B ≤ w.heap.size) (hown : w.ownsRow B e size v n xs) (o : Obj) (hg : (w.alloc o).grownBy w' v.ownBlock) : Below B a w' :=
  (hb.alloc hB _).grown hg (by simp; omega) (fun g h => (hown.lt g h).1)
theorem kpad_at (K : List (BitVec 8)) (c : BitVec 8) (k : Nat) (hK : K.length ≤ 64) (h : k < 64) : (USha.kpad K c)[k]? = some (K.getD k 0#8 ^^^ c) := by
  unfold USha.kpad
  rw [List.getElem?_map]
  by_cases hk : k < K.length
  · rw [List.getElem?_append_left hk, List.getD_eq_getElem?_getD, List.getElem?_eq_getElem hk]; rfl
  · rw [List.getElem?_append_right (by omega), List.getElem?_replicate, if_pos (by omega), List.getD_eq_getElem?_getD, List.getElem?_eq_none (by omega)]; rfl
theorem kpad_in (s : ByteArray) (c : BitVec 8) (k : Nat) (hs : s.size ≤ 64) (h : k < 64) (hk : k < s.size) : (USha.kpad (bytesOf s) c).take (k + 1) = (USha.kpad (bytesOf s) c).take k ++ [s[k].toBitVec ^^^ c] := by
  apply take_snoc
  rw [kpad_at _ _ _ (by rw [bytesOf_length]; exact hs) h, List.getD_eq_getElem?_getD, bytesOf_get s k hk]; rfl
theorem kpad_out (s : ByteArray) (c : BitVec 8) (k : Nat) (hs : s.size ≤ 64) (h : k < 64) (hk : ¬ k < s.size) : (USha.kpad (bytesOf s) c).take (k + 1) = (USha.kpad (bytesOf s) c).take k ++ [c] := by
  apply take_snoc
  rw [kpad_at _ _ _ (by rw [bytesOf_length]; exact hs) h, List.getD_eq_getElem?_getD, List.getElem?_eq_none (by rw [bytesOf_length]; omega), Option.getD_none, BitVec.zero_xor]
set_option maxHeartbeats 2000000 in
theorem block_any (s : ByteArray) (c : BitVec 8) (w : World) (hs : s.size ≤ 281474976710656) (ht : ShaTabs w) :
    Calls Tryd.prog 57 #[.string s, .int .u8 c.toNat] w fun e w' => e = .returned (.string (strOf (USha.kpad (USha.keyOf (bytesOf s)) c))) ∧ Below w.heap.size w w' := by
  obtain ⟨i0, hi, hz0, hz1, hz2⟩ := info_parts info8
  by_cases hl : 64 < s.size
  · have hK : USha.keyOf (bytesOf s) = USha.sha (bytesOf s) := by unfold USha.keyOf; rw [bytesOf_length, if_pos hl]
    have HSH := Lib.hid (sha_ref s w hs ht.rf ht.rr)
    have hks : (strOf (USha.sha (bytesOf s))).size ≤ 64 := by rw [strOf_size, USha.sha_len32]; omega
    have HKEY : Hid (USha.keyOf (bytesOf s) = bytesOf (strOf (USha.sha (bytesOf s)))) := Lib.hid (by rw [bytesOf_strOf]; exact hK)
    have hlI : (64 : Int) < (s.size : Int) := by omega
    generalize strOf (USha.sha (bytesOf s)) = kS at *
    clear hK hl ht
    go_enter Tryd.func57, Tryd.ntmps57
    go_wp2_with (go_at_call 36; (with_reducible refine HSH.out.mono ?_); rintro e wT ⟨rfl, hbT⟩)
    clear HSH
    go_loopw [5, 6, 7] (fun o i _ wr => ∃ k : Nat, k ≤ 64 ∧ i = .int .i64 k ∧ wr.ownsRow wT.heap.size 5 1 o k (u8s ((USha.kpad (bytesOf kS) c).take k)) ∧ Below wT.heap.size wT wr) (fun _ i _ _ => 64 - (intOf i).toNat)
    case atStart => exact ⟨0, Nat.zero_le _, rfl, by simpa [u8s] using World.ownsRow_nil wT wT.heap.size 5 1, Below.refl _ _⟩
    case round =>
      rename World => wr
      obtain ⟨k, hk, rfl, hown, hbr⟩ := hrel
      by_cases hlt : k < 64
      · have hsz := hbr.size
        by_cases hin : k < kS.size
        · have HS := Lib.hid (kpad_in kS c k hks hlt hin)
          have ex : bits .xor .u8 (kS[k].toNat : Int) (c.toNat : Int) = ((kS[k].toBitVec ^^^ c).toNat : Int) := by
            have h := Bv.xor8 kS[k].toBitVec (c.toNat : Int)
            rw [Bv.ofInt_toNat] at h
            exact h
          generalize kS[k].toBitVec ^^^ c = x at *
          go_wp2_with (at_builtin; refine wpList_append_own _ rfl _ _ 53 rfl wT.heap.size 5 i0 (.int .u8 0) 1 1 Tryd.underlying53 hi hz0 hz1 hz2 rfl (by decide) _ _ _ rfl (hown.alloc _) ⟨wr.heap.size, 0, none⟩ 1 1 [.int .u8 (x.toNat : Int)] rfl rfl (cell_one_new' _ _ _) ?c2 ?c3 ?c4 ?c5 ?_)
          case c2 => first | (intro u hu; simp at hu; subst hu; rfl) | rfl
          case c3 => unfold maxLen; omega
          case c4 => omega
          case c5 => first | (simp; omega) | omega
          intro v' w1 hown' hgrow _
          have hb1 : Below wT.heap.size wT w1 := below_own hbr hsz hown _ hgrow
          rw [show [Value.int .u8 (x.toNat : Int)] = u8s [x] from rfl, ← u8s_append, ← HS.out] at hown'
          clear hgrow hbr hown ex
          go_wp2
          go_roundw
          case rel => exact ⟨k + 1, by omega, by go_num, hown', hb1⟩
          case measure => simp [intOf]; omega
        · obtain ⟨x, hx⟩ : ∃ x, x = c := ⟨_, rfl⟩
          have HS : Hid ((USha.kpad (bytesOf kS) c).take (k + 1) = (USha.kpad (bytesOf kS) c).take k ++ [x]) := Lib.hid (by rw [hx]; exact kpad_out kS c k hks hlt hin)
          have ex : bits .xor .u8 0 (c.toNat : Int) = (x.toNat : Int) := by
            have h := Bv.xor8 0#8 (c.toNat : Int)
            rw [Bv.ofInt_toNat, BitVec.zero_xor] at h
            rw [hx]
            exact h
          clear hx
          go_wp2_with (at_builtin; refine wpList_append_own _ rfl _ _ 53 rfl wT.heap.size 5 i0 (.int .u8 0) 1 1 Tryd.underlying53 hi hz0 hz1 hz2 rfl (by decide) _ _ _ rfl (hown.alloc _) ⟨wr.heap.size, 0, none⟩ 1 1 [.int .u8 (x.toNat : Int)] rfl rfl (cell_one_new' _ _ _) ?c2 ?c3 ?c4 ?c5 ?_)
          case c2 => first | (intro u hu; simp at hu; subst hu; rfl) | rfl
          case c3 => unfold maxLen; omega
          case c4 => omega
          case c5 => first | (simp; omega) | omega
          intro v' w1 hown' hgrow _
          have hb1 : Below wT.heap.size wT w1 := below_own hbr hsz hown _ hgrow
          rw [show [Value.int .u8 (x.toNat : Int)] = u8s [x] from rfl, ← u8s_append, ← HS.out] at hown'
          clear hgrow hbr hown ex
          go_wp2
          go_roundw
          case rel => exact ⟨k + 1, by omega, by go_num, hown', hb1⟩
          case measure => simp [intOf]; omega
      · obtain rfl : k = 64 := by omega
        rw [List.take_of_length_le (by rw [USha.kpad_length _ _ (by rw [bytesOf_length]; exact hks)]; omega)] at hown
        have hcv := conv_own hown
        rw [show (((64 : Nat)) : Int) = (64 : Int) from rfl]
        generalize hres : strOf (USha.kpad (bytesOf kS) c) = res at *
        have HRES := Lib.hid hres
        clear hres
        go_wp2
        go_ret
        exact ⟨by rw [HKEY.out, HRES.out]; rfl, hbT.trans (hbr.mono hbT.size)⟩
  · have hK : USha.keyOf (bytesOf s) = bytesOf s := by unfold USha.keyOf; rw [bytesOf_length, if_neg hl]
    have hks : s.size ≤ 64 := by omega
    have HKEY := Lib.hid hK
    clear hK ht hs
    go_enter Tryd.func57, Tryd.ntmps57
    go_wp2
    go_loopw [5, 6, 7] (fun o i _ wr => ∃ k : Nat, k ≤ 64 ∧ i = .int .i64 k ∧ wr.ownsRow w.heap.size 5 1 o k (u8s ((USha.kpad (bytesOf s) c).take k)) ∧ Below w.heap.size w wr) (fun _ i _ _ => 64 - (intOf i).toNat)
    case atStart => exact ⟨0, Nat.zero_le _, rfl, by simpa [u8s] using World.ownsRow_nil w w.heap.size 5 1, Below.refl _ _⟩
    case round =>
      rename World => wr
      obtain ⟨k, hk, rfl, hown, hbr⟩ := hrel
      by_cases hlt : k < 64
      · have hsz := hbr.size
        by_cases hin : k < s.size
        · have HS := Lib.hid (kpad_in s c k hks hlt hin)
          have ex : bits .xor .u8 (s[k].toNat : Int) (c.toNat : Int) = ((s[k].toBitVec ^^^ c).toNat : Int) := by
            have h := Bv.xor8 s[k].toBitVec (c.toNat : Int)
            rw [Bv.ofInt_toNat] at h
            exact h
          generalize s[k].toBitVec ^^^ c = x at *
          go_wp2_with (at_builtin; refine wpList_append_own _ rfl _ _ 53 rfl w.heap.size 5 i0 (.int .u8 0) 1 1 Tryd.underlying53 hi hz0 hz1 hz2 rfl (by decide) _ _ _ rfl (hown.alloc _) ⟨wr.heap.size, 0, none⟩ 1 1 [.int .u8 (x.toNat : Int)] rfl rfl (cell_one_new' _ _ _) ?c2 ?c3 ?c4 ?c5 ?_)
          case c2 => first | (intro u hu; simp at hu; subst hu; rfl) | rfl
          case c3 => unfold maxLen; omega
          case c4 => omega
          case c5 => first | (simp; omega) | omega
          intro v' w1 hown' hgrow _
          have hb1 : Below w.heap.size w w1 := below_own hbr hsz hown _ hgrow
          rw [show [Value.int .u8 (x.toNat : Int)] = u8s [x] from rfl, ← u8s_append, ← HS.out] at hown'
          clear hgrow hbr hown ex
          go_wp2
          go_roundw
          case rel => exact ⟨k + 1, by omega, by go_num, hown', hb1⟩
          case measure => simp [intOf]; omega
        · obtain ⟨x, hx⟩ : ∃ x, x = c := ⟨_, rfl⟩
          have HS : Hid ((USha.kpad (bytesOf s) c).take (k + 1) = (USha.kpad (bytesOf s) c).take k ++ [x]) := Lib.hid (by rw [hx]; exact kpad_out s c k hks hlt hin)
          have ex : bits .xor .u8 0 (c.toNat : Int) = (x.toNat : Int) := by
            have h := Bv.xor8 0#8 (c.toNat : Int)
            rw [Bv.ofInt_toNat, BitVec.zero_xor] at h
            rw [hx]
            exact h
          clear hx
          go_wp2_with (at_builtin; refine wpList_append_own _ rfl _ _ 53 rfl w.heap.size 5 i0 (.int .u8 0) 1 1 Tryd.underlying53 hi hz0 hz1 hz2 rfl (by decide) _ _ _ rfl (hown.alloc _) ⟨wr.heap.size, 0, none⟩ 1 1 [.int .u8 (x.toNat : Int)] rfl rfl (cell_one_new' _ _ _) ?c2 ?c3 ?c4 ?c5 ?_)
          case c2 => first | (intro u hu; simp at hu; subst hu; rfl) | rfl
          case c3 => unfold maxLen; omega
          case c4 => omega
          case c5 => first | (simp; omega) | omega
          intro v' w1 hown' hgrow _
          have hb1 : Below w.heap.size w w1 := below_own hbr hsz hown _ hgrow
          rw [show [Value.int .u8 (x.toNat : Int)] = u8s [x] from rfl, ← u8s_append, ← HS.out] at hown'
          clear hgrow hbr hown ex
          go_wp2
          go_roundw
          case rel => exact ⟨k + 1, by omega, by go_num, hown', hb1⟩
          case measure => simp [intOf]; omega
      · obtain rfl : k = 64 := by omega
        rw [List.take_of_length_le (by rw [USha.kpad_length _ _ (by rw [bytesOf_length]; exact hks)]; omega)] at hown
        have hcv := conv_own hown
        rw [show (((64 : Nat)) : Int) = (64 : Int) from rfl]
        generalize hres : strOf (USha.kpad (bytesOf s) c) = res at *
        have HRES := Lib.hid hres
        clear hres
        go_wp2
        go_ret
        exact ⟨by rw [HKEY.out, HRES.out]; rfl, hbr⟩
set_option maxHeartbeats 1000000 in
theorem refMac_any (key msg : ByteArray) (w : World) (hk : key.size ≤ 140737488355328) (hm : msg.size ≤ 140737488355328) (ht : ShaTabs w) :
    Calls Tryd.prog 51 #[.string key, .string msg] w fun e w' => e = .returned (.string (strOf (USha.hmac (bytesOf key) (bytesOf msg)))) ∧ Below w.heap.size w w' := by
  have HT := Lib.hid ht
  have HB : Hid (∀ w', Below w.heap.size w w' → Calls Tryd.prog 57 #[.string key, .int .u8 54] w' fun e w2 => e = .returned (.string (strOf (USha.kpad (USha.keyOf (bytesOf key)) 54#8))) ∧ Below w'.heap.size w' w2) := Lib.hid (fun w' h => block_any key 54#8 w' (by omega) (HT.out.below h))
  have HB2 : Hid (∀ w', Below w.heap.size w w' → Calls Tryd.prog 57 #[.string key, .int .u8 92] w' fun e w2 => e = .returned (.string (strOf (USha.kpad (USha.keyOf (bytesOf key)) 92#8))) ∧ Below w'.heap.size w' w2) := Lib.hid (fun w' h => block_any key 92#8 w' (by omega) (HT.out.below h))
  have hkl := USha.keyOf_length (bytesOf key)
  have s1 : (strOf (USha.kpad (USha.keyOf (bytesOf key)) 54#8)).size = 64 := by rw [strOf_size, USha.kpad_length _ _ hkl]
  have s2 : (strOf (USha.kpad (USha.keyOf (bytesOf key)) 92#8)).size = 64 := by rw [strOf_size, USha.kpad_length _ _ hkl]
  have b1 := bytesOf_strOf (USha.kpad (USha.keyOf (bytesOf key)) 54#8)
  have b2 := bytesOf_strOf (USha.kpad (USha.keyOf (bytesOf key)) 92#8)
  have HRES : Hid (USha.hmac (bytesOf key) (bytesOf msg) = USha.sha (bytesOf (strOf (USha.kpad (USha.keyOf (bytesOf key)) 92#8)) ++ USha.sha (bytesOf (strOf (USha.kpad (USha.keyOf (bytesOf key)) 54#8)) ++ bytesOf msg))) := Lib.hid (by rw [b1, b2]; rfl)
  generalize strOf (USha.kpad (USha.keyOf (bytesOf key)) 54#8) = k1 at *
  generalize strOf (USha.kpad (USha.keyOf (bytesOf key)) 92#8) = k2 at *
  have HS1 : Hid (∀ w', Below w.heap.size w w' → Calls Tryd.prog 36 #[.string (k1 ++ msg)] w' fun e w2 => e = .returned (.string (strOf (USha.sha (bytesOf k1 ++ bytesOf msg)))) ∧ Below w'.heap.size w' w2) := Lib.hid (fun w' h => by
    have hc := sha_ref (k1 ++ msg) w' (by rw [ByteArray.size_append]; omega) (HT.out.below h).rf (HT.out.below h).rr
    rw [bytesOf_append] at hc
    exact hc)
  have d1 := bytesOf_strOf (USha.sha (bytesOf k1 ++ bytesOf msg))
  have d2 : (strOf (USha.sha (bytesOf k1 ++ bytesOf msg))).size = 32 := by rw [strOf_size, USha.sha_len32]
  have HRES2 : Hid (USha.hmac (bytesOf key) (bytesOf msg) = USha.sha (bytesOf k2 ++ bytesOf (strOf (USha.sha (bytesOf k1 ++ bytesOf msg))))) := Lib.hid (by rw [d1]; exact HRES.out)
  generalize strOf (USha.sha (bytesOf k1 ++ bytesOf msg)) = dd at *
  have HS2 : Hid (∀ w', Below w.heap.size w w' → Calls Tryd.prog 36 #[.string (k2 ++ dd)] w' fun e w2 => e = .returned (.string (strOf (USha.hmac (bytesOf key) (bytesOf msg)))) ∧ Below w'.heap.size w' w2) := Lib.hid (fun w' h => by
    have hc := sha_ref (k2 ++ dd) w' (by rw [ByteArray.size_append]; omega) (HT.out.below h).rf (HT.out.below h).rr
    rw [bytesOf_append, ← HRES2.out] at hc
    exact hc)
  have z1 : k1.size + msg.size ≤ 140737488355392 := by omega
  have z2 : k2.size + dd.size ≤ 96 := by omega
  have b0 := Below.refl w.heap.size w
  generalize strOf (USha.hmac (bytesOf key) (bytesOf msg)) = res at *
  clear ht hkl s1 s2 d1 d2 HRES HRES2
  clear b1 b2
  go_enter Tryd.func51, Tryd.ntmps51
  go_wp2_with (first
    | (go_at_call 57; (with_reducible refine (HB.out _ b0).mono ?_); rintro e w1 ⟨rfl, hb1⟩; have c1 := b0.trans (hb1.mono b0.size))
    | (go_at_call 57; (with_reducible refine (HB2.out _ c1).mono ?_); rintro e w2 ⟨rfl, hb2⟩; have c2 := c1.trans (hb2.mono c1.size))
    | (go_at_call 36; (with_reducible refine (HS1.out _ c2).mono ?_); rintro e w3 ⟨rfl, hb3⟩; have c3 := c2.trans (hb3.mono c2.size))
    | (go_at_call 36; (with_reducible refine (HS2.out _ c3).mono ?_); rintro e w4 ⟨rfl, hb4⟩; have c4 := c3.trans (hb4.mono c3.size)))
  go_ret
  exact ⟨rfl, c4⟩
end Go.Proofs.YtmkifaddfnodhaaDoor
