/- A stretched password in plain words: the Macs of all rounds, xored. -/
import Derived.Test.YtmkifaddfnodhaaDoorHashTwo
namespace Go.Proofs.YtmkifaddfnodhaaDoor
open Go.RowKit
namespace USha
theorem hmac_len (k m : List B8) : (hmac k m).length = 32 := by unfold hmac; rw [sha_len32]
def xorL (a b : List B8) : List B8 := List.zipWith (· ^^^ ·) a b
theorem xorL_length (a b : List B8) (h : a.length = b.length) : (xorL a b).length = a.length := by unfold xorL; rw [List.length_zipWith]; omega
theorem xorL_get (a b : List B8) (j : Nat) (ha : j < a.length) (hb : j < b.length) : (xorL a b)[j]? = some (a.getD j 0#8 ^^^ b.getD j 0#8) := by
  unfold xorL
  rw [List.getElem?_zipWith, List.getElem?_eq_getElem ha, List.getElem?_eq_getElem hb, List.getD_eq_getElem?_getD, List.getD_eq_getElem?_getD, List.getElem?_eq_getElem ha, List.getElem?_eq_getElem hb]; rfl
/-- the Mac of a round -/
def stU (p s : List B8) : Nat → List B8
  | 0 => hmac p (s ++ [0#8, 0#8, 0#8, 1#8])
  | n + 1 => hmac p (stU p s n)
theorem stU_len (p s : List B8) (n : Nat) : (stU p s n).length = 32 := by cases n <;> exact hmac_len _ _
/-- the Macs of rounds 0 to n, xored -/
def stT (p s : List B8) : Nat → List B8
  | 0 => stU p s 0
  | n + 1 => xorL (stT p s n) (stU p s (n + 1))
theorem stT_len (p s : List B8) (n : Nat) : (stT p s n).length = 32 := by
  induction n with
  | zero => exact stU_len p s 0
  | succ n ih => exact (xorL_length _ _ (by rw [ih, stU_len])).trans ih
/-- the first j bytes xored already -/
def xmix (a b : List B8) (j : Nat) : List B8 := (xorL a b).take j ++ a.drop j
theorem xmix_zero (a b : List B8) : xmix a b 0 = a := by simp [xmix]
theorem xmix_full (a b : List B8) (j : Nat) (h : a.length = b.length) (hj : a.length ≤ j) : xmix a b j = xorL a b := by
  unfold xmix
  rw [List.take_of_length_le (by rw [xorL_length _ _ h]; exact hj), List.drop_of_length_le hj, List.append_nil]
end USha
theorem xmix_get (a b : List (BitVec 8)) (j : Nat) (h : a.length = b.length) (hj : j < a.length) : (u8s (USha.xmix a b j))[j]? = some (.int .u8 ((a.getD j 0#8).toNat : Int)) := by
  unfold u8s USha.xmix
  rw [List.getElem?_map, List.getElem?_append_right (by rw [List.length_take, USha.xorL_length _ _ h]; omega), List.length_take, USha.xorL_length _ _ h, Nat.min_eq_left (by omega), Nat.sub_self, List.getElem?_drop, Nat.add_zero, List.getElem?_eq_getElem hj, List.getD_eq_getElem?_getD, List.getElem?_eq_getElem hj]; rfl
theorem xmix_set (a b : List (BitVec 8)) (j : Nat) (h : a.length = b.length) (hj : j < a.length) : (u8s (USha.xmix a b j)).set j (.int .u8 ((a.getD j 0#8 ^^^ b.getD j 0#8).toNat : Int)) = u8s (USha.xmix a b (j + 1)) := by
  have e : USha.xmix a b (j + 1) = (USha.xmix a b j).set j (a.getD j 0#8 ^^^ b.getD j 0#8) := by
    unfold USha.xmix
    rw [List.set_append_right _ _ (by rw [List.length_take, USha.xorL_length _ _ h]; omega), List.length_take, USha.xorL_length _ _ h, Nat.min_eq_left (by omega), Nat.sub_self, List.drop_eq_getElem_cons hj, List.set_cons_zero, take_snoc _ j _ (USha.xorL_get a b j hj (by omega)), List.append_assoc]; rfl
  rw [e]
  simp [u8s, List.map_set]
/-- whatever a Mac is asked for, the two digests of the key give it -/
def SignedAt (key : List (BitVec 8)) (CA CB : List Value) (w : World) : Prop := ∀ (w' : World) (msg : ByteArray), Below w.heap.size w w' → msg.size ≤ 281474976710656 →
  Calls Tryd.prog 50 #[.agg CA.toArray, .agg CB.toArray, .string msg] w' fun e w2 => e = .returned (.string (strOf (USha.hmac key (bytesOf msg)))) ∧ Below w'.heap.size w' w2
theorem SignedAt.go {key : List (BitVec 8)} {CA CB : List Value} {w : World} (h : SignedAt key CA CB w) (w' : World) (msg : ByteArray) (hb : Below w.heap.size w w') (hm : msg.size ≤ 281474976710656) :
    Calls Tryd.prog 50 #[.agg CA.toArray, .agg CB.toArray, .string msg] w' fun e w2 => e = .returned (.string (strOf (USha.hmac key (bytesOf msg)))) ∧ Below w'.heap.size w' w2 := h w' msg hb hm
/-- what keyed hands back, as its callers use it -/
def KeyedAt (key : List (BitVec 8)) (w : World) (e : Ending) (w' : World) : Prop := ∃ CA CB : List Value, e = .returned (.tuple #[.agg CA.toArray, .agg CB.toArray]) ∧ CA.length = 74 ∧ CB.length = 74 ∧ (∀ v ∈ CA, v.oneCell' = true) ∧ (∀ v ∈ CB, v.oneCell' = true) ∧ Hid (SignedAt key CA CB w) ∧ Below w.heap.size w w'
theorem keyedAt (key : ByteArray) (w : World) (hk : key.size ≤ 281474976710656) (ht : PTabs w) : Calls Tryd.prog 49 #[.string key] w (KeyedAt (bytesOf key) w) := by
  refine (keyed_any key w hk ht).mono fun e w' h => ?_
  obtain ⟨v1, v2, r1, r2, h1, h2, rfl, hH1, hH2, hb⟩ := h
  have hkl := USha.keyOf_length (bytesOf key)
  have hp1 := USha.kpad_length (USha.keyOf (bytesOf key)) 54#8 hkl
  have hp2 := USha.kpad_length (USha.keyOf (bytesOf key)) 92#8 hkl
  refine ⟨_, _, rfl, hc_length _ _ _ _ hH1.len, hc_length _ _ _ _ hH2.len, hc_one _ _ _ _, hc_one _ _ _ _, Lib.hid (fun w2 msg h2' hm => ?_), hb⟩
  have hc := signed_any v1 v2 r1 r2 h1 h2 _ _ msg w2 hH1 hH2 hm (by omega) (by omega) (ht.below h2')
  rw [hp1, hp2] at hc
  exact hc
end Go.Proofs.YtmkifaddfnodhaaDoor
