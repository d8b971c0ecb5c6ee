/- The two digests of a key and what is signed with them, walked: signed. -/
import Derived.Test.YtmkifaddfnodhaaDoorHashSha
import Derived.Test.YtmkifaddfnodhaaDoorShaTabs
namespace Go.Proofs.YtmkifaddfnodhaaDoor
open Go.RowKit
namespace USha
/-- the key as the block takes it -/
def keyOf (k : List B8) : List B8 := if 64 < k.length then sha k else k
/-- a block of a key, each byte xored -/
def kpad (k : List B8) (c : B8) : List B8 := (k ++ List.replicate (64 - k.length) 0#8).map (· ^^^ c)
/-- RFC 2104 -/
def hmac (k m : List B8) : List B8 := sha (kpad (keyOf k) 0x5c#8 ++ sha (kpad (keyOf k) 0x36#8 ++ m))
theorem sha_len32 (m : List B8) : (sha m).length = 32 := rfl
theorem keyOf_length (k : List B8) : (keyOf k).length ≤ 64 := by
  unfold keyOf
  split
  · rw [sha_len32]; omega
  · omega
theorem kpad_length (k : List B8) (c : B8) (h : k.length ≤ 64) : (kpad k c).length = 64 := by
  unfold kpad
  rw [List.length_map, List.length_append, List.length_replicate]; omega
end USha
theorem hc_box (w : World) (v : USha.St) (r : List (BitVec 8)) (h n : Int) : Blk (w.alloc (.cells (hc v r h n).toArray 70)) w.heap.size 70 (hc v r h n) := Blk.new w _ _
theorem Aside.size2 {g : Nat} {w w' : World} (h : Aside g w w') : w.heap.size ≤ w'.heap.size := h.size
set_option maxHeartbeats 1000000 in
theorem signed_any (v1 v2 : USha.St) (r1 r2 : List (BitVec 8)) (h1 h2 : Nat) (M1 M2 : List (BitVec 8)) (msg : ByteArray) (w : World) (hH1 : USha.Holds v1 r1 h1 M1) (hH2 : USha.Holds v2 r2 h2 M2)
    (hm : msg.size ≤ 281474976710656) (hM1 : M1.length ≤ 64) (hM2 : M2.length ≤ 64) (ht : PTabs w) :
    Calls Tryd.prog 50 #[.agg (hc v1 r1 (h1 : Nat) (M1.length : Int)).toArray, .agg (hc v2 r2 (h2 : Nat) (M2.length : Int)).toArray, .string msg] w fun e w' => e = .returned (.string (strOf (USha.sha (M2 ++ USha.sha (M1 ++ bytesOf msg))))) ∧ Below w.heap.size w w' := by
  have hlt := ht.lt
  have HH1 := Lib.hid hH1
  have HH2 := Lib.hid hH2
  have HT := Lib.hid ht
  clear hH1 hH2 ht
  go_enter Tryd.func50, Tryd.ntmps50
  go_upto_region 1 with fail
  have hA0 : Blk (w.alloc (.cells (hc v1 r1 (h1 : Nat) (M1.length : Int)).toArray 70)) w.heap.size 70 (hc v1 r1 (h1 : Nat) (M1.length : Int)) := hc_box w _ _ _ _
  have hA := hA0.alloc (.cells (hc v2 r2 (h2 : Nat) (M2.length : Int)).toArray 70)
  have hB := hc_box (w.alloc (.cells (hc v1 r1 (h1 : Nat) (M1.length : Int)).toArray 70)) v2 r2 (h2 : Nat) (M2.length : Int)
  rw [show (w.alloc (.cells (hc v1 r1 (h1 : Nat) (M1.length : Int)).toArray 70)).heap.size = w.heap.size + 1 by simp] at hB
  have hb : Below w.heap.size w ((w.alloc (.cells (hc v1 r1 (h1 : Nat) (M1.length : Int)).toArray 70)).alloc (.cells (hc v2 r2 (h2 : Nat) (M2.length : Int)).toArray 70)) := ((Below.refl _ _).alloc (Nat.le_refl _) _).alloc (by simp) _
  generalize (w.alloc (.cells (hc v1 r1 (h1 : Nat) (M1.length : Int)).toArray 70)).alloc (.cells (hc v2 r2 (h2 : Nat) (M2.length : Int)).toArray 70) = w2 at *
  clear hA0
  obtain ⟨g2, hg2⟩ : ∃ g2, g2 = w.heap.size + 1 := ⟨_, rfl⟩
  rw [← hg2] at hB
  rw [← hg2]
  have hg12 : w.heap.size < g2 := by omega
  clear hg2
  have HA := Lib.hid (add_any w.heap.size v1 r1 h1 M1 msg w2 hA HH1.out (by unfold maxLen; omega) (by omega) (HT.out.below hb).pr (by omega))
  clear hA
  have HB := Lib.hid hB
  clear hB
  go_wp2_with (go_at_call 29; (with_reducible refine HA.out.mono ?_); rintro e w3 ⟨rfl, ha3, v3, r3, n3, hA3, hH3⟩)
  have hb3 := hb.trans (ha3.below hb.size (Nat.le_refl _))
  have HB3 := Lib.hid (ha3.blk HB.out (by omega))
  rw [show M1.length + msg.size = (M1 ++ bytesOf msg).length by rw [List.length_append, bytesOf_length]] at hA3
  have hl3 : (M1 ++ bytesOf msg).length < 1152921504606846976 := by rw [List.length_append, bytesOf_length]; omega
  have HS := Lib.hid (sum_any w.heap.size v3 r3 n3 (M1 ++ bytesOf msg) w3 hA3 hH3 hl3 (HT.out.below hb3).pr)
  have hg23 := HB3.out.lt
  clear hA3 hH3 hl3
  have hD : (USha.sha (M1 ++ bytesOf msg)).length = 32 := USha.sha_len32 _
  generalize hDD : USha.sha (M1 ++ bytesOf msg) = D at *
  have HDD := Lib.hid hDD
  have HD := Lib.hid hD
  clear hD hDD
  go_wp2_with (go_at_call 30; (with_reducible refine HS.out.mono ?_); rintro e w4 ⟨rfl, hb4⟩)
  have hb4' := hb3.trans (hb4.mono hb3.size)
  have hB4 := HB3.out.below hb4 hg23
  have HA2 := Lib.hid (add_any g2 v2 r2 h2 M2 (strOf D) w4 hB4 HH2.out (by rw [strOf_size, HD.out]; unfold maxLen; omega) (by rw [strOf_size, HD.out]; omega) (HT.out.below hb4').pr (by omega))
  clear hB4
  go_wp2_with (go_at_call 29; (with_reducible refine HA2.out.mono ?_); rintro e w5 ⟨rfl, ha5, v5, r5, n5, hB5, hH5⟩)
  have hb5 := hb4'.trans (ha5.below hb4'.size (by omega))
  rw [bytesOf_strOf] at hH5
  rw [show M2.length + (strOf D).size = (M2 ++ D).length by rw [List.length_append, strOf_size]] at hB5
  have HS2 := Lib.hid (sum_any g2 v5 r5 n5 (M2 ++ D) w5 hB5 hH5 (by rw [List.length_append, HD.out]; omega) (HT.out.below hb5).pr)
  clear hB5 hH5
  go_wp2_with (go_at_call 30; (with_reducible refine HS2.out.mono ?_); rintro e w6 ⟨rfl, hb6⟩)
  go_ret
  exact ⟨by first | rfl | (rw [HDD.out]; rfl), hb5.trans (hb6.mono hb5.size)⟩
end Go.Proofs.YtmkifaddfnodhaaDoor
