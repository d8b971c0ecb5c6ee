/- The reference's Stretch, walked. -/
import Derived.Test.YtmkifaddfnodhaaDoorStretchPure
import Derived.Test.YtmkifaddfnodhaaDoorMacBlk
import Derived.Deep.Cut
import Derived.Deep.AppendLies
import Derived.Deep.RegionLaw
namespace Go.Proofs.YtmkifaddfnodhaaDoor
open Go.RowKit
theorem xorL_snoc (a b : ByteArray) (k : Nat) (_h : b.size = a.size) (hk : k < a.size) (hkb : k < b.size) : (USha.xorL (bytesOf a) (bytesOf b)).take (k + 1) = (USha.xorL (bytesOf a) (bytesOf b)).take k ++ [a[k].toBitVec ^^^ b[k].toBitVec] := by
  have hl : k < (bytesOf a).length := by rw [bytesOf_length]; exact hk
  have hlb : k < (bytesOf b).length := by rw [bytesOf_length]; exact hkb
  have e := USha.xorL_get (bytesOf a) (bytesOf b) k hl hlb
  rw [show (bytesOf a).getD k 0#8 = a[k].toBitVec by rw [List.getD_eq_getElem?_getD, bytesOf_get a k hk]; rfl, show (bytesOf b).getD k 0#8 = b[k].toBitVec by rw [List.getD_eq_getElem?_getD, bytesOf_get b k hkb]; rfl] at e
  exact take_snoc _ k _ e
theorem xorL_u8s (a b : ByteArray) (k : Nat) (h : b.size = a.size) (hk : k < a.size) (hkb : k < b.size) : u8s ((USha.xorL (bytesOf a) (bytesOf b)).take (k + 1)) = u8s ((USha.xorL (bytesOf a) (bytesOf b)).take k) ++ [.int .u8 (bits BinOp.xor IntKind.u8 (a[k].toNat : Int) (b[k].toNat : Int))] := by
  rw [xorL_snoc a b k h hk hkb, u8s_append]
  have ex : bits .xor .u8 (a[k].toNat : Int) (b[k].toNat : Int) = ((a[k].toBitVec ^^^ b[k].toBitVec).toNat : Int) := by
    have h := Bv.xor8 a[k].toBitVec (b[k].toNat : Int)
    rw [show (b[k].toNat : Int) = (b[k].toBitVec.toNat : Int) from rfl, Bv.ofInt_toNat] at h
    exact h
  rw [ex]; rfl
set_option maxHeartbeats 1000000 in
theorem xored_any (a b : ByteArray) (w : World) (ha : a.size ≤ 140737488355328) (h : b.size = a.size) :
    Calls Tryd.prog 52 #[.string a, .string b] w fun e w' => e = .returned (.string (strOf (USha.xorL (bytesOf a) (bytesOf b)))) ∧ Below w.heap.size w w' := by
  obtain ⟨i0, hi, hz0, hz1, hz2⟩ := info_parts info8
  have hxl : (USha.xorL (bytesOf a) (bytesOf b)).length = a.size := by rw [USha.xorL_length _ _ (by rw [bytesOf_length, bytesOf_length, h]), bytesOf_length]
  have HXL := Lib.hid hxl
  clear hxl
  go_enter Tryd.func52, Tryd.ntmps52
  go_wp2
  go_loopw [5, 6] (fun o i wr => ∃ k : Nat, k ≤ a.size ∧ i = .int .i64 k ∧ wr.ownsRow w.heap.size 5 1 o k (u8s ((USha.xorL (bytesOf a) (bytesOf b)).take k)) ∧ Below w.heap.size w wr) (fun _ i _ => a.size - (intOf i).toNat)
  case atStart => exact ⟨0, Nat.zero_le _, rfl, by simpa [u8s] using World.ownsRow_nil w w.heap.size 5 1, Below.refl _ _⟩
  case round =>
    rename World => wr
    obtain ⟨k, hk, rfl, hown, hbr⟩ := hrel
    by_cases hlt : k < a.size
    · have hsz := hbr.size
      have hkb : k < b.size := by omega
      have HS := Lib.hid (xorL_u8s a b k h hlt hkb)
      have j0 : (0 : Int) ≤ (k : Int) := by omega
      have ja : (k : Int) < (a.size : Int) := by omega
      have jb : (k : Int) < (b.size : Int) := by omega
      have da : decide ((k : Int) < (a.size : Int)) = true := decide_eq_true ja
      have db : decide ((k : Int) < (b.size : Int)) = true := decide_eq_true jb
      have hsz' : w.heap.size ≤ wr.heap.size := hsz
      go_wp2_with fail
      go_region_law
        (refine step_append_lies _ (by rfl) _ _ _ (by rfl) w.heap.size 5 i0 _ 1 1 Tryd.underlying53 hi hz0 hz1 hz2 rfl (by omega) u5 k _ (by rfl) ((hown.alloc _).drew)
            ⟨wr.heap.size, 0, none⟩ 1 1 [.int .u8 (bits BinOp.xor IntKind.u8 (a[k].toNat : Int) (b[k].toNat : Int))] (by rfl) (by rfl) (World.news_of_block (cs := #[.int .u8 (bits BinOp.xor IntKind.u8 (a[k].toNat : Int) (b[k].toNat : Int))]) (t := 5) (fr := (0, 0)) (heap_alloc_new wr _)) (by simp [Value.oneCell'])
            (by omega) (by unfold maxLen; omega) (by omega) (by simp; omega) (wr.heap.size + 1) (by simp) ?_; intro gg cap w1 hown1 hgrow hat hlt2)
      all_goals
        have hb1 : Below w.heap.size w w1 := ((hbr.alloc hsz' _).drew).grown hgrow (by simp; omega) (fun g hg => (hown.lt g hg).1)
        clear hgrow hbr hown
        go_wp2
        go_roundw
        case rel => exact ⟨k + 1, by omega, by go_num, by rw [HS.out]; exact hown1, hb1⟩
        case measure => simp [intOf]; omega
    · obtain rfl : k = a.size := by omega
      rw [List.take_of_length_le (by rw [HXL.out]; omega)] at hown
      have hcv := conv_own hown
      have da : decide (((a.size : Nat) : Int) < (a.size : Int)) = false := decide_eq_false (by omega)
      generalize hres : strOf (USha.xorL (bytesOf a) (bytesOf b)) = res at *
      have HRES := Lib.hid hres
      clear hres
      go_wp2
      go_ret
      exact ⟨by rw [HRES.out]; rfl, hbr⟩
set_option maxHeartbeats 400000 in
theorem refStretch_no (p s : ByteArray) (r : Int) (w : World) (hr : r < 1 ∨ 1000 < r) :
    Calls Tryd.prog 39 #[.string p, .string s, .int .i64 r] w fun e w' => e = .returned (.tuple #[.string { data := #[] }, .int .i64 1]) ∧ Below w.heap.size w w' := by
  have hb := Below.refl w.heap.size w
  rcases hr with hr | hr
  · have hd : decide (r < 1) = true := decide_eq_true hr
    go_enter Tryd.func39, Tryd.ntmps39
    go_wp2
    go_ret2
    exact ⟨rfl, hb⟩
  · have hr2 : ¬ r < 1 := by omega
    have hd : decide (r < 1) = false := decide_eq_false hr2
    go_enter Tryd.func39, Tryd.ntmps39
    go_wp2
    go_ret2
    exact ⟨rfl, hb⟩
set_option maxHeartbeats 2000000 in
theorem refStretch_yes (p s : ByteArray) (n : Nat) (w : World) (hp : p.size ≤ 140737488355328) (hs : s.size ≤ 140737488351232) (hn : n < 1000) (ht : ShaTabs w) :
    Calls Tryd.prog 39 #[.string p, .string s, .int .i64 ((n : Int) + 1)] w fun e w' => e = .returned (.tuple #[.string (strOf (USha.stT (bytesOf p) (bytesOf s) n)), .int .i64 0]) ∧ Below w.heap.size w w' := by
  have HM : Hid (∀ w' msg, Below w.heap.size w w' → msg.size ≤ 140737488355328 → Calls Tryd.prog 51 #[.string p, .string msg] w' fun e w2 => e = .returned (.string (strOf (USha.hmac (bytesOf p) (bytesOf msg)))) ∧ Below w'.heap.size w' w2) := Lib.hid (fun w' msg h hm => refMac_any p msg w' hp hm (ht.below h))
  have b0 := Below.refl w.heap.size w
  clear ht
  have HS0 := Lib.hid (HM.out w (s ++ { data := #[0, 0, 0, 1] }) b0 (by rw [ByteArray.size_append]; show s.size + 4 ≤ _; omega))
  rw [show USha.hmac (bytesOf p) (bytesOf (s ++ { data := #[0, 0, 0, 1] })) = USha.stU (bytesOf p) (bytesOf s) 0 by rw [bytesOf_append]; rfl] at HS0
  have hsz : s.size + 4 ≤ 140737488355328 := by omega
  obtain ⟨u0, hu0⟩ : ∃ u, u = strOf (USha.stU (bytesOf p) (bytesOf s) 0) := ⟨_, rfl⟩
  have HU0 : Hid (bytesOf u0 = USha.stU (bytesOf p) (bytesOf s) 0) := Lib.hid (by rw [hu0, bytesOf_strOf])
  rw [← hu0] at HS0
  obtain ⟨m, hm⟩ : ∃ m : Int, m = (n : Int) + 1 := ⟨_, rfl⟩
  rw [← hm]
  have m1 : ¬ m < 1 := by omega
  have m2 : ¬ 1000 < m := by omega
  have d1 : decide (m < 1) = false := decide_eq_false m1
  have d2 : decide (1000 < m) = false := decide_eq_false m2
  clear hu0
  go_enter Tryd.func39, Tryd.ntmps39
  go_wp2_with (go_at_call 51; (with_reducible refine HS0.out.mono ?_); rintro e w1 ⟨rfl, hb1⟩)
  clear HS0 d1 d2
  go_loopw [8, 9, 10] (fun u t i wr => ∃ (k : Nat) (uS tS : ByteArray), k ≤ n ∧ i = .int .i64 ((k : Int) + 1) ∧ u = .string uS ∧ t = .string tS ∧ Hid (bytesOf uS = USha.stU (bytesOf p) (bytesOf s) k) ∧ Hid (bytesOf tS = USha.stT (bytesOf p) (bytesOf s) k) ∧ Below w.heap.size w wr) (fun _ _ i _ => n + 1 - (intOf i).toNat)
  case atStart => exact ⟨0, u0, u0, Nat.zero_le _, rfl, rfl, rfl, HU0, Lib.hid HU0.out, hb1⟩
  case round =>
    rename World => wr
    clear HU0 hb1 b0
    obtain ⟨k, uS, tS, hk, rfl, rfl, rfl, HU, HT, hb⟩ := hrel
    by_cases hlt : k < n
    · have u32 : uS.size = 32 := by rw [← bytesOf_length, HU.out, USha.stU_len]
      have t32 : tS.size = 32 := by rw [← bytesOf_length, HT.out, USha.stT_len]
      have HS := HM.out wr uS hb (by omega)
      rw [HU.out, show USha.hmac (bytesOf p) (USha.stU (bytesOf p) (bytesOf s) k) = USha.stU (bytesOf p) (bytesOf s) (k + 1) from rfl] at HS
      obtain ⟨u1, hu1⟩ : ∃ u, u = strOf (USha.stU (bytesOf p) (bytesOf s) (k + 1)) := ⟨_, rfl⟩
      have HU1 : Hid (bytesOf u1 = USha.stU (bytesOf p) (bytesOf s) (k + 1)) := Lib.hid (by rw [hu1, bytesOf_strOf])
      have hu32 : u1.size = 32 := by rw [hu1, strOf_size, USha.stU_len]
      rw [← hu1] at HS
      have HS' := Lib.hid HS
      have HX : Hid (∀ w', Calls Tryd.prog 52 #[.string tS, .string u1] w' fun e w2 => e = .returned (.string (strOf (USha.stT (bytesOf p) (bytesOf s) (k + 1)))) ∧ Below w'.heap.size w' w2) := Lib.hid (fun w' => by
        have h := xored_any tS u1 w' (by omega) (by omega)
        rw [HT.out, HU1.out] at h
        exact h)
      obtain ⟨t1, ht1⟩ : ∃ t, t = strOf (USha.stT (bytesOf p) (bytesOf s) (k + 1)) := ⟨_, rfl⟩
      have HT1 : Hid (bytesOf t1 = USha.stT (bytesOf p) (bytesOf s) (k + 1)) := Lib.hid (by rw [ht1, bytesOf_strOf])
      rw [← ht1] at HX
      have hi : ((k : Int) + 1) < m := by omega
      have di : decide (((k : Int) + 1) < m) = true := decide_eq_true hi
      clear HS hu1 ht1 u32 t32 hu32
      go_wp2_with (first
        | (go_at_call 51; (with_reducible refine HS'.out.mono ?_); rintro e w2 ⟨rfl, hb2⟩; have c2 := hb.trans (hb2.mono hb.size))
        | (go_at_call 52; (with_reducible refine (HX.out _).mono ?_); rintro e w3 ⟨rfl, hb3⟩; have c3 := c2.trans (hb3.mono c2.size)))
      go_roundw
      case rel => exact ⟨k + 1, u1, t1, by omega, by go_num, rfl, rfl, HU1, HT1, c3⟩
      case measure => simp [intOf]; omega
    · obtain rfl : k = n := by omega
      have hi : ¬ ((k : Int) + 1) < m := by omega
      have di : decide (((k : Int) + 1) < m) = false := decide_eq_false hi
      have hres : tS = strOf (USha.stT (bytesOf p) (bytesOf s) k) := by rw [← HT.out, strOf_bytesOf]
      have HRES := Lib.hid hres
      clear hres
      go_wp2
      go_ret2
      exact ⟨by rw [← HRES.out]; rfl, hb⟩
end Go.Proofs.YtmkifaddfnodhaaDoor
