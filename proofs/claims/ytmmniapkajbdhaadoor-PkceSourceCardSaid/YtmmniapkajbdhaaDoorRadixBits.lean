/- The reference's bits of a text, walked: the call's own row of numbers. -/
import Derived.Test.YtmmniapkajbdhaaDoorRadixBld
namespace Go.Proofs.YtmmniapkajbdhaaDoor
open Go.RowKit
def i64s (l : List Nat) : List Value := l.map fun x : Nat => Value.int .i64 (x : Int)
theorem i64s_append (a b : List Nat) : i64s (a ++ b) = i64s a ++ i64s b := by simp [i64s]
theorem i64s_length (a : List Nat) : (i64s a).length = a.length := by simp [i64s]
theorem i64s_get (a : List Nat) (i : Nat) (h : i < a.length) : (i64s a)[i]? = some (.int .i64 ((a.getD i 0 : Nat) : Int)) := by
  simp [i64s, h, List.getD_eq_getElem?_getD]
theorem info_int : (Tryd.prog.info? 3).map (fun i => (i.zero, i.size, i.bytes)) = some (some (.int .i64 0), 1, 8) := by kernel_rfl
/-- the mask's way: from 2^(n-1) down to 0 -/
def Mask (n j m : Nat) : Prop := j ≤ n ∧ m = 2 ^ (n - 1) / 2 ^ j
theorem Mask.zero (n : Nat) : Mask n 0 (2 ^ (n - 1)) := ⟨Nat.zero_le _, by simp⟩
theorem Mask.le {n j m : Nat} (h : Mask n j m) : j ≤ n := h.1
theorem Mask.last {n j : Nat} (h : Mask n j 0) : j = n := by
  obtain ⟨h1, h2⟩ := h
  refine Classical.byContradiction fun hn => ?_
  have := Nat.div_pos (Nat.pow_le_pow_right (by omega : 0 < 2) (by omega : j ≤ n - 1)) (Nat.two_pow_pos j)
  omega
theorem Mask.lt {n j m : Nat} (hn : 0 < n) (h : Mask n j m) (hm : 0 < m) : j < n := by
  obtain ⟨h1, h2⟩ := h
  refine Classical.byContradiction fun hk => ?_
  obtain rfl : j = n := by omega
  have : 2 ^ (j - 1) < 2 ^ j := Nat.pow_lt_pow_right (by omega) (by omega)
  rw [Nat.div_eq_of_lt this] at h2
  omega
theorem Mask.top {n j m : Nat} (h : Mask n j m) : m ≤ 2 ^ (n - 1) := by rw [h.2]; exact Nat.div_le_self _ _
theorem Mask.step {n j m : Nat} (hn : 0 < n) (h : Mask n j m) (hm : 0 < m) : Mask n (j + 1) (m / 2) := by
  have hlt := h.lt hn hm
  refine ⟨hlt, ?_⟩
  rw [h.2, Nat.div_div_eq_div_mul, Nat.pow_succ]
theorem Mask.bit {n j m : Nat} (hn : 0 < n) (h : Mask n j m) (hm : 0 < m) (x : Nat) : x / m % 2 = URadix.bitOf n x j := by
  have hlt := h.lt hn hm
  unfold URadix.bitOf
  rw [h.2, Nat.pow_div (by omega) (by omega)]
theorem bitList_take (n x j : Nat) (h : j < n) : (URadix.bitList n x).take (j + 1) = (URadix.bitList n x).take j ++ [URadix.bitOf n x j] := by
  apply take_snoc
  simp [URadix.bitList, h]
theorem bitList_full (n x : Nat) : (URadix.bitList n x).take n = URadix.bitList n x := List.take_of_length_le (by rw [URadix.bitList_length]; exact Nat.le_refl _)
theorem nums_take (s : ByteArray) (k : Nat) (h : k < s.size) : (URadix.nums (bytesOf s)).take (k + 1) = (URadix.nums (bytesOf s)).take k ++ [s[k].toNat] := by
  apply take_snoc
  unfold URadix.nums
  rw [List.getElem?_map, bytesOf_get s k h]; rfl
theorem nums_length (s : ByteArray) : (URadix.nums (bytesOf s)).length = s.size := by unfold URadix.nums; rw [List.length_map, bytesOf_length]
theorem below_own {B : Nat} {a w w' : World} {e : TypeId} {size : Nat} {v : Value} {n : Nat} {xs : List Value} (hb : Below B a w) (hB : B ≤ w.heap.size) (hown : w.ownsRow B e size v n xs) (o : Obj) (hg : (w.alloc o).grownBy w' v.ownBlock) : Below B a w' :=
  (hb.alloc hB _).grown hg (by simp; omega) (fun g h => (hown.lt g h).1)
set_option maxHeartbeats 400000 in
theorem bits_any (s : ByteArray) (w : World) (hs : s.size ≤ 16777216) :
    Calls Tryd.prog 30 #[.string s] w fun e w' => ∃ v, e = .returned v ∧ w'.ownsRow w.heap.size 3 1 v (8 * s.size) (i64s (URadix.bitsOf 8 (URadix.nums (bytesOf s)))) ∧ Below w.heap.size w w' := by
  obtain ⟨i0, hi, hz0, hz1, hz2⟩ := info_parts info_int
  go_enter Tryd.func30, Tryd.ntmps30
  go_wp2
  go_loopw [3, 4, 5, 6] (fun v i _ _ wr => ∃ k : Nat, k ≤ s.size ∧ i = .int .i64 k ∧ wr.ownsRow w.heap.size 3 1 v (8 * k) (i64s (URadix.bitsOf 8 ((URadix.nums (bytesOf s)).take k))) ∧ Below w.heap.size w wr) (fun _ i _ _ _ => s.size - (intOf i).toNat)
  case atStart => exact ⟨0, Nat.zero_le _, rfl, World.ownsRow_nil _ _ _ _, Below.refl _ _⟩
  case round =>
    rename World => wr
    obtain ⟨k, hk, rfl, hown, hb⟩ := hrel
    by_cases hlt : k < s.size
    · have HS := Lib.hid (nums_take s k hlt)
      have hx256 : (s[k].toNat : Int) < 256 := by have := s[k].toNat_lt; omega
      generalize (URadix.nums (bytesOf s)).take k = l at *
      have hown0 : wr.ownsRow w.heap.size 3 1 u3 (8 * k + 0) (i64s (URadix.bitsOf 8 l ++ (URadix.bitList 8 s[k].toNat).take 0)) := by simpa using hown
      clear hown
      go_wp2
      go_loopw [3, 6] (fun v m wr => ∃ j m' : Nat, Mask 8 j m' ∧ m = .int .i64 m' ∧ wr.ownsRow w.heap.size 3 1 v (8 * k + j) (i64s (URadix.bitsOf 8 l ++ (URadix.bitList 8 s[k].toNat).take j)) ∧ Below w.heap.size w wr) (fun _ m _ => (intOf m).toNat)
      case atStart => exact ⟨0, 128, Mask.zero 8, rfl, hown0, hb⟩
      case round =>
        rename World => wr2
        clear hown0 hb
        obtain ⟨j, m, hM, rfl, hown, hb⟩ := hrel
        by_cases hm : 0 < m
        · have hjl := hM.lt (by omega) hm
          have HM := Lib.hid (hM.step (by omega) hm)
          have HBt := Lib.hid (hM.bit (by omega) hm s[k].toNat)
          have HTk := Lib.hid (bitList_take 8 s[k].toNat j hjl)
          obtain ⟨b, hbit⟩ : ∃ b, b = URadix.bitOf 8 s[k].toNat j := ⟨_, rfl⟩
          rw [← hbit] at HTk HBt
          obtain ⟨y, hy⟩ : ∃ y, y = s[k].toNat / m := ⟨_, rfl⟩
          rw [← hy] at HBt
          have hq : (s[k].toNat : Int) / (m : Int) = (y : Int) := by rw [hy]; simp
          have hy256 : (y : Int) < 256 := by
            have := Nat.div_le_self s[k].toNat m
            omega
          have hq2 : (y : Int) % 2 = (b : Int) := by have := HBt.out; omega
          have hm' : (0 : Int) < (m : Int) := by omega
          have hm128 : (m : Int) ≤ 128 := by have := hM.top; omega
          have hsz := hb.size
          clear hM hbit hy
          go_wp2_with (at_builtin; refine wpList_append_own _ rfl _ _ 68 rfl w.heap.size 3 i0 (.int .i64 0) 1 8 Tryd.underlying68 hi hz0 hz1 hz2 rfl (by decide) _ _ _ rfl (hown.alloc _) ⟨wr2.heap.size, 0, none⟩ 1 1 [.int .i64 (b : Int)] rfl rfl (cell_one_new' _ _ _) ?c2 ?c3 ?c4 ?c5 ?_)
          case c2 => intro u hu; simp at hu; subst hu; rfl
          case c3 => unfold maxLen; omega
          case c4 => omega
          case c5 => simp; omega
          intro v' w1 hown' hgrow _
          have hb1 : Below w.heap.size w w1 := below_own hb hsz hown _ hgrow
          rw [show [Value.int .i64 (b : Int)] = i64s [b] from rfl, ← i64s_append, List.append_assoc, ← HTk.out] at hown'
          clear hgrow hb hown hq hq2
          go_wp2
          go_roundw
          case rel => exact ⟨j + 1, m / 2, HM.out, by go_num, hown', hb1⟩
          case measure => simp [intOf]; omega
        · obtain rfl : m = 0 := by omega
          obtain rfl := hM.last
          rw [bitList_full, ← URadix.bitsOf_snoc, ← HS.out] at hown
          go_wp2
          go_roundw
          case rel => exact ⟨k + 1, by omega, by go_num, hown, hb⟩
          case measure => simp [intOf]; omega
    · obtain rfl : k = s.size := by omega
      rw [List.take_of_length_le (by rw [nums_length]; omega)] at hown
      go_wp2
      go_ret
      exact ⟨_, rfl, hown, hb⟩
end Go.Proofs.YtmmniapkajbdhaaDoor
