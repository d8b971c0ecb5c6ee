/- What the reference reads out of letters, walked: at six bits a letter and at four. -/
import Derived.Test.YtoldmgpnogkjfaaDoorRadixLetters
import Derived.Test.YtoldmgpnogkjfaaDoorRadixFind
namespace Go.Proofs.YtoldmgpnogkjfaaDoor
open Go.RowKit
/-- the whole bytes of a row of bits -/
def octs (L : List Nat) : List (BitVec 8) := (List.range (L.length / 8)).map fun m => BitVec.ofNat 8 (URadix.grp L (8 * m) 8)
theorem octs_length (L : List Nat) : (octs L).length = L.length / 8 := by simp [octs]
theorem octs_step (L : List Nat) (m g : Nat) (hm : m < L.length / 8) (hg : g = URadix.grp L (8 * m) 8) : (octs L).take (m + 1) = (octs L).take m ++ [BitVec.ofNat 8 g] := by
  apply take_snoc
  unfold octs
  rw [List.getElem?_map, List.getElem?_range hm, hg]; rfl
theorem allIn_take_succ (al s : List (BitVec 8)) (k : Nat) (c : BitVec 8) (hc : s[k]? = some c) : URadix.allIn al (s.take (k + 1)) = (URadix.allIn al (s.take k) && (URadix.place al c).isSome) := by
  rw [take_snoc s k c hc, URadix.allIn_append]
  simp [URadix.allIn]
theorem allIn_take_false {al s : List (BitVec 8)} {k : Nat} {c : BitVec 8} (hc : s[k]? = some c) (hp : URadix.place al c = none) : URadix.allIn al s = false := by
  unfold URadix.allIn
  rw [List.all_eq_false]
  exact ⟨c, List.mem_of_getElem? hc, by rw [hp]; simp⟩
theorem numsOf_take_succ (al s : List (BitVec 8)) (k : Nat) (c : BitVec 8) (v : Nat) (hc : s[k]? = some c) (hp : URadix.place al c = some v) : (URadix.numsOf al s).take (k + 1) = (URadix.numsOf al s).take k ++ [v] := by
  apply take_snoc
  unfold URadix.numsOf
  rw [List.getElem?_map, hc]
  simp [hp]
/-- what is handed back -/
def MeantRes (n : Nat) (al s : List (BitVec 8)) : Value := .tuple #[.string (strOf (if URadix.allIn al s = true then octs (URadix.bitsOf n (URadix.numsOf al s)) else [])), .bool (URadix.allIn al s)]
theorem meantRes_no {n : Nat} {al s : List (BitVec 8)} (h : URadix.allIn al s = false) : MeantRes n al s = .tuple #[.string { data := #[] }, .bool false] := by
  unfold MeantRes; rw [h]; rfl
theorem meantRes_yes {n : Nat} {al s : List (BitVec 8)} (h : URadix.allIn al s = true) : MeantRes n al s = .tuple #[.string (strOf (octs (URadix.bitsOf n (URadix.numsOf al s)))), .bool true] := by
  unfold MeantRes; rw [h]; rfl

set_option maxHeartbeats 2000000 in
set_option maxRecDepth 100000 in
theorem meant6_any (s al : ByteArray) (w : World) (hs : s.size ≤ 33554432) (hal : al.size ≤ 256) :
    Calls Tryd.prog 30 #[.string s, .int .i64 6, .string al] w fun e w' => e = .returned (MeantRes 6 (bytesOf al) (bytesOf s)) ∧ Below w.heap.size w w' := by
  obtain ⟨i0, hi, hz0, hz1, hz2⟩ := info_parts info_int
  obtain ⟨i8, hi8, hy0, hy1, hy2⟩ := info_parts info8
  have hal' : al.size ≤ maxLen := by unfold maxLen; omega
  go_enter Tryd.func30, Tryd.ntmps30
  go_wp2
  go_loopw [8, 9, 10, 11] (fun v i _ _ wr => ∃ k : Nat, k ≤ s.size ∧ i = .int .i64 k ∧ Hid (URadix.allIn (bytesOf al) ((bytesOf s).take k) = true) ∧ wr.ownsRow w.heap.size 3 1 v (6 * k) (i64s (URadix.bitsOf 6 ((URadix.numsOf (bytesOf al) (bytesOf s)).take k))) ∧ Below w.heap.size w wr) (fun _ i _ _ _ => s.size - (intOf i).toNat)
  case atStart => exact ⟨0, Nat.zero_le _, rfl, Lib.hid rfl, World.ownsRow_nil _ _ _ _, Below.refl _ _⟩
  case round =>
    rename World => wr
    obtain ⟨k, hk, rfl, HA, hown, hb⟩ := hrel
    by_cases hlt : k < s.size
    · have HC := Lib.hid (bytesOf_get s k hlt)
      have HP := Lib.hid (place_any al s[k] wr hal')
      cases hp : URadix.place (bytesOf al) s[k].toBitVec with
      | none =>
        rw [hp] at HP
        have HF := Lib.hid (meantRes_no (n := 6) (allIn_take_false HC.out hp))
        clear hp
        change Hid (Calls _ _ _ _ fun e w' => e = .returned (.int .i64 (-1)) ∧ _) at HP
        go_wp2_with (go_at_call 38; (with_reducible refine HP.out.mono ?_); rintro e w1 ⟨rfl, rfl⟩)
        go_ret2
        exact ⟨by rw [HF.out]; rfl, hb⟩
      | some x =>
        rw [hp] at HP
        have HA2 : Hid (URadix.allIn (bytesOf al) ((bytesOf s).take (k + 1)) = true) := Lib.hid (by rw [allIn_take_succ _ _ k _ HC.out, HA.out, hp]; rfl)
        have HS := Lib.hid (numsOf_take_succ _ _ k _ x HC.out hp)
        have hx256 : x < 256 := by
          have := (URadix.place_some hp).1
          rw [bytesOf_length] at this
          omega
        clear hp
        change Hid (Calls _ _ _ _ fun e w' => e = .returned (.int .i64 (x : Int)) ∧ _) at HP
        generalize (URadix.numsOf (bytesOf al) (bytesOf s)).take k = l at *
        have hown0 : wr.ownsRow w.heap.size 3 1 u8 (6 * k + 0) (i64s (URadix.bitsOf 6 l ++ (URadix.bitList 6 x).take 0)) := by simpa using hown
        have hxI : (x : Int) < 256 := by omega
        have hx0 : (0 : Int) ≤ (x : Int) := by omega
        clear hown
        go_wp2_with (go_at_call 38; (with_reducible refine HP.out.mono ?_); rintro e w1 ⟨rfl, rfl⟩)
        go_loopw [8, 11] (fun v m wr => ∃ j m' : Nat, Mask 6 j m' ∧ m = .int .i64 m' ∧ wr.ownsRow w.heap.size 3 1 v (6 * k + j) (i64s (URadix.bitsOf 6 l ++ (URadix.bitList 6 x).take j)) ∧ Below w.heap.size w wr) (fun _ m _ => (intOf m).toNat)
        case atStart => exact ⟨0, 32, Mask.zero 6, rfl, hown0, hb⟩
        case round =>
          rename World => wr2
          clear hown0 hb
          obtain ⟨j, m, hM, rfl, hown, hb⟩ := hrel
          by_cases hm : 0 < m
          · have hjl := hM.lt (by omega) hm
            have HM := Lib.hid (hM.step (by omega) hm)
            have HBt := Lib.hid (hM.bit (by omega) hm x)
            have HTk := Lib.hid (bitList_take 6 x j hjl)
            obtain ⟨b, hbit⟩ : ∃ b, b = URadix.bitOf 6 x j := ⟨_, rfl⟩
            rw [← hbit] at HTk HBt
            obtain ⟨y, hy⟩ : ∃ y, y = x / m := ⟨_, rfl⟩
            rw [← hy] at HBt
            have hq : (x : Int) / (m : Int) = (y : Int) := by rw [hy]; simp
            have hy256 : (y : Int) < 256 := by
              have := Nat.div_le_self x m
              omega
            have hq2 : (y : Int) % 2 = (b : Int) := by have := HBt.out; omega
            have hm' : (0 : Int) < (m : Int) := by omega
            have hm128 : (m : Int) ≤ 128 := by have := hM.top; omega
            have hsz := hb.size
            clear hM hbit hy
            go_wp2_with (at_builtin; refine wpList_append_own _ rfl _ _ 45 rfl w.heap.size 3 i0 (.int .i64 0) 1 8 Tryd.underlying45 hi hz0 hz1 hz2 rfl (by decide) _ _ _ rfl (hown.alloc _) ⟨wr2.heap.size, 0, none⟩ 1 1 [.int .i64 (b : Int)] rfl rfl (cell_one_new' _ _ _) ?c2 ?c3 ?c4 ?c5 ?_)
            case c2 => first | (intro u hu; simp at hu; subst hu; rfl) | rfl
            case c3 => unfold maxLen; omega
            case c4 => omega
            case c5 => first | (simp; omega) | omega
            intro v' w1 hown' hgrow _
            have hb1 : Below w.heap.size w w1 := below_own hb hsz hown _ hgrow
            rw [show [Value.int .i64 (b : Int)] = i64s [b] from rfl, ← i64s_append, List.append_assoc, ← HTk.out] at hown'
            clear hgrow hb hown hq hq2
            go_wp2
            go_roundw
            case rel => exact ⟨j + 1, m / 2, HM.out, by go_num, hown', hb1⟩
            case measure => simp [intOf]; omega
          · obtain rfl : m = 0 := by omega
            obtain rfl := hM.last
            rw [bitList_full, ← URadix.bitsOf_snoc, ← HS.out] at hown
            go_wp2
            go_roundw
            case rel => exact ⟨k + 1, by omega, by go_num, HA2, hown, hb⟩
            case measure => simp [intOf]; omega
    · obtain rfl : k = s.size := by omega
      have hsb : (bytesOf s).length = s.size := bytesOf_length s
      rw [List.take_of_length_le (by rw [URadix.numsOf_length]; omega)] at hown
      have HF : Hid (MeantRes 6 (bytesOf al) (bytesOf s) = .tuple #[.string (strOf (octs (URadix.bitsOf 6 (URadix.numsOf (bytesOf al) (bytesOf s))))), .bool true]) := Lib.hid (by
        have := HA.out
        rw [List.take_of_length_le (by omega)] at this
        exact meantRes_yes this)
      have hLl : (URadix.bitsOf 6 (URadix.numsOf (bytesOf al) (bytesOf s))).length = 6 * s.size := by rw [URadix.bitsOf_length, URadix.numsOf_length, hsb]
      have H1 : Hid (∀ i, (URadix.bitsOf 6 (URadix.numsOf (bytesOf al) (bytesOf s))).getD i 0 ≤ 1) := Lib.hid (fun i => URadix.bitsOf_le 6 (by omega) _ i)
      clear HA hsb
      generalize URadix.bitsOf 6 (URadix.numsOf (bytesOf al) (bytesOf s)) = L at *
      obtain ⟨p, cap, rfl, hc⟩ := IntRow.own hown
      obtain ⟨N, hN⟩ : ∃ N, N = L.length := ⟨_, rfl⟩
      have hN2 : N ≤ 268435456 := by omega
      have HN := Lib.hid hN
      have HCl := Lib.hid hc
      rw [← hN]
      clear hc hN hLl hown
      go_wp2
      go_loopw [12, 13, 14, 15] (fun o i _ _ wr2 => ∃ j i' : Nat, i' = 8 * j ∧ j ≤ N / 8 ∧ i = .int .i64 i' ∧ wr2.ownsRow wr.heap.size 5 1 o j (u8s ((octs L).take j)) ∧ Below wr.heap.size wr wr2) (fun _ i _ _ _ => N + 8 - (intOf i).toNat)
      case atStart => exact ⟨0, 0, by omega, Nat.zero_le _, rfl, by simpa [u8s] using World.ownsRow_nil wr wr.heap.size 5 1, Below.refl _ _⟩
      case round =>
        rename World => wr2
        obtain ⟨j, i, hij, hjc, rfl, hown, hb2⟩ := hrel
        have HIJ := Lib.hid hij
        by_cases hlt : i + 8 ≤ N
        · have hj : j < N / 8 := by omega
          clear hij
          go_wp2
          go_loop [14, 15] (fun g k => ∃ (k' g' : Nat), k' ≤ 8 ∧ k = .int .i64 k' ∧ g = .int .i64 g' ∧ Hid (g' = URadix.grp L i k')) (fun _ k => 8 - (intOf k).toNat)
          case atStart => exact ⟨0, 0, Nat.zero_le _, rfl, rfl, Lib.hid rfl⟩
          case round =>
            obtain ⟨k, g, hk, rfl, rfl, HG⟩ := hrel
            have hg256 : (g : Int) < 256 := by
              have h2 := URadix.grp_lt L H1.out i k
              have h3 : 2 ^ k ≤ 2 ^ 8 := Nat.pow_le_pow_right (by omega) (by omega)
              rw [HG.out]
              omega
            by_cases hkn : k < 8
            · obtain ⟨b, rfl, hcell⟩ := HCl.out (i + k) (by rw [← HN.out]; omega)
              have hcell2 := cell_below hcell hb2
              have hbit := H1.out (i + k)
              have HG2 : Hid (2 * g + L.getD (i + k) 0 = URadix.grp L i (k + 1)) := Lib.hid (by rw [HG.out]; rfl)
              generalize L.getD (i + k) 0 = bt at *
              have hbt : (bt : Int) ≤ 1 := by omega
              clear hcell
              go_wp2
              go_round
              case rel => exact ⟨k + 1, 2 * g + bt, by omega, by go_num, by go_num, HG2⟩
              case measure => simp [intOf]; omega
            · obtain rfl : k = 8 := by omega
              have HS := Lib.hid (octs_step L j g (by rw [← HN.out]; exact hj) (by rw [HG.out, HIJ.out]))
              have hsz := hb2.size
              have hxx : (g : Int) = ((BitVec.ofNat 8 g).toNat : Int) := by rw [BitVec.toNat_ofNat]; omega
              have HXX := Lib.hid hxx
              rw [show (((8 : Nat) : Int)) = (8 : Int) from rfl]
              have hjI : j ≤ 268435456 := by omega
              clear hxx
              go_wp2_with (at_builtin; refine wpList_append_own _ rfl _ _ 38 rfl wr.heap.size 5 i8 (.int .u8 0) 1 1 Tryd.underlying38 hi8 hy0 hy1 hy2 rfl (by decide) _ _ _ rfl (hown.alloc _) ⟨wr2.heap.size, 0, none⟩ 1 1 [.int .u8 (g : Int)] rfl rfl (cell_one_new' _ _ _) ?c2 ?c3 ?c4 ?c5 ?_)
              case c2 => first | (intro u hu; simp at hu; subst hu; rfl) | rfl
              case c3 => unfold maxLen; omega
              case c4 => omega
              case c5 => first | (simp; omega) | omega
              intro v' w1 hown' hgrow _
              have hb1 : Below wr.heap.size wr w1 := below_own hb2 hsz hown _ hgrow
              rw [HXX.out, show [Value.int .u8 ((BitVec.ofNat 8 g).toNat : Int)] = u8s [BitVec.ofNat 8 g] from rfl, ← u8s_append, ← HS.out] at hown'
              clear hgrow hb2 hown
              go_wp2
              go_roundw
              case rel => exact ⟨j + 1, i + 8, by rw [HIJ.out, Nat.mul_succ], by omega, by go_num, hown', hb1⟩
              case measure => simp [intOf]; omega
        · have hj : j = N / 8 := by omega
          rw [List.take_of_length_le (by rw [octs_length, ← HN.out]; omega)] at hown
          have hcv := conv_own hown
          have hnl : ¬ ((i : Int) + 8 ≤ (N : Int)) := by omega
          have hiN : i ≤ 268435456 := by omega
          generalize strOf (octs L) = S at *
          clear hij hj
          go_wp2
          go_ret2
          exact ⟨by rw [HF.out]; rfl, hb.trans (hb2.mono hb.size)⟩

set_option maxHeartbeats 2000000 in
set_option maxRecDepth 100000 in
theorem meant4_any (s al : ByteArray) (w : World) (hs : s.size ≤ 33554432) (hal : al.size ≤ 256) :
    Calls Tryd.prog 30 #[.string s, .int .i64 4, .string al] w fun e w' => e = .returned (MeantRes 4 (bytesOf al) (bytesOf s)) ∧ Below w.heap.size w w' := by
  obtain ⟨i0, hi, hz0, hz1, hz2⟩ := info_parts info_int
  obtain ⟨i8, hi8, hy0, hy1, hy2⟩ := info_parts info8
  have hal' : al.size ≤ maxLen := by unfold maxLen; omega
  go_enter Tryd.func30, Tryd.ntmps30
  go_wp2
  go_loopw [8, 9, 10, 11] (fun v i _ _ wr => ∃ k : Nat, k ≤ s.size ∧ i = .int .i64 k ∧ Hid (URadix.allIn (bytesOf al) ((bytesOf s).take k) = true) ∧ wr.ownsRow w.heap.size 3 1 v (4 * k) (i64s (URadix.bitsOf 4 ((URadix.numsOf (bytesOf al) (bytesOf s)).take k))) ∧ Below w.heap.size w wr) (fun _ i _ _ _ => s.size - (intOf i).toNat)
  case atStart => exact ⟨0, Nat.zero_le _, rfl, Lib.hid rfl, World.ownsRow_nil _ _ _ _, Below.refl _ _⟩
  case round =>
    rename World => wr
    obtain ⟨k, hk, rfl, HA, hown, hb⟩ := hrel
    by_cases hlt : k < s.size
    · have HC := Lib.hid (bytesOf_get s k hlt)
      have HP := Lib.hid (place_any al s[k] wr hal')
      cases hp : URadix.place (bytesOf al) s[k].toBitVec with
      | none =>
        rw [hp] at HP
        have HF := Lib.hid (meantRes_no (n := 4) (allIn_take_false HC.out hp))
        clear hp
        change Hid (Calls _ _ _ _ fun e w' => e = .returned (.int .i64 (-1)) ∧ _) at HP
        go_wp2_with (go_at_call 38; (with_reducible refine HP.out.mono ?_); rintro e w1 ⟨rfl, rfl⟩)
        go_ret2
        exact ⟨by rw [HF.out]; rfl, hb⟩
      | some x =>
        rw [hp] at HP
        have HA2 : Hid (URadix.allIn (bytesOf al) ((bytesOf s).take (k + 1)) = true) := Lib.hid (by rw [allIn_take_succ _ _ k _ HC.out, HA.out, hp]; rfl)
        have HS := Lib.hid (numsOf_take_succ _ _ k _ x HC.out hp)
        have hx256 : x < 256 := by
          have := (URadix.place_some hp).1
          rw [bytesOf_length] at this
          omega
        clear hp
        change Hid (Calls _ _ _ _ fun e w' => e = .returned (.int .i64 (x : Int)) ∧ _) at HP
        generalize (URadix.numsOf (bytesOf al) (bytesOf s)).take k = l at *
        have hown0 : wr.ownsRow w.heap.size 3 1 u8 (4 * k + 0) (i64s (URadix.bitsOf 4 l ++ (URadix.bitList 4 x).take 0)) := by simpa using hown
        have hxI : (x : Int) < 256 := by omega
        have hx0 : (0 : Int) ≤ (x : Int) := by omega
        clear hown
        go_wp2_with (go_at_call 38; (with_reducible refine HP.out.mono ?_); rintro e w1 ⟨rfl, rfl⟩)
        go_loopw [8, 11] (fun v m wr => ∃ j m' : Nat, Mask 4 j m' ∧ m = .int .i64 m' ∧ wr.ownsRow w.heap.size 3 1 v (4 * k + j) (i64s (URadix.bitsOf 4 l ++ (URadix.bitList 4 x).take j)) ∧ Below w.heap.size w wr) (fun _ m _ => (intOf m).toNat)
        case atStart => exact ⟨0, 8, Mask.zero 4, rfl, hown0, hb⟩
        case round =>
          rename World => wr2
          clear hown0 hb
          obtain ⟨j, m, hM, rfl, hown, hb⟩ := hrel
          by_cases hm : 0 < m
          · have hjl := hM.lt (by omega) hm
            have HM := Lib.hid (hM.step (by omega) hm)
            have HBt := Lib.hid (hM.bit (by omega) hm x)
            have HTk := Lib.hid (bitList_take 4 x j hjl)
            obtain ⟨b, hbit⟩ : ∃ b, b = URadix.bitOf 4 x j := ⟨_, rfl⟩
            rw [← hbit] at HTk HBt
            obtain ⟨y, hy⟩ : ∃ y, y = x / m := ⟨_, rfl⟩
            rw [← hy] at HBt
            have hq : (x : Int) / (m : Int) = (y : Int) := by rw [hy]; simp
            have hy256 : (y : Int) < 256 := by
              have := Nat.div_le_self x m
              omega
            have hq2 : (y : Int) % 2 = (b : Int) := by have := HBt.out; omega
            have hm' : (0 : Int) < (m : Int) := by omega
            have hm128 : (m : Int) ≤ 128 := by have := hM.top; omega
            have hsz := hb.size
            clear hM hbit hy
            go_wp2_with (at_builtin; refine wpList_append_own _ rfl _ _ 45 rfl w.heap.size 3 i0 (.int .i64 0) 1 8 Tryd.underlying45 hi hz0 hz1 hz2 rfl (by decide) _ _ _ rfl (hown.alloc _) ⟨wr2.heap.size, 0, none⟩ 1 1 [.int .i64 (b : Int)] rfl rfl (cell_one_new' _ _ _) ?c2 ?c3 ?c4 ?c5 ?_)
            case c2 => first | (intro u hu; simp at hu; subst hu; rfl) | rfl
            case c3 => unfold maxLen; omega
            case c4 => omega
            case c5 => first | (simp; omega) | omega
            intro v' w1 hown' hgrow _
            have hb1 : Below w.heap.size w w1 := below_own hb hsz hown _ hgrow
            rw [show [Value.int .i64 (b : Int)] = i64s [b] from rfl, ← i64s_append, List.append_assoc, ← HTk.out] at hown'
            clear hgrow hb hown hq hq2
            go_wp2
            go_roundw
            case rel => exact ⟨j + 1, m / 2, HM.out, by go_num, hown', hb1⟩
            case measure => simp [intOf]; omega
          · obtain rfl : m = 0 := by omega
            obtain rfl := hM.last
            rw [bitList_full, ← URadix.bitsOf_snoc, ← HS.out] at hown
            go_wp2
            go_roundw
            case rel => exact ⟨k + 1, by omega, by go_num, HA2, hown, hb⟩
            case measure => simp [intOf]; omega
    · obtain rfl : k = s.size := by omega
      have hsb : (bytesOf s).length = s.size := bytesOf_length s
      rw [List.take_of_length_le (by rw [URadix.numsOf_length]; omega)] at hown
      have HF : Hid (MeantRes 4 (bytesOf al) (bytesOf s) = .tuple #[.string (strOf (octs (URadix.bitsOf 4 (URadix.numsOf (bytesOf al) (bytesOf s))))), .bool true]) := Lib.hid (by
        have := HA.out
        rw [List.take_of_length_le (by omega)] at this
        exact meantRes_yes this)
      have hLl : (URadix.bitsOf 4 (URadix.numsOf (bytesOf al) (bytesOf s))).length = 4 * s.size := by rw [URadix.bitsOf_length, URadix.numsOf_length, hsb]
      have H1 : Hid (∀ i, (URadix.bitsOf 4 (URadix.numsOf (bytesOf al) (bytesOf s))).getD i 0 ≤ 1) := Lib.hid (fun i => URadix.bitsOf_le 4 (by omega) _ i)
      clear HA hsb
      generalize URadix.bitsOf 4 (URadix.numsOf (bytesOf al) (bytesOf s)) = L at *
      obtain ⟨p, cap, rfl, hc⟩ := IntRow.own hown
      obtain ⟨N, hN⟩ : ∃ N, N = L.length := ⟨_, rfl⟩
      have hN2 : N ≤ 268435456 := by omega
      have HN := Lib.hid hN
      have HCl := Lib.hid hc
      rw [← hN]
      clear hc hN hLl hown
      go_wp2
      go_loopw [12, 13, 14, 15] (fun o i _ _ wr2 => ∃ j i' : Nat, i' = 8 * j ∧ j ≤ N / 8 ∧ i = .int .i64 i' ∧ wr2.ownsRow wr.heap.size 5 1 o j (u8s ((octs L).take j)) ∧ Below wr.heap.size wr wr2) (fun _ i _ _ _ => N + 8 - (intOf i).toNat)
      case atStart => exact ⟨0, 0, by omega, Nat.zero_le _, rfl, by simpa [u8s] using World.ownsRow_nil wr wr.heap.size 5 1, Below.refl _ _⟩
      case round =>
        rename World => wr2
        obtain ⟨j, i, hij, hjc, rfl, hown, hb2⟩ := hrel
        have HIJ := Lib.hid hij
        by_cases hlt : i + 8 ≤ N
        · have hj : j < N / 8 := by omega
          clear hij
          go_wp2
          go_loop [14, 15] (fun g k => ∃ (k' g' : Nat), k' ≤ 8 ∧ k = .int .i64 k' ∧ g = .int .i64 g' ∧ Hid (g' = URadix.grp L i k')) (fun _ k => 8 - (intOf k).toNat)
          case atStart => exact ⟨0, 0, Nat.zero_le _, rfl, rfl, Lib.hid rfl⟩
          case round =>
            obtain ⟨k, g, hk, rfl, rfl, HG⟩ := hrel
            have hg256 : (g : Int) < 256 := by
              have h2 := URadix.grp_lt L H1.out i k
              have h3 : 2 ^ k ≤ 2 ^ 8 := Nat.pow_le_pow_right (by omega) (by omega)
              rw [HG.out]
              omega
            by_cases hkn : k < 8
            · obtain ⟨b, rfl, hcell⟩ := HCl.out (i + k) (by rw [← HN.out]; omega)
              have hcell2 := cell_below hcell hb2
              have hbit := H1.out (i + k)
              have HG2 : Hid (2 * g + L.getD (i + k) 0 = URadix.grp L i (k + 1)) := Lib.hid (by rw [HG.out]; rfl)
              generalize L.getD (i + k) 0 = bt at *
              have hbt : (bt : Int) ≤ 1 := by omega
              clear hcell
              go_wp2
              go_round
              case rel => exact ⟨k + 1, 2 * g + bt, by omega, by go_num, by go_num, HG2⟩
              case measure => simp [intOf]; omega
            · obtain rfl : k = 8 := by omega
              have HS := Lib.hid (octs_step L j g (by rw [← HN.out]; exact hj) (by rw [HG.out, HIJ.out]))
              have hsz := hb2.size
              have hxx : (g : Int) = ((BitVec.ofNat 8 g).toNat : Int) := by rw [BitVec.toNat_ofNat]; omega
              have HXX := Lib.hid hxx
              rw [show (((8 : Nat) : Int)) = (8 : Int) from rfl]
              have hjI : j ≤ 268435456 := by omega
              clear hxx
              go_wp2_with (at_builtin; refine wpList_append_own _ rfl _ _ 38 rfl wr.heap.size 5 i8 (.int .u8 0) 1 1 Tryd.underlying38 hi8 hy0 hy1 hy2 rfl (by decide) _ _ _ rfl (hown.alloc _) ⟨wr2.heap.size, 0, none⟩ 1 1 [.int .u8 (g : Int)] rfl rfl (cell_one_new' _ _ _) ?c2 ?c3 ?c4 ?c5 ?_)
              case c2 => first | (intro u hu; simp at hu; subst hu; rfl) | rfl
              case c3 => unfold maxLen; omega
              case c4 => omega
              case c5 => first | (simp; omega) | omega
              intro v' w1 hown' hgrow _
              have hb1 : Below wr.heap.size wr w1 := below_own hb2 hsz hown _ hgrow
              rw [HXX.out, show [Value.int .u8 ((BitVec.ofNat 8 g).toNat : Int)] = u8s [BitVec.ofNat 8 g] from rfl, ← u8s_append, ← HS.out] at hown'
              clear hgrow hb2 hown
              go_wp2
              go_roundw
              case rel => exact ⟨j + 1, i + 8, by rw [HIJ.out, Nat.mul_succ], by omega, by go_num, hown', hb1⟩
              case measure => simp [intOf]; omega
        · have hj : j = N / 8 := by omega
          rw [List.take_of_length_le (by rw [octs_length, ← HN.out]; omega)] at hown
          have hcv := conv_own hown
          have hnl : ¬ ((i : Int) + 8 ≤ (N : Int)) := by omega
          have hiN : i ≤ 268435456 := by omega
          generalize strOf (octs L) = S at *
          clear hij hj
          go_wp2
          go_ret2
          exact ⟨by rw [HF.out]; rfl, hb.trans (hb2.mono hb.size)⟩

end Go.Proofs.YtoldmgpnogkjfaaDoor
