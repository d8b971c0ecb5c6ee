/- The reference's letters of a row of bits, walked. -/
import Derived.Test.YtmmniapkajbdhaaDoorRadixBits
import Derived.Test.YtmmniapkajbdhaaDoorConv
namespace Go.Proofs.YtmmniapkajbdhaaDoor
open Go.RowKit
/-- the value reads as a row of numbers -/
def IntRow (w : World) (v : Value) (L : List Nat) : Prop := ∃ p cap, v = .slice p L.length cap ∧ ∀ j, j < L.length → ∃ g, p = some ⟨g, 0, none⟩ ∧ w.cell? ⟨g, j, none⟩ = some (.int .i64 ((L.getD j 0 : Nat) : Int))
theorem IntRow.below {w w' : World} {v : Value} {L : List Nat} (h : IntRow w v L) (hb : Below w.heap.size w w') : IntRow w' v L := by
  obtain ⟨p, cap, h1, h2⟩ := h
  exact ⟨p, cap, h1, fun j hj => by obtain ⟨g, e, c⟩ := h2 j hj; exact ⟨g, e, cell_below c hb⟩⟩
theorem IntRow.own {w : World} {base n : Nat} {v : Value} {L : List Nat} (h : w.ownsRow base 3 1 v n (i64s L)) : IntRow w v L := by
  have hl : L.length = n := by have := h.1; rw [i64s_length] at this; omega
  have hc := fun (g : Nat) (hg : v.ownBlock = some g) => h.cells hg
  rcases h.2 with ⟨rfl, h0⟩ | ⟨g, cap, cur, rfl, _⟩
  · exact ⟨none, 0, by rw [hl, h0], fun j hj => by omega⟩
  · refine ⟨some ⟨g, 0, none⟩, cap, by rw [hl], fun j hj => ⟨g, rfl, ?_⟩⟩
    have := hc g rfl j _ (i64s_get L j hj)
    have e : (⟨g, 0, none⟩ : Addr).add j = ⟨g, j, none⟩ := by unfold Addr.add; split <;> simp_all
    rwa [e] at this
/-- the letters -/
def grps (L : List Nat) (n : Nat) : List Nat := (List.range ((L.length + n - 1) / n)).map fun j => URadix.grp L (n * j) n
theorem grps_length (L : List Nat) (n : Nat) : (grps L n).length = (L.length + n - 1) / n := by simp [grps]
theorem cnt_lt {N n j : Nat} (hn : 0 < n) : n * j < N ↔ j < (N + n - 1) / n := by
  rw [Nat.lt_div_iff_mul_lt hn]
  constructor
  · intro h
    have : j * n = n * j := Nat.mul_comm _ _
    omega
  · intro h
    have : j * n = n * j := Nat.mul_comm _ _
    omega
theorem letters_step (al : ByteArray) (L : List Nat) (n j g : Nat) (hj : j < (L.length + n - 1) / n) (hg : g = URadix.grp L (n * j) n) (hal : g < al.size) :
    (URadix.spell (bytesOf al) (grps L n)).take (j + 1) = (URadix.spell (bytesOf al) (grps L n)).take j ++ [al[g].toBitVec] := by
  apply take_snoc
  rw [spell_at _ _ _ (by rw [grps_length]; exact hj)]
  have e : (grps L n).getD j 0 = g := by
    unfold grps
    rw [List.getD_eq_getElem?_getD, List.getElem?_map, List.getElem?_range hj, hg]; rfl
  rw [e, bytesOf_getD al g hal]
set_option maxHeartbeats 1000000 in
theorem letters_any (v : Value) (L : List Nat) (n : Nat) (al : ByteArray) (w : World) (hv : IntRow w v L) (hn : 0 < n) (hn8 : n ≤ 8) (hL : L.length ≤ 268435456) (h1 : ∀ i, L.getD i 0 ≤ 1) (hal : al.size = 2 ^ n) :
    Calls Tryd.prog 31 #[v, .int .i64 n, .string al] w fun e w' => e = .returned (.string (strOf (URadix.spell (bytesOf al) (grps L n)))) ∧ Below w.heap.size w w' := by
  obtain ⟨i0, hi, hz0, hz1, hz2⟩ := info_parts info8
  obtain ⟨p, cap, rfl, hc⟩ := hv
  have HC := Lib.hid hc
  have HAL := Lib.hid hal
  have H1 := Lib.hid h1
  have hal256 : al.size ≤ 256 := by rw [hal]; exact Nat.pow_le_pow_right (by omega) hn8
  obtain ⟨N, hN⟩ : ∃ N, N = L.length := ⟨_, rfl⟩
  rw [← hN] at hL
  have HN := Lib.hid hN
  rw [← hN]
  clear hc hal h1 hN
  have hnI : (0 : Int) < (n : Int) := by omega
  have hnI8 : (n : Int) ≤ 8 := by omega
  go_enter Tryd.func31, Tryd.ntmps31
  go_wp2
  go_loopw [7, 8, 9, 10] (fun o i _ _ wr => ∃ j i' : Nat, i' = n * j ∧ j ≤ (N + n - 1) / n ∧ i = .int .i64 i' ∧ wr.ownsRow w.heap.size 5 1 o j (u8s ((URadix.spell (bytesOf al) (grps L n)).take j)) ∧ Below w.heap.size w wr) (fun _ i _ _ _ => N + 8 - (intOf i).toNat)
  case atStart => exact ⟨0, 0, by omega, Nat.zero_le _, rfl, by simpa [u8s] using World.ownsRow_nil w w.heap.size 5 1, Below.refl _ _⟩
  case round =>
    rename World => wr
    obtain ⟨j, i, hij, hjc, rfl, hown, hb⟩ := hrel
    have HIJ := Lib.hid hij
    by_cases hlt : i < N
    · have hj : j < (N + n - 1) / n := (cnt_lt hn).1 (by rw [← hij]; exact hlt)
      clear hij
      go_wp2
      go_loop [9, 10] (fun g k => ∃ (k' g' : Nat), k' ≤ n ∧ k = .int .i64 k' ∧ g = .int .i64 g' ∧ Hid (g' = URadix.grp L i k')) (fun _ k => n - (intOf k).toNat)
      case atStart => exact ⟨0, 0, Nat.zero_le _, rfl, rfl, Lib.hid rfl⟩
      case round =>
        obtain ⟨k, g, hk, rfl, rfl, HG⟩ := hrel
        have hg256 : (g : Int) ≤ 256 := by
          have h2 := URadix.grp_lt L H1.out i k
          have h3 : 2 ^ k ≤ 2 ^ 8 := Nat.pow_le_pow_right (by omega) (by omega)
          rw [HG.out]
          omega
        by_cases hkn : k < n
        · by_cases hin : i + k < N
          · obtain ⟨b, rfl, hcell⟩ := HC.out (i + k) (by rw [← HN.out]; exact hin)
            have hcell2 := cell_below hcell hb
            have hbit := H1.out (i + k)
            have HG2 : Hid (2 * g + L.getD (i + k) 0 = URadix.grp L i (k + 1)) := Lib.hid (by rw [HG.out]; rfl)
            generalize L.getD (i + k) 0 = bt at *
            have hbt : (bt : Int) ≤ 1 := by omega
            clear hcell
            go_wp2
            go_round
            case rel => exact ⟨k + 1, 2 * g + bt, by omega, by go_num, by go_num, HG2⟩
            case measure => simp [intOf]; omega
          · have HG2 : Hid (2 * g = URadix.grp L i (k + 1)) := Lib.hid (by
              rw [HG.out]
              show _ = 2 * URadix.grp L i k + L.getD (i + k) 0
              rw [List.getD_eq_getElem?_getD, List.getElem?_eq_none (by rw [← HN.out]; omega)]; rfl)
            go_wp2
            go_round
            case rel => exact ⟨k + 1, 2 * g, by omega, by go_num, by go_num, HG2⟩
            case measure => simp [intOf]; omega
        · obtain rfl : k = n := by omega
          have hgl : g < al.size := by
            rw [HAL.out, HG.out]
            exact URadix.grp_lt L H1.out i k
          have hgI : (g : Int) < (al.size : Int) := by omega
          have hg0 : (0 : Int) ≤ (g : Int) := by omega
          have HS := Lib.hid (letters_step al L k j g (by rw [← HN.out]; exact hj) (by rw [HG.out, HIJ.out]) hgl)
          have hjI : j ≤ 268435456 + 8 := by
            have := (cnt_lt hn).2 hj
            have h2 := Nat.le_mul_of_pos_left j hn
            omega
          have hsz := hb.size
          generalize hx : al[g].toBitVec = x at *
          have hxx : (al[g].toNat : Int) = (x.toNat : Int) := by rw [← hx]; rfl
          clear hx
          go_wp2_with (at_builtin; refine wpList_append_own _ rfl _ _ 66 rfl w.heap.size 5 i0 (.int .u8 0) 1 1 Tryd.underlying66 hi hz0 hz1 hz2 rfl (by decide) _ _ _ rfl (hown.alloc _) ⟨wr.heap.size, 0, none⟩ 1 1 [.int .u8 (x.toNat : Int)] rfl rfl (cell_one_new' _ _ _) ?c2 ?c3 ?c4 ?c5 ?_)
          case c2 => first | (intro u hu; simp at hu; subst hu; rfl) | rfl
          case c3 => unfold maxLen; omega
          case c4 => omega
          case c5 => first | (simp; omega) | omega
          intro v' w1 hown' hgrow _
          have hb1 : Below w.heap.size w w1 := below_own hb hsz hown _ hgrow
          rw [show [Value.int .u8 (x.toNat : Int)] = u8s [x] from rfl, ← u8s_append, ← HS.out] at hown'
          clear hgrow hb hown hxx
          go_wp2
          go_roundw
          case rel => exact ⟨j + 1, i + k, by rw [HIJ.out, Nat.mul_succ], by omega, by go_num, hown', hb1⟩
          case measure => simp [intOf]; omega
    · have hj : j = (N + n - 1) / n := by
        have := mt (cnt_lt (N := N) (j := j) hn).2 (by rw [← hij]; exact hlt)
        omega
      rw [List.take_of_length_le (by rw [URadix.spell_length, grps_length, ← HN.out]; omega)] at hown
      have hcv := conv_own hown
      generalize hS : strOf (URadix.spell (bytesOf al) (grps L n)) = S at *
      have HS := Lib.hid hS
      clear hS hij hj
      go_wp2
      go_ret
      exact ⟨by rw [HS.out]; rfl, hb⟩
end Go.Proofs.YtmmniapkajbdhaaDoor
