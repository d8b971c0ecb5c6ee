/- Sum, walked. -/
import Derived.Test.YtmkifaddfnodhaaDoorHashAdd
import Derived.Deep.Cut
namespace Go.Proofs.YtmkifaddfnodhaaDoor
open Go.RowKit
theorem over_pad (rest : List (BitVec 8)) (held : Nat) (hl : rest.length = 64) (h : held < 64) : USha.over (USha.over rest held [0x80#8]) (held + 1) (List.replicate (63 - held) 0#8) = USha.pad1 rest held := by
  have e := USha.over_take rest held [0x80#8] (by omega)
  have hlen := USha.over_length rest held [0x80#8] (by simp; omega)
  unfold USha.over at e hlen ⊢
  unfold USha.pad1
  simp only [List.length_cons, List.length_nil, Nat.zero_add] at e hlen ⊢
  rw [e, List.drop_of_length_le (by rw [hlen, List.length_replicate]; omega), List.append_nil]
theorem over_set (rest : List (BitVec 8)) (held : Nat) (b : BitVec 8) (h : held < rest.length) : rest.set held b = USha.over rest held [b] := by
  unfold USha.over
  rw [List.set_eq_take_append_cons_drop, if_pos h]
  simp
theorem zero8 (w : World) : (zeroValue 5).run Tryd.prog w = .ok (.int .u8 0) w := by kernel_rfl
section
variable {P : Program}
theorem run_clear_blk {w : World} (dT ty elem : TypeId) (hu : P.underlying dT = some (.slice elem)) (z : Value) (hv : ∀ w, (zeroValue elem).run P w = .ok z w) (hz : z.cells = #[z]) (h1 : z.oneCell' = true)
    {g off n c : Nat} {p : Option Addr} (hp : 0 < n → p = some ⟨g, off, none⟩) {t : TypeId} {l : List Value} (hb : Blk w g t l) (hfit : off + n ≤ l.length) :
    ∃ w', (Builtin.clear_ #[dT] ty #[.slice p n c]).run P w = .ok (.tuple #[]) w' ∧ Blk w' g t (seg l off (List.replicate n z)) ∧ Aside g w w' := by
  by_cases hn : n = 0
  · subst hn
    refine ⟨w, ?_, by simpa [seg] using hb, Aside.refl _ _⟩
    cases p <;> simp [Builtin.clear_, run_underlying hu]
  · have hp' := hp (by omega)
    subst hp'
    have hzc : (Builtin.zeroCells z.cells n).toList = List.replicate n z := by
      rw [hz]
      simp [Builtin.zeroCells]
      apply List.ext_getElem
      · simp
      · intro i h1 h2
        simp [Nat.mod_one]
    have hst := run_storeCells_at P g off t (List.replicate n z) 0 l.toArray w hb (by simpa using hfit) (by intro v hv'; rw [List.eq_of_mem_replicate hv']; exact h1)
    simp only [Nat.add_zero] at hst
    obtain ⟨m, rfl⟩ : ∃ m, n = m + 1 := ⟨n - 1, by omega⟩
    refine ⟨w.setRow g (seg l off (List.replicate (m + 1) z)).toArray, ?_, hb.row _, Aside.setRow w g _⟩
    simp [Builtin.clear_, run_underlying hu, hv, hzc, hst, seg]
end
theorem len_byte2 (n j : Nat) (hn : n < 18446744073709551616) : (n : Int) / 2 ^ j % 256 = ((((BitVec.ofNat 64 n) >>> j).setWidth 8 : BitVec 8).toNat : Int) := by
  have e : ((n : Int) / 2 ^ j) = ((n / 2 ^ j : Nat) : Int) := by simp
  rw [e, BitVec.toNat_setWidth, BitVec.toNat_ushiftRight, BitVec.toNat_ofNat, Nat.mod_eq_of_lt (by omega : n < 2 ^ 64), Nat.shiftRight_eq_div_pow]
  omega
def zeros32 : List Value := List.replicate 32 (.int .u8 0)
theorem byte_0 (x : BitVec 32) : (x.toNat : Int) / 16777216 % 256 = (((x >>> 24).setWidth 8 : BitVec 8).toNat : Int) := by
  rw [BitVec.toNat_setWidth, BitVec.toNat_ushiftRight, Nat.shiftRight_eq_div_pow]; omega
theorem byte_1 (x : BitVec 32) : (x.toNat : Int) / 65536 % 256 = (((x >>> 16).setWidth 8 : BitVec 8).toNat : Int) := by
  rw [BitVec.toNat_setWidth, BitVec.toNat_ushiftRight, Nat.shiftRight_eq_div_pow]; omega
theorem byte_2 (x : BitVec 32) : (x.toNat : Int) / 256 % 256 = (((x >>> 8).setWidth 8 : BitVec 8).toNat : Int) := by
  rw [BitVec.toNat_setWidth, BitVec.toNat_ushiftRight, Nat.shiftRight_eq_div_pow]; omega
theorem byte_3 (x : BitVec 32) : (x.toNat : Int) % 256 = ((x.setWidth 8 : BitVec 8).toNat : Int) := by
  rw [BitVec.toNat_setWidth]; omega
theorem conv_blk32 {w : World} {g : Nat} {t : TypeId} {l : List (BitVec 8)} (hb : Blk w g t (u8s l)) (hl : l.length = 32) :
    (convert 53 9 (.slice (some ⟨g, 0, none⟩) 32 32)).run Tryd.prog w = .ok (.string (strOf l)) w := by
  rw [← hl]
  have := run_convert_bytes_back (P := Tryd.prog) w 53 9 5 ⟨g, 0, none⟩ l.length (l.map UInt8.ofBitVec) Tryd.underlying53 Tryd.underlying5 Tryd.underlying9 (fun j hj => by
    have hj' : j < l.length := by simpa using hj
    have e : (⟨g, 0, none⟩ : Addr).add j = ⟨g, j, none⟩ := by unfold Addr.add; split <;> simp_all
    rw [e, hb.cell j]
    simp [u8s, hj'])
  simpa [strOf] using this
theorem hc_seg_rest (v : USha.St) (rest x : List (BitVec 8)) (held count : Int) (h : rest.length = 64) (hx : x.length = 64) : seg (hc v rest held count) 8 (u8s x) = hc v x held count := by
  have e := hc_seg_over v rest 0 held count x h (by omega)
  rw [Nat.add_zero] at e
  rw [e]
  unfold USha.over
  rw [List.take_zero, List.nil_append, List.drop_of_length_le (by omega), List.append_nil]
def outC (v : USha.St) (k : Nat) : List Value := u8s ((v.list.take k).flatMap USha.bytesW) ++ List.replicate (32 - 4 * k) (.int .u8 0)
theorem outC_length (v : USha.St) (k : Nat) (h : k ≤ 8) : (outC v k).length = 32 := by
  match k, h with
  | 0, _ => rfl
  | 1, _ => rfl
  | 2, _ => rfl
  | 3, _ => rfl
  | 4, _ => rfl
  | 5, _ => rfl
  | 6, _ => rfl
  | 7, _ => rfl
  | 8, _ => rfl
theorem outC_step (v : USha.St) (k : Nat) (h : k < 8) : ∃ x : BitVec 32, (vl v)[k]? = some (.int .u32 (x.toNat : Int)) ∧
    ((((outC v k).set (4 * k) (.int .u8 (((x >>> 24).setWidth 8 : BitVec 8).toNat : Int))).set (4 * k + 1) (.int .u8 (((x >>> 16).setWidth 8 : BitVec 8).toNat : Int))).set (4 * k + 2) (.int .u8 (((x >>> 8).setWidth 8 : BitVec 8).toNat : Int))).set (4 * k + 3) (.int .u8 ((x.setWidth 8 : BitVec 8).toNat : Int)) = outC v (k + 1) := by
  match k, h with
  | 0, _ => exact ⟨_, rfl, rfl⟩
  | 1, _ => exact ⟨_, rfl, rfl⟩
  | 2, _ => exact ⟨_, rfl, rfl⟩
  | 3, _ => exact ⟨_, rfl, rfl⟩
  | 4, _ => exact ⟨_, rfl, rfl⟩
  | 5, _ => exact ⟨_, rfl, rfl⟩
  | 6, _ => exact ⟨_, rfl, rfl⟩
  | 7, _ => exact ⟨_, rfl, rfl⟩
theorem set_seg (l : List Value) (i : Nat) (v : Value) (h : i < l.length) : l.set i v = seg l i [v] := by
  unfold seg
  rw [List.set_eq_take_append_cons_drop, if_pos h]
  simp
theorem u8s_zeros (n : Nat) : u8s (List.replicate n 0#8) = List.replicate n (.int .u8 0) := by simp [u8s]
theorem hc_get (v : USha.St) (rest : List (BitVec 8)) (held count : Int) (hl : rest.length = 64) (i : Nat) (hi : i < 64) : (hc v rest held count)[8 + i]? = some (.int .u8 ((USha.bAt rest i).toNat : Int)) := by
  unfold hc
  rw [List.getElem?_append_right (by rw [vl_length]; omega), vl_length, show 8 + i - 8 = i by omega, List.getElem?_append_left (by rw [u8s_length]; omega)]
  exact u8s_get rest i (by omega)
theorem hc_setAt (v : USha.St) (rest : List (BitVec 8)) (held count : Int) (hl : rest.length = 64) (i : Nat) (hi : i < 64) (b : BitVec 8) : (hc v rest held count).set (8 + i) (.int .u8 (b.toNat : Int)) = hc v (rest.set i b) held count := by
  unfold hc
  rw [List.set_append_right _ _ (by rw [vl_length]; omega), vl_length, show 8 + i - 8 = i by omega, List.set_append_left _ _ (by rw [u8s_length]; omega)]
  congr 2
  simp [u8s, List.map_set]
set_option maxHeartbeats 8000000 in
set_option maxRecDepth 100000 in
theorem sum_any (g : Nat) (v : USha.St) (rest : List (BitVec 8)) (held : Nat) (L : List (BitVec 8)) (w : World) (hB : Blk w g 70 (hc v rest (held : Nat) (L.length : Int))) (hH : USha.Holds v rest held L) (hL : L.length < 1152921504606846976)
    (ht : U32Tab w 18 USha.round) :
    Calls Tryd.prog 30 #[.pointer (some ⟨g, 0, none⟩)] w fun e w' => e = .returned (.string (strOf (USha.sha L))) ∧ Below w.heap.size w w' := by
  have HT := Lib.hid ht
  clear ht
  have hlr := hH.len
  have hlt := hH.lt
  have hgl := hB.lt
  have hlen := hc_length v rest (held : Nat) (L.length : Int) hlr
  have HLEN := Lib.hid (show 0 + 74 ≤ (hc v rest (held : Nat) (L.length : Int)).length by rw [hlen]; omega)
  have HLN := Lib.hid hlen
  have hall : ((hc v rest (held : Nat) (L.length : Int)).drop 0).take 74 = hc v rest (held : Nat) (L.length : Int) := by
    rw [List.drop_zero]; exact List.take_of_length_le (by rw [hlen]; omega)
  have HALL := Lib.hid hall
  have hE : Blk (w.alloc (.cells (hc v rest (held : Nat) (L.length : Int)).toArray 70)) w.heap.size 70 (hc v rest (held : Nat) (L.length : Int)) := Blk.new w _ _
  have hG := hB.alloc (.cells (hc v rest (held : Nat) (L.length : Int)).toArray 70)
  have hb0 : Below w.heap.size w (w.alloc (.cells (hc v rest (held : Nat) (L.length : Int)).toArray 70)) := (Below.refl _ _).alloc (Nat.le_refl _) _
  have HB := Lib.hid hB
  have HH := Lib.hid hH
  clear hall hlen hB hH
  go_enter Tryd.func30, Tryd.ntmps30
  go_upto_region 2 with (first
    | (refine wpList_load_seg (off := 0) (n := 74) (by rfl) 70 (.tmp 10) (by rfl) (by rfl) HB.out _ Tryd.underlying70 rfl (by kernel_rfl) HLEN.out ?_; rw [HALL.out])
    | (refine wpList_store_new 70 (.tmp 3) (.tmp 11) (hc v rest (held : Nat) (L.length : Int)) (by rfl) (by rfl) (by rfl) (by rfl) (by rw [HLN.out]; kernel_rfl) (by rw [HLN.out]; rfl) (hc_one _ _ _ _) ?_; generalize w.alloc (.cells (hc v rest (held : Nat) (L.length : Int)).toArray 70) = w1 at *))
  have c72 := hE.cell 72
  rw [hc_held _ _ _ _ hlr] at c72
  have c8 := hE.cell (8 + held)
  rw [hc_get _ _ _ _ hlr _ hlt] at c8
  have f8 := hE.frozen (8 + held)
  have h0 : (0 : Int) ≤ (held : Int) := by omega
  have h1 : (held : Int) < 64 := by omega
  have hE2 := hE.set (8 + held) (.int .u8 ((0x80#8).toNat : Int))
  rw [hc_setAt _ _ _ _ hlr _ hlt] at hE2
  have hG2 := hG.far ⟨w.heap.size, 8 + held, none⟩ (.int .u8 ((0x80#8).toNat : Int)) (by simp; omega)
  have hb2 := hb0.setCell (p := ⟨w.heap.size, 8 + held, none⟩) (Nat.le_refl _) (.int .u8 ((0x80#8).toNat : Int))
  rw [show (((0x80#8).toNat : Nat) : Int) = (128 : Int) from rfl] at hE2 hG2 hb2
  have HE2 := Lib.hid hE2
  have HG2 := Lib.hid hG2
  have HB2 := Lib.hid hb2
  clear hE hG hb0 hE2 hG2 hb2
  go_upto_region 3 with fail
  generalize w1.setCell ⟨w.heap.size, 8 + held, none⟩ (.int .u8 128) = w2 at *
  clear c72 c8 f8
  have hl1 : (rest.set held 128#8).length = 64 := by rw [List.length_set]; exact hlr
  have c72 := HE2.out.cell 72
  rw [hc_held _ _ _ _ hl1] at c72
  obtain ⟨k1, hk1⟩ : ∃ k1, k1 = held + 1 := ⟨_, rfl⟩
  have hfit : 8 + k1 + (64 - k1) ≤ (hc v (rest.set held 128#8) (held : Nat) (L.length : Int)).length := by rw [hc_length _ _ _ _ hl1]; omega
  have HFIT := Lib.hid hfit
  have hsg : seg (hc v (rest.set held 128#8) (held : Nat) (L.length : Int)) (8 + k1) (List.replicate (64 - k1) (.int .u8 0)) = hc v (USha.pad1 rest held) (held : Nat) (L.length : Int) := by
    rw [← u8s_zeros, hc_seg_over _ _ _ _ _ _ hl1 (by rw [List.length_replicate]; omega), over_set rest held _ (by omega), show 64 - k1 = 63 - held by omega, hk1, over_pad rest held hlr hlt]
  have HSG := Lib.hid hsg
  have hki : (held : Int) + 1 = (k1 : Int) := by omega
  have hk0 : (0 : Int) ≤ (k1 : Int) := by omega
  have hk64 : (k1 : Int) ≤ 64 := by omega
  have hk64' : k1 ≤ 64 := by omega
  clear hsg hfit hk1
  obtain ⟨w3, hrun, hE3, ha3⟩ : ∃ w3, (Builtin.clear_ #[53] 0 #[.slice (some (if 64 = k1 then ⟨w.heap.size, 8, none⟩ else ⟨w.heap.size, 8 + k1, none⟩)) (64 - k1) (64 - k1)]).run Tryd.prog w2 = .ok (.tuple #[]) w3 ∧ Blk w3 w.heap.size 70 (seg (hc v (rest.set held 128#8) (held : Nat) (L.length : Int)) (8 + k1) (List.replicate (64 - k1) (.int .u8 0))) ∧ Aside w.heap.size w2 w3 :=
    run_clear_blk 53 0 5 Tryd.underlying53 (.int .u8 0) zero8 rfl rfl (fun hn => by rw [if_neg (by omega)]) HE2.out HFIT.out
  rw [HSG.out] at hE3
  have HE3 := Lib.hid hE3
  have HG3 := Lib.hid (ha3.blk HG2.out (by omega))
  have HB3 := Lib.hid (HB2.out.trans (ha3.below HB2.out.size (Nat.le_refl _)))
  clear hE3 ha3
  have c72c := HE3.out.cell 72
  have hpl := USha.pad1_length rest held hlr hlt
  rw [hc_held _ _ _ _ hpl] at c72c
  go_upto_region 4 with fail
  clear hrun
  generalize (if 64 = k1 then (⟨w.heap.size, 8, none⟩ : Addr) else ⟨w.heap.size, 8 + k1, none⟩) = adr
  by_cases hone : held + 9 ≤ 64
  · have hone1 : ¬ 64 < (held : Int) + 9 := by omega
    have HS := Lib.hid (USha.sha_one HH.out hone)
    go_upto_region 7 with fail
    have HE4 := HE3
    have HG4 := HG3
    have HB4 := HB3
    have hRR := hpl
    generalize USha.pad1 rest held = r2 at *
    have c73 := HG4.out.cell 73
    rw [hc_count _ _ _ _ hlr] at c73
    obtain ⟨M8, hM8⟩ : ∃ M8, M8 = 8 * L.length := ⟨_, rfl⟩
    have he8 : IntKind.u64.wrap ((L.length : Int) * 8) = (M8 : Int) := by rw [IntKind.wrap_u64]; omega
    have HM8 := Lib.hid hM8
    clear hM8
    go_upto_region 9 with fail
    clear c73 he8
    go_loopw [5, 38] (fun _ i wr => ∃ k : Nat, k ≤ 8 ∧ i = .int .i64 k ∧ Blk wr w.heap.size 70 (hc v (USha.lenTo r2 L.length k) (held : Nat) (L.length : Int)) ∧ Below w.heap.size w wr) (fun _ i _ => 8 - (intOf i).toNat)
    case atStart => exact ⟨0, by omega, rfl, HE4.out, HB4.out⟩
    case round =>
      rename World => wr5
      obtain ⟨k, hk8, rfl, hE5, hb5⟩ := hrel
      have hl5 : (USha.lenTo r2 L.length k).length = 64 := by rw [USha.lenTo_length]; exact hRR
      by_cases hlt5 : k < 8
      · obtain ⟨j, hj⟩ : ∃ j, j = 63 - k := ⟨_, rfl⟩
        have hj1 : (63 : Int) - (k : Int) = (j : Int) := by omega
        have hj64 : j < 64 := by omega
        have HJ := Lib.hid hj
        clear hj
        obtain ⟨b, hbv⟩ : ∃ b : BitVec 8, b = ((BitVec.ofNat 64 (8 * L.length)) >>> (8 * k)).setWidth 8 := ⟨_, rfl⟩
        have hbq : (M8 : Int) / 2 ^ (8 * k) % 256 = (b.toNat : Int) := by rw [hbv, ← HM8.out]; exact len_byte2 _ _ (by have := HM8.out; omega)
        have hset := hE5.set (8 + j) (.int .u8 (b.toNat : Int))
        rw [hc_setAt _ _ _ _ hl5 _ hj64, HJ.out, hbv, show (USha.lenTo r2 L.length k).set (63 - k) (((BitVec.ofNat 64 (8 * L.length)) >>> (8 * k)).setWidth 8) = USha.lenTo r2 L.length (k + 1) from rfl, ← hbv, ← HJ.out] at hset
        have HSET := Lib.hid hset
        clear hset hbv
        have j0 : (0 : Int) ≤ (j : Int) := by omega
        have j1 : (j : Int) < 64 := by omega
        have c8 := hE5.cell (8 + j)
        rw [hc_get _ _ _ _ hl5 _ hj64] at c8
        have f8 := hE5.frozen (8 + j)
        go_wp2
        go_roundw
        case rel => exact ⟨k + 1, by omega, by go_num, HSET.out, hb5.setCell (Nat.le_refl _) _⟩
        case measure => simp [intOf]; omega
      · obtain rfl : k = 8 := by omega
        generalize USha.lenTo r2 L.length 8 = r3 at *
        have HT5 := Lib.hid (HT.out.below hb5)
        have HF8 := Lib.hid (show 0 + 8 ≤ (hc v r3 (held : Nat) (L.length : Int)).length by rw [hc_length _ _ _ _ hl5]; omega)
        have HF64 := Lib.hid (show 8 + 64 ≤ (hc v r3 (held : Nat) (L.length : Int)).length by rw [hc_length _ _ _ _ hl5]; omega)
        have HR3 := Lib.hid (hc_rest v r3 (held : Nat) (L.length : Int) hl5)
        have hlt5 := hE5.lt
        go_upto_region 14 with (first
          | (refine wpList_load_seg (off := 0) (n := 8) (by rfl) 66 (.tmp 51) (by rfl) (by rfl) hE5 _ Tryd.underlying66 rfl (by kernel_rfl) HF8.out ?_; rw [hc_state])
          | (refine wpList_load_seg (off := 8) (n := 64) (by rfl) 67 (.tmp 53) (by rfl) (by rfl) hE5 _ Tryd.underlying67 rfl (by kernel_rfl) HF64.out ?_; rw [HR3.out])
          | (go_at_call 42; (with_reducible refine (take_any v r3 _ hl5 HT5.out).mono ?_); rintro e w6 ⟨rfl, hb6⟩; have hE6 := hE5.below hb6 hlt5; have hb7 := hb5.trans (hb6.mono hb5.size))
          | (refine wpList_store_seg (off := 0) (cs := vl (USha.compress v (USha.word (byteFn r3)))) (by rfl) 66 (.tmp 56) (.tmp 55) (by rfl) (by rfl) (by rfl) hE6 (by rw [vl_length]; kernel_rfl) HF8.out (vl_one _) ?_; rw [hc_seg_state]; have hE7 := hE6.row (hc (USha.compress v (USha.word (byteFn r3))) r3 (held : Nat) (L.length : Int)); have hb8 := below_setRow hb7 (Nat.le_refl w.heap.size) (hc (USha.compress v (USha.word (byteFn r3))) r3 (held : Nat) (L.length : Int)).toArray; generalize w6.setRow w.heap.size (hc (USha.compress v (USha.word (byteFn r3))) r3 (held : Nat) (L.length : Int)).toArray = w7 at *))
        have HS2 : Hid (USha.sha L = USha.out (USha.compress v (USha.word (byteFn r3)))) := HS
        generalize USha.compress v (USha.word (byteFn r3)) = v2 at *
        have HF9 := Lib.hid (show 0 + 8 ≤ (hc v2 r3 (held : Nat) (L.length : Int)).length by rw [hc_length _ _ _ _ hl5]; omega)
        have hlt7 := hE7.lt
        have hE8 := hE7.alloc (.cells zeros32.toArray 72)
        have hO8 : Blk (w7.alloc (.cells zeros32.toArray 72)) w7.heap.size 72 (zeros32) := Blk.new w7 _ _
        have hb9 := hb8.alloc hb8.size (.cells zeros32.toArray 72)
        go_upto_region 15 with fail
        change Code.wp _ _ _ _ (w7.alloc (.cells zeros32.toArray 72))
        have hgo : w.heap.size < w7.heap.size := hlt7
        have hgo8 : w7.heap.size < (w7.alloc (.cells zeros32.toArray 72)).heap.size := by simp
        generalize w7.alloc (.cells zeros32.toArray 72) = w8 at *
        obtain ⟨go, hgoe⟩ : ∃ go, w7.heap.size = go := ⟨_, rfl⟩
        rw [hgoe] at hO8 hgo hgo8 ⊢
        clear hgoe hE7 hlt7 hb8
        go_upto_region 16 with (first
          | (refine wpList_load_seg (off := 0) (n := 8) (by rfl) 66 (.tmp 57) (by rfl) (by rfl) hE8 _ Tryd.underlying66 rfl (by kernel_rfl) HF9.out ?_; rw [hc_state]))
        go_loopw [7, 8, 59] (fun _ _ i wr => ∃ k : Nat, k ≤ 8 ∧ i = .int .i64 k ∧ Blk wr go 72 (outC v2 k) ∧ Below w.heap.size w wr) (fun _ _ i _ => 8 - (intOf i).toNat)
        case atStart => exact ⟨0, by omega, rfl, hO8, hb9⟩
        case round =>
          rename World => wr9
          obtain ⟨k, hk9, rfl, hO, hb⟩ := hrel
          by_cases hlt9 : k < 8
          · obtain ⟨x, hx, hst⟩ := outC_step v2 k hlt9
            have HST := Lib.hid hst
            clear hst
            have hidx := index8 v2 k hlt9 wr9
            rw [List.getD_eq_getElem?_getD, hx, Option.getD_some] at hidx
            obtain ⟨q0, hq0⟩ : ∃ q0, q0 = 4 * k := ⟨_, rfl⟩
            obtain ⟨q1, hq1⟩ : ∃ q1, q1 = q0 + 1 := ⟨_, rfl⟩
            obtain ⟨q2, hq2⟩ : ∃ q2, q2 = q0 + 2 := ⟨_, rfl⟩
            obtain ⟨q3, hq3⟩ : ∃ q3, q3 = q0 + 3 := ⟨_, rfl⟩
            have i0 : (4 : Int) * (k : Int) = (q0 : Int) := by omega
            have i1 : (q0 : Int) + 1 = (q1 : Int) := by omega
            have i2 : (q0 : Int) + 2 = (q2 : Int) := by omega
            have i3 : (q0 : Int) + 3 = (q3 : Int) := by omega
            have z0a : (0 : Int) ≤ (q0 : Int) := by omega
            have z0b : (q0 : Int) < 32 := by omega
            have z1a : (0 : Int) ≤ (q1 : Int) := by omega
            have z1b : (q1 : Int) < 32 := by omega
            have z2a : (0 : Int) ≤ (q2 : Int) := by omega
            have z2b : (q2 : Int) < 32 := by omega
            have z3a : (0 : Int) ≤ (q3 : Int) := by omega
            have z3b : (q3 : Int) < 32 := by omega
            have HQ0 := Lib.hid hq0
            have HQ1 : Hid (q1 = 4 * k + 1) := Lib.hid (by omega)
            have HQ2 : Hid (q2 = 4 * k + 2) := Lib.hid (by omega)
            have HQ3 : Hid (q3 = 4 * k + 3) := Lib.hid (by omega)
            have q0l : q0 < 32 := by omega
            have q1l : q1 < 32 := by omega
            have q2l : q2 < 32 := by omega
            have q3l : q3 < 32 := by omega
            clear hq0 hq1 hq2 hq3
            have f0 := hO.frozen q0
            go_upto_region 18 with fail
            clear hidx
            have hol := outC_length v2 k (by omega)
            obtain ⟨b0, hb0'⟩ : ∃ b : BitVec 8, b = (x >>> 24).setWidth 8 := ⟨_, rfl⟩
            have HV0 : Hid ((x.toNat : Int) / 16777216 % 256 = (b0.toNat : Int)) := Lib.hid (by rw [hb0']; exact byte_0 x)
            obtain ⟨b1, hb1'⟩ : ∃ b : BitVec 8, b = (x >>> 16).setWidth 8 := ⟨_, rfl⟩
            have HV1 : Hid ((x.toNat : Int) / 65536 % 256 = (b1.toNat : Int)) := Lib.hid (by rw [hb1']; exact byte_1 x)
            obtain ⟨b2, hb2'⟩ : ∃ b : BitVec 8, b = (x >>> 8).setWidth 8 := ⟨_, rfl⟩
            have HV2 : Hid ((x.toNat : Int) / 256 % 256 = (b2.toNat : Int)) := Lib.hid (by rw [hb2']; exact byte_2 x)
            obtain ⟨b3, hb3'⟩ : ∃ b : BitVec 8, b = (x).setWidth 8 := ⟨_, rfl⟩
            have HV3 : Hid ((x.toNat : Int) % 256 = (b3.toNat : Int)) := Lib.hid (by rw [hb3']; exact byte_3 x)
            rw [← hb0', ← hb1', ← hb2', ← hb3'] at HST
            clear hb0' hb1' hb2' hb3'
            obtain ⟨u0, cu0⟩ : ∃ u, (wr9).cell? ⟨go, q0, none⟩ = some u := ⟨_, (hO.cell q0).trans (List.getElem?_eq_getElem (by simp only [hol]; omega))⟩
            have fr0 := hO.frozen q0
            have hO0 := hO.set q0 (.int .u8 ((x.toNat : Int) / 16777216 % 256))
            obtain ⟨u1, cu1⟩ : ∃ u, ((wr9).setCell ⟨go, q0, none⟩ (.int .u8 ((x.toNat : Int) / 16777216 % 256))).cell? ⟨go, q1, none⟩ = some u := ⟨_, (hO0.cell q1).trans (List.getElem?_eq_getElem (by simp only [List.length_set, hol]; omega))⟩
            have fr1 := hO0.frozen q1
            have hO1 := hO0.set q1 (.int .u8 ((x.toNat : Int) / 65536 % 256))
            obtain ⟨u2, cu2⟩ : ∃ u, (((wr9).setCell ⟨go, q0, none⟩ (.int .u8 ((x.toNat : Int) / 16777216 % 256))).setCell ⟨go, q1, none⟩ (.int .u8 ((x.toNat : Int) / 65536 % 256))).cell? ⟨go, q2, none⟩ = some u := ⟨_, (hO1.cell q2).trans (List.getElem?_eq_getElem (by simp only [List.length_set, hol]; omega))⟩
            have fr2 := hO1.frozen q2
            have hO2 := hO1.set q2 (.int .u8 ((x.toNat : Int) / 256 % 256))
            obtain ⟨u3, cu3⟩ : ∃ u, ((((wr9).setCell ⟨go, q0, none⟩ (.int .u8 ((x.toNat : Int) / 16777216 % 256))).setCell ⟨go, q1, none⟩ (.int .u8 ((x.toNat : Int) / 65536 % 256))).setCell ⟨go, q2, none⟩ (.int .u8 ((x.toNat : Int) / 256 % 256))).cell? ⟨go, q3, none⟩ = some u := ⟨_, (hO2.cell q3).trans (List.getElem?_eq_getElem (by simp only [List.length_set, hol]; omega))⟩
            have fr3 := hO2.frozen q3
            have hO3 := hO2.set q3 (.int .u8 ((x.toNat : Int) % 256))
            have HO3 := Lib.hid hO3
            have HBB := Lib.hid ((((hb.setCell (p := ⟨go, q0, none⟩) (Nat.le_of_lt hgo) (.int .u8 ((x.toNat : Int) / 16777216 % 256))).setCell (p := ⟨go, q1, none⟩) (Nat.le_of_lt hgo) (.int .u8 ((x.toNat : Int) / 65536 % 256))).setCell (p := ⟨go, q2, none⟩) (Nat.le_of_lt hgo) (.int .u8 ((x.toNat : Int) / 256 % 256))).setCell (p := ⟨go, q3, none⟩) (Nat.le_of_lt hgo) (.int .u8 ((x.toNat : Int) % 256)))
            clear hO0 hO1 hO2 hO3 hO hb f0 hx hol
            generalize (x.toNat : Int) = X at *
            go_wp2
            go_roundw
            case rel => exact ⟨k + 1, by omega, by go_num, by rw [← HST.out, ← HQ3.out, ← HQ2.out, ← HQ1.out, ← HQ0.out, ← HV0.out, ← HV1.out, ← HV2.out, ← HV3.out]; exact HO3.out, HBB.out⟩
            case measure => simp [intOf]; omega
          · obtain rfl : k = 8 := by omega
            have hO8' : Blk wr9 go 72 (u8s (USha.out v2)) := hO
            have hcv := conv_blk32 hO8' rfl
            have HS3 := Lib.hid (congrArg strOf HS2.out)
            generalize strOf (USha.out v2) = res at *
            clear hO8' hO
            rw [show (((8 : Nat) : Int)) = (8 : Int) from rfl]
            go_wp2
            go_ret
            exact ⟨by rw [HS3.out]; rfl, hb⟩
  · skip
    have hone1 : (64 : Int) < (held : Int) + 9 := by omega
    have HS0 : Hid (USha.sha L = USha.out (USha.compress (USha.compress v (USha.word (byteFn (USha.pad1 rest held)))) (USha.word (USha.bAt (USha.lenTo (List.replicate 64 0#8) L.length 8))))) := Lib.hid (USha.sha_two HH.out (by omega))
    have HT3 := Lib.hid (HT.out.below HB3.out)
    have HF8a := Lib.hid (show 0 + 8 ≤ (hc v (USha.pad1 rest held) (held : Nat) (L.length : Int)).length by rw [hc_length _ _ _ _ hpl]; omega)
    have HF64a := Lib.hid (show 8 + 64 ≤ (hc v (USha.pad1 rest held) (held : Nat) (L.length : Int)).length by rw [hc_length _ _ _ _ hpl]; omega)
    have HR3a := Lib.hid (hc_rest v (USha.pad1 rest held) (held : Nat) (L.length : Int) hpl)
    have hE3 := HE3.out
    have hG3 := HG3.out
    have hb3 := HB3.out
    have hlt3 := hE3.lt
    have hltg := hG3.lt
    generalize USha.pad1 rest held = p1 at *
    clear HE3 HG3 HB3
    go_upto_region 6 with (first
      | (refine wpList_load_seg (off := 0) (n := 8) (by rfl) 66 (.tmp 25) (by rfl) (by rfl) hE3 _ Tryd.underlying66 rfl (by kernel_rfl) HF8a.out ?_; rw [hc_state])
      | (refine wpList_load_seg (off := 8) (n := 64) (by rfl) 67 (.tmp 27) (by rfl) (by rfl) hE3 _ Tryd.underlying67 rfl (by kernel_rfl) HF64a.out ?_; rw [HR3a.out])
      | (go_at_call 42; (with_reducible refine (take_any v p1 _ hpl HT3.out).mono ?_); rintro e w4 ⟨rfl, hb4⟩; have hE4 := hE3.below hb4 hlt3; have hG4 := hG3.below hb4 hltg; have hb5 := hb3.trans (hb4.mono hb3.size))
      | (refine wpList_store_seg (off := 0) (cs := vl (USha.compress v (USha.word (byteFn p1)))) (by rfl) 66 (.tmp 30) (.tmp 29) (by rfl) (by rfl) (by rfl) hE4 (by rw [vl_length]; kernel_rfl) HF8a.out (vl_one _) ?_; rw [hc_seg_state]; have hE5 := hE4.row (hc (USha.compress v (USha.word (byteFn p1))) p1 (held : Nat) (L.length : Int)); have hG5 := hG4.row_far (k := w.heap.size) (hc (USha.compress v (USha.word (byteFn p1))) p1 (held : Nat) (L.length : Int)).toArray (by omega); have hb6 := below_setRow hb5 (Nat.le_refl w.heap.size) (hc (USha.compress v (USha.word (byteFn p1))) p1 (held : Nat) (L.length : Int)).toArray; generalize w4.setRow w.heap.size (hc (USha.compress v (USha.word (byteFn p1))) p1 (held : Nat) (L.length : Int)).toArray = w5 at *))
    generalize USha.compress v (USha.word (byteFn p1)) = v1 at *
    have HFz := Lib.hid (show 8 + (u8s (List.replicate 64 0#8)).length ≤ (hc v1 p1 (held : Nat) (L.length : Int)).length by rw [hc_length _ _ _ _ hpl, u8s_length]; simp)
    have HZs := Lib.hid (hc_seg_rest v1 p1 (List.replicate 64 0#8) (held : Nat) (L.length : Int) hpl (by simp))
    go_upto_region 7 with (refine wpList_store_seg (off := 8) (cs := u8s (List.replicate 64 0#8)) (by rfl) 67 (.tmp 32) (.tmp 31) (by rfl) (by rfl) (by kernel_rfl) hE5 (by kernel_rfl) HFz.out (u8s_one _) ?_; rw [HZs.out]; have hE6 := hE5.row (hc v1 (List.replicate 64 0#8) (held : Nat) (L.length : Int)); have hG6 := hG5.row_far (k := w.heap.size) (hc v1 (List.replicate 64 0#8) (held : Nat) (L.length : Int)).toArray (by omega); have hb7 := below_setRow hb6 (Nat.le_refl w.heap.size) (hc v1 (List.replicate 64 0#8) (held : Nat) (L.length : Int)).toArray; generalize w5.setRow w.heap.size (hc v1 (List.replicate 64 0#8) (held : Nat) (L.length : Int)).toArray = w6 at *)
    have hRR : (List.replicate 64 0#8).length = 64 := by simp
    have HS := HS0
    generalize List.replicate 64 0#8 = r2 at *
    have HE4 := Lib.hid hE6
    have HG4 := Lib.hid hG6
    have HB4 := Lib.hid hb7
    clear hE3 hG3 hb3 hb4 hE4 hG4 hb5 hE5 hG5 hb6 hE6 hG6 hb7 HFz HZs hpl hlt3 hltg HF8a HF64a HR3a HT3 c72c HS0
    have c73 := HG4.out.cell 73
    rw [hc_count _ _ _ _ hlr] at c73
    obtain ⟨M8, hM8⟩ : ∃ M8, M8 = 8 * L.length := ⟨_, rfl⟩
    have he8 : IntKind.u64.wrap ((L.length : Int) * 8) = (M8 : Int) := by rw [IntKind.wrap_u64]; omega
    have HM8 := Lib.hid hM8
    clear hM8
    go_upto_region 9 with fail
    clear c73 he8
    go_loopw [5, 38] (fun _ i wr => ∃ k : Nat, k ≤ 8 ∧ i = .int .i64 k ∧ Blk wr w.heap.size 70 (hc v1 (USha.lenTo r2 L.length k) (held : Nat) (L.length : Int)) ∧ Below w.heap.size w wr) (fun _ i _ => 8 - (intOf i).toNat)
    case atStart => exact ⟨0, by omega, rfl, HE4.out, HB4.out⟩
    case round =>
      rename World => wr5
      obtain ⟨k, hk8, rfl, hE5, hb5⟩ := hrel
      have hl5 : (USha.lenTo r2 L.length k).length = 64 := by rw [USha.lenTo_length]; exact hRR
      by_cases hlt5 : k < 8
      · obtain ⟨j, hj⟩ : ∃ j, j = 63 - k := ⟨_, rfl⟩
        have hj1 : (63 : Int) - (k : Int) = (j : Int) := by omega
        have hj64 : j < 64 := by omega
        have HJ := Lib.hid hj
        clear hj
        obtain ⟨b, hbv⟩ : ∃ b : BitVec 8, b = ((BitVec.ofNat 64 (8 * L.length)) >>> (8 * k)).setWidth 8 := ⟨_, rfl⟩
        have hbq : (M8 : Int) / 2 ^ (8 * k) % 256 = (b.toNat : Int) := by rw [hbv, ← HM8.out]; exact len_byte2 _ _ (by have := HM8.out; omega)
        have hset := hE5.set (8 + j) (.int .u8 (b.toNat : Int))
        rw [hc_setAt _ _ _ _ hl5 _ hj64, HJ.out, hbv, show (USha.lenTo r2 L.length k).set (63 - k) (((BitVec.ofNat 64 (8 * L.length)) >>> (8 * k)).setWidth 8) = USha.lenTo r2 L.length (k + 1) from rfl, ← hbv, ← HJ.out] at hset
        have HSET := Lib.hid hset
        clear hset hbv
        have j0 : (0 : Int) ≤ (j : Int) := by omega
        have j1 : (j : Int) < 64 := by omega
        have c8 := hE5.cell (8 + j)
        rw [hc_get _ _ _ _ hl5 _ hj64] at c8
        have f8 := hE5.frozen (8 + j)
        go_wp2
        go_roundw
        case rel => exact ⟨k + 1, by omega, by go_num, HSET.out, hb5.setCell (Nat.le_refl _) _⟩
        case measure => simp [intOf]; omega
      · obtain rfl : k = 8 := by omega
        generalize USha.lenTo r2 L.length 8 = r3 at *
        have HT5 := Lib.hid (HT.out.below hb5)
        have HF8 := Lib.hid (show 0 + 8 ≤ (hc v1 r3 (held : Nat) (L.length : Int)).length by rw [hc_length _ _ _ _ hl5]; omega)
        have HF64 := Lib.hid (show 8 + 64 ≤ (hc v1 r3 (held : Nat) (L.length : Int)).length by rw [hc_length _ _ _ _ hl5]; omega)
        have HR3 := Lib.hid (hc_rest v1 r3 (held : Nat) (L.length : Int) hl5)
        have hlt5 := hE5.lt
        go_upto_region 14 with (first
          | (refine wpList_load_seg (off := 0) (n := 8) (by rfl) 66 (.tmp 51) (by rfl) (by rfl) hE5 _ Tryd.underlying66 rfl (by kernel_rfl) HF8.out ?_; rw [hc_state])
          | (refine wpList_load_seg (off := 8) (n := 64) (by rfl) 67 (.tmp 53) (by rfl) (by rfl) hE5 _ Tryd.underlying67 rfl (by kernel_rfl) HF64.out ?_; rw [HR3.out])
          | (go_at_call 42; (with_reducible refine (take_any v1 r3 _ hl5 HT5.out).mono ?_); rintro e w6 ⟨rfl, hb6⟩; have hE6 := hE5.below hb6 hlt5; have hb7 := hb5.trans (hb6.mono hb5.size))
          | (refine wpList_store_seg (off := 0) (cs := vl (USha.compress v1 (USha.word (byteFn r3)))) (by rfl) 66 (.tmp 56) (.tmp 55) (by rfl) (by rfl) (by rfl) hE6 (by rw [vl_length]; kernel_rfl) HF8.out (vl_one _) ?_; rw [hc_seg_state]; have hE7 := hE6.row (hc (USha.compress v1 (USha.word (byteFn r3))) r3 (held : Nat) (L.length : Int)); have hb8 := below_setRow hb7 (Nat.le_refl w.heap.size) (hc (USha.compress v1 (USha.word (byteFn r3))) r3 (held : Nat) (L.length : Int)).toArray; generalize w6.setRow w.heap.size (hc (USha.compress v1 (USha.word (byteFn r3))) r3 (held : Nat) (L.length : Int)).toArray = w7 at *))
        have HS2 : Hid (USha.sha L = USha.out (USha.compress v1 (USha.word (byteFn r3)))) := HS
        generalize USha.compress v1 (USha.word (byteFn r3)) = v2 at *
        have HF9 := Lib.hid (show 0 + 8 ≤ (hc v2 r3 (held : Nat) (L.length : Int)).length by rw [hc_length _ _ _ _ hl5]; omega)
        have hlt7 := hE7.lt
        have hE8 := hE7.alloc (.cells zeros32.toArray 72)
        have hO8 : Blk (w7.alloc (.cells zeros32.toArray 72)) w7.heap.size 72 (zeros32) := Blk.new w7 _ _
        have hb9 := hb8.alloc hb8.size (.cells zeros32.toArray 72)
        go_upto_region 15 with fail
        change Code.wp _ _ _ _ (w7.alloc (.cells zeros32.toArray 72))
        have hgo : w.heap.size < w7.heap.size := hlt7
        have hgo8 : w7.heap.size < (w7.alloc (.cells zeros32.toArray 72)).heap.size := by simp
        generalize w7.alloc (.cells zeros32.toArray 72) = w8 at *
        obtain ⟨go, hgoe⟩ : ∃ go, w7.heap.size = go := ⟨_, rfl⟩
        rw [hgoe] at hO8 hgo hgo8 ⊢
        clear hgoe hE7 hlt7 hb8
        go_upto_region 16 with (first
          | (refine wpList_load_seg (off := 0) (n := 8) (by rfl) 66 (.tmp 57) (by rfl) (by rfl) hE8 _ Tryd.underlying66 rfl (by kernel_rfl) HF9.out ?_; rw [hc_state]))
        go_loopw [7, 8, 59] (fun _ _ i wr => ∃ k : Nat, k ≤ 8 ∧ i = .int .i64 k ∧ Blk wr go 72 (outC v2 k) ∧ Below w.heap.size w wr) (fun _ _ i _ => 8 - (intOf i).toNat)
        case atStart => exact ⟨0, by omega, rfl, hO8, hb9⟩
        case round =>
          rename World => wr9
          obtain ⟨k, hk9, rfl, hO, hb⟩ := hrel
          by_cases hlt9 : k < 8
          · obtain ⟨x, hx, hst⟩ := outC_step v2 k hlt9
            have HST := Lib.hid hst
            clear hst
            have hidx := index8 v2 k hlt9 wr9
            rw [List.getD_eq_getElem?_getD, hx, Option.getD_some] at hidx
            obtain ⟨q0, hq0⟩ : ∃ q0, q0 = 4 * k := ⟨_, rfl⟩
            obtain ⟨q1, hq1⟩ : ∃ q1, q1 = q0 + 1 := ⟨_, rfl⟩
            obtain ⟨q2, hq2⟩ : ∃ q2, q2 = q0 + 2 := ⟨_, rfl⟩
            obtain ⟨q3, hq3⟩ : ∃ q3, q3 = q0 + 3 := ⟨_, rfl⟩
            have i0 : (4 : Int) * (k : Int) = (q0 : Int) := by omega
            have i1 : (q0 : Int) + 1 = (q1 : Int) := by omega
            have i2 : (q0 : Int) + 2 = (q2 : Int) := by omega
            have i3 : (q0 : Int) + 3 = (q3 : Int) := by omega
            have z0a : (0 : Int) ≤ (q0 : Int) := by omega
            have z0b : (q0 : Int) < 32 := by omega
            have z1a : (0 : Int) ≤ (q1 : Int) := by omega
            have z1b : (q1 : Int) < 32 := by omega
            have z2a : (0 : Int) ≤ (q2 : Int) := by omega
            have z2b : (q2 : Int) < 32 := by omega
            have z3a : (0 : Int) ≤ (q3 : Int) := by omega
            have z3b : (q3 : Int) < 32 := by omega
            have HQ0 := Lib.hid hq0
            have HQ1 : Hid (q1 = 4 * k + 1) := Lib.hid (by omega)
            have HQ2 : Hid (q2 = 4 * k + 2) := Lib.hid (by omega)
            have HQ3 : Hid (q3 = 4 * k + 3) := Lib.hid (by omega)
            have q0l : q0 < 32 := by omega
            have q1l : q1 < 32 := by omega
            have q2l : q2 < 32 := by omega
            have q3l : q3 < 32 := by omega
            clear hq0 hq1 hq2 hq3
            have f0 := hO.frozen q0
            go_upto_region 18 with fail
            clear hidx
            have hol := outC_length v2 k (by omega)
            obtain ⟨b0, hb0'⟩ : ∃ b : BitVec 8, b = (x >>> 24).setWidth 8 := ⟨_, rfl⟩
            have HV0 : Hid ((x.toNat : Int) / 16777216 % 256 = (b0.toNat : Int)) := Lib.hid (by rw [hb0']; exact byte_0 x)
            obtain ⟨b1, hb1'⟩ : ∃ b : BitVec 8, b = (x >>> 16).setWidth 8 := ⟨_, rfl⟩
            have HV1 : Hid ((x.toNat : Int) / 65536 % 256 = (b1.toNat : Int)) := Lib.hid (by rw [hb1']; exact byte_1 x)
            obtain ⟨b2, hb2'⟩ : ∃ b : BitVec 8, b = (x >>> 8).setWidth 8 := ⟨_, rfl⟩
            have HV2 : Hid ((x.toNat : Int) / 256 % 256 = (b2.toNat : Int)) := Lib.hid (by rw [hb2']; exact byte_2 x)
            obtain ⟨b3, hb3'⟩ : ∃ b : BitVec 8, b = (x).setWidth 8 := ⟨_, rfl⟩
            have HV3 : Hid ((x.toNat : Int) % 256 = (b3.toNat : Int)) := Lib.hid (by rw [hb3']; exact byte_3 x)
            rw [← hb0', ← hb1', ← hb2', ← hb3'] at HST
            clear hb0' hb1' hb2' hb3'
            obtain ⟨u0, cu0⟩ : ∃ u, (wr9).cell? ⟨go, q0, none⟩ = some u := ⟨_, (hO.cell q0).trans (List.getElem?_eq_getElem (by simp only [hol]; omega))⟩
            have fr0 := hO.frozen q0
            have hO0 := hO.set q0 (.int .u8 ((x.toNat : Int) / 16777216 % 256))
            obtain ⟨u1, cu1⟩ : ∃ u, ((wr9).setCell ⟨go, q0, none⟩ (.int .u8 ((x.toNat : Int) / 16777216 % 256))).cell? ⟨go, q1, none⟩ = some u := ⟨_, (hO0.cell q1).trans (List.getElem?_eq_getElem (by simp only [List.length_set, hol]; omega))⟩
            have fr1 := hO0.frozen q1
            have hO1 := hO0.set q1 (.int .u8 ((x.toNat : Int) / 65536 % 256))
            obtain ⟨u2, cu2⟩ : ∃ u, (((wr9).setCell ⟨go, q0, none⟩ (.int .u8 ((x.toNat : Int) / 16777216 % 256))).setCell ⟨go, q1, none⟩ (.int .u8 ((x.toNat : Int) / 65536 % 256))).cell? ⟨go, q2, none⟩ = some u := ⟨_, (hO1.cell q2).trans (List.getElem?_eq_getElem (by simp only [List.length_set, hol]; omega))⟩
            have fr2 := hO1.frozen q2
            have hO2 := hO1.set q2 (.int .u8 ((x.toNat : Int) / 256 % 256))
            obtain ⟨u3, cu3⟩ : ∃ u, ((((wr9).setCell ⟨go, q0, none⟩ (.int .u8 ((x.toNat : Int) / 16777216 % 256))).setCell ⟨go, q1, none⟩ (.int .u8 ((x.toNat : Int) / 65536 % 256))).setCell ⟨go, q2, none⟩ (.int .u8 ((x.toNat : Int) / 256 % 256))).cell? ⟨go, q3, none⟩ = some u := ⟨_, (hO2.cell q3).trans (List.getElem?_eq_getElem (by simp only [List.length_set, hol]; omega))⟩
            have fr3 := hO2.frozen q3
            have hO3 := hO2.set q3 (.int .u8 ((x.toNat : Int) % 256))
            have HO3 := Lib.hid hO3
            have HBB := Lib.hid ((((hb.setCell (p := ⟨go, q0, none⟩) (Nat.le_of_lt hgo) (.int .u8 ((x.toNat : Int) / 16777216 % 256))).setCell (p := ⟨go, q1, none⟩) (Nat.le_of_lt hgo) (.int .u8 ((x.toNat : Int) / 65536 % 256))).setCell (p := ⟨go, q2, none⟩) (Nat.le_of_lt hgo) (.int .u8 ((x.toNat : Int) / 256 % 256))).setCell (p := ⟨go, q3, none⟩) (Nat.le_of_lt hgo) (.int .u8 ((x.toNat : Int) % 256)))
            clear hO0 hO1 hO2 hO3 hO hb f0 hx hol
            generalize (x.toNat : Int) = X at *
            go_wp2
            go_roundw
            case rel => exact ⟨k + 1, by omega, by go_num, by rw [← HST.out, ← HQ3.out, ← HQ2.out, ← HQ1.out, ← HQ0.out, ← HV0.out, ← HV1.out, ← HV2.out, ← HV3.out]; exact HO3.out, HBB.out⟩
            case measure => simp [intOf]; omega
          · obtain rfl : k = 8 := by omega
            have hO8' : Blk wr9 go 72 (u8s (USha.out v2)) := hO
            have hcv := conv_blk32 hO8' rfl
            have HS3 := Lib.hid (congrArg strOf HS2.out)
            generalize strOf (USha.out v2) = res at *
            clear hO8' hO
            rw [show (((8 : Nat) : Int)) = (8 : Int) from rfl]
            go_wp2
            go_ret
            exact ⟨by rw [HS3.out]; rfl, hb⟩
end Go.Proofs.YtmkifaddfnodhaaDoor
