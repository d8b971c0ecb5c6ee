/- Stretch, walked. -/
import Derived.Test.YtmkifaddfnodhaaDoorStretchPure
import Derived.Test.YtmkifaddfnodhaaDoorErrs
import Derived.Deep.Cut
import Derived.StillTailTactics
namespace Go.Proofs.YtmkifaddfnodhaaDoor
open Go.RowKit
/-- the variable of the refusal holds this value -/
def ErrArg (w : World) (t : TypeId) (a : Addr) : Prop := w.cell? ⟨2, 0, none⟩ = some (.iface t (.pointer (some a)))
theorem ErrArg.below {w w' : World} {t : TypeId} {a : Addr} (h : ErrArg w t a) (hb : Below w.heap.size w w') : ErrArg w' t a := cell_below h hb
set_option maxHeartbeats 1000000 in
theorem stretch_no (p s : ByteArray) (r : Int) (w : World) (t : TypeId) (a : Addr) (hE : ErrArg w t a) (hr : r < 1 ∨ 1000 < r) :
    Calls Tryd.prog 38 #[.string p, .string s, .int .i64 r] w fun e w' => e = .returned (.tuple #[.string { data := #[] }, .iface t (.pointer (some a))]) ∧ Below w.heap.size w w' := by
  have hc := hE
  have hb := Below.refl w.heap.size w
  unfold ErrArg at hc
  clear hE
  rcases hr with hr | hr
  · go_enter Tryd.func38, Tryd.ntmps38
    go_wp2
    refine wp_region_still_lit (by kernel_rfl) (by kernel_rfl) ?_
    repeat still_step
    refine wpStill_nil ?_
    change Exit.then _ _ _ _ w.drew
    have hbq := hb.drew
    generalize w.drew = wq at *
    clear hc
    go_wp2
    go_ret2
    exact ⟨rfl, hbq⟩
  · have hr2 : ¬ r < 1 := by omega
    have hd : decide (r < 1) = false := decide_eq_false hr2
    go_enter Tryd.func38, Tryd.ntmps38
    go_wp2
    refine wp_region_still_lit (by kernel_rfl) (by kernel_rfl) ?_
    repeat still_step
    refine wpStill_nil ?_
    change Exit.then _ _ _ _ w.drew
    have hbq := hb.drew
    generalize w.drew = wq at *
    clear hc
    go_wp2
    go_ret2
    exact ⟨rfl, hbq⟩
set_option maxHeartbeats 4000000 in
set_option maxRecDepth 100000 in
theorem stretch_yes (p s : ByteArray) (n : Nat) (w : World) (hp : p.size ≤ 281474976710656) (hs : s.size ≤ 140737488355328) (hn : n < 1000) (ht : PTabs w) :
    Calls Tryd.prog 38 #[.string p, .string s, .int .i64 ((n : Int) + 1)] w fun e w' => e = .returned (.tuple #[.string (strOf (USha.stT (bytesOf p) (bytesOf s) n)), .nilIface]) ∧ Below w.heap.size w w' := by
  have HK := Lib.hid (keyedAt p w hp ht)
  clear ht
  obtain ⟨m, hm⟩ : ∃ m : Int, m = (n : Int) + 1 := ⟨_, rfl⟩
  rw [← hm]
  have m1 : ¬ m < 1 := by omega
  have m2 : ¬ 1000 < m := by omega
  have d1 : decide (m < 1) = false := decide_eq_false m1
  have d2 : decide (1000 < m) = false := decide_eq_false m2
  have hmn : m - 1 = (n : Int) := by omega
  have hsz : s.size + 4 ≤ 281474976710656 := by omega
  clear hm
  go_enter Tryd.func38, Tryd.ntmps38
  go_upto_region 4 with (first
    | (go_at_call 49; (with_reducible refine HK.out.mono ?_); rintro e w1 ⟨CA, CB, rfl, hla, hlb, hoa, hob, HSG, hb1⟩; have hZ := zHash_two w1; have hb2 : Below w.heap.size w ((w1.alloc (.cells Tryd.zeroCells70 70)).alloc (.cells Tryd.zeroCells70 70)) := (hb1.alloc hb1.size _).alloc (by have := hb1.size; simp; omega) _; have HCLA := Lib.hid hla; have HCLB := Lib.hid hlb; have HOA := Lib.hid hoa; have HOB := Lib.hid hob; clear hla hlb hoa hob HK; have HIA : Hid ((Tryd.prog.info? 70).map (·.size) = some CA.length) := Lib.hid (by rw [HCLA.out]; kernel_rfl); have HIB : Hid ((Tryd.prog.info? 70).map (·.size) = some CB.length) := Lib.hid (by rw [HCLB.out]; kernel_rfl); have HLZA : Hid (0 + CA.length ≤ zHash.length) := Lib.hid (by rw [HCLA.out, zHash_length]; omega); have HLZB : Hid (0 + CB.length ≤ zHash.length) := Lib.hid (by rw [HCLB.out, zHash_length]; omega); have HSA : Hid (seg zHash 0 CA = CA) := Lib.hid (seg_all _ _ (by rw [zHash_length, HCLA.out])); have HSB : Hid (seg zHash 0 CB = CB) := Lib.hid (seg_all _ _ (by rw [zHash_length, HCLB.out])); have hle := hb1.size; obtain ⟨hZ5, hZ6⟩ := hZ)
    | (refine wpList_store_seg (off := 0) (cs := CA) (by rfl) 70 (.tmp 8) (.tmp 23) (by rfl) (by rfl) (by rfl) hZ5 HIA.out HLZA.out HOA.out ?_; rw [HSA.out]; have hA5 := hZ5.row CA; have hZ6' := hZ6.row_far (k := w1.heap.size) CA.toArray (by omega); have hb3 := below_setRow hb2 hle CA.toArray; generalize ((w1.alloc (.cells Tryd.zeroCells70 70)).alloc (.cells Tryd.zeroCells70 70)).setRow w1.heap.size CA.toArray = w3 at *)
    | (refine wpList_store_seg (off := 0) (cs := CB) (by rfl) 70 (.tmp 9) (.tmp 24) (by rfl) (by rfl) (by rfl) hZ6' HIB.out HLZB.out HOB.out ?_; rw [HSB.out]; have hB6 := hZ6'.row CB; have hA6 := hA5.row_far (k := w1.heap.size + 1) CB.toArray (by omega); have hb4 := below_setRow hb3 (show w.heap.size ≤ w1.heap.size + 1 by omega) CB.toArray; generalize w3.setRow (w1.heap.size + 1) CB.toArray = w4 at *))
  clear d1 d2 m1 m2 hb1 hb2 hb3 hZ5 hZ6 hZ6' hA5 HIA HIB HLZA HLZB HSA HSB HOA HOB
  obtain ⟨ga, hga⟩ : ∃ g, g = w1.heap.size := ⟨_, rfl⟩
  obtain ⟨gb, hgb⟩ : ∃ g, g = w1.heap.size + 1 := ⟨_, rfl⟩
  rw [← hga] at hA6
  rw [← hgb] at hB6
  rw [← hgb, ← hga]
  clear hga hgb
  have HLA : Hid (0 + 74 ≤ CA.length) := Lib.hid (by rw [HCLA.out]; omega)
  have HLB : Hid (0 + 74 ≤ CB.length) := Lib.hid (by rw [HCLB.out]; omega)
  have HAA : Hid ((CA.drop 0).take 74 = CA) := Lib.hid (by rw [List.drop_zero]; exact List.take_of_length_le (by rw [HCLA.out]; omega))
  have HAB : Hid ((CB.drop 0).take 74 = CB) := Lib.hid (by rw [List.drop_zero]; exact List.take_of_length_le (by rw [HCLB.out]; omega))
  have HS0 := Lib.hid (HSG.out.go w4 (s ++ { data := #[0, 0, 0, 1] }) hb4 (by rw [ByteArray.size_append]; show s.size + 4 ≤ _; omega))
  have HU0 : Hid (USha.hmac (bytesOf p) (bytesOf (s ++ { data := #[0, 0, 0, 1] })) = USha.stU (bytesOf p) (bytesOf s) 0) := Lib.hid (by rw [bytesOf_append]; rfl)
  rw [HU0.out] at HS0
  have lA := hA6.lt
  have lB := hB6.lt
  go_upto_region 5 with (first
    | (refine wpList_load_seg (off := 0) (n := 74) (by rfl) 70 (.tmp 8) (by rfl) (by rfl) hA6 _ Tryd.underlying70 rfl (by kernel_rfl) HLA.out ?_; rw [HAA.out])
    | (refine wpList_load_seg (off := 0) (n := 74) (by rfl) 70 (.tmp 9) (by rfl) (by rfl) hB6 _ Tryd.underlying70 rfl (by kernel_rfl) HLB.out ?_; rw [HAB.out])
    | (go_at_call 50; (with_reducible refine HS0.out.mono ?_); rintro e w5 ⟨rfl, hb5⟩))
  have hA7 := hA6.below hb5 lA
  have hB7 := hB6.below hb5 lB
  have hb6 := hb4.trans (hb5.mono hb4.size)
  have lA5 := hA7.lt
  have lB5 := hB7.lt
  obtain ⟨u0, hu0⟩ : ∃ u, u = strOf (USha.stU (bytesOf p) (bytesOf s) 0) := ⟨_, rfl⟩
  have HUB : Hid (bytesOf u0 = USha.stU (bytesOf p) (bytesOf s) 0) := Lib.hid (by rw [hu0, bytesOf_strOf])
  have hu32 : u0.size = 32 := by rw [hu0, strOf_size, USha.stU_len]
  rw [← hu0]
  clear hu0 HS0 HU0 hA6 hB6 hb4 hb5 lA lB
  have hO0 : Blk (w5.alloc (.cells zeros32.toArray 72)) w5.heap.size 72 zeros32 := Blk.new w5 _ _
  have hA8 := hA7.alloc (.cells zeros32.toArray 72)
  have hB8 := hB7.alloc (.cells zeros32.toArray 72)
  have hb8 := hb6.alloc hb6.size (.cells zeros32.toArray 72)
  go_upto_region 6 with fail
  change Code.wp _ _ _ _ (w5.alloc (.cells zeros32.toArray 72))
  generalize w5.alloc (.cells zeros32.toArray 72) = w6 at *
  obtain ⟨gs, hgs⟩ : ∃ g, g = w5.heap.size := ⟨_, rfl⟩
  rw [← hgs] at hO0 lA5 lB5
  rw [← hgs]
  have hws : w.heap.size ≤ gs := by have := hb6.size; omega
  clear hgs hA7 hB7 hb6
  have hmin : min u0.size 32 = 32 := by omega
  have HFIT : Hid (0 + min u0.size 32 ≤ zeros32.length) := Lib.hid (by rw [hmin]; decide)
  have HTK : Hid (seg zeros32 0 (u8s ((bytesOf u0).take (min u0.size 32))) = u8s (USha.stT (bytesOf p) (bytesOf s) 0)) := Lib.hid (by
    rw [hmin, HUB.out, List.take_of_length_le (by rw [USha.stU_len]; omega)]
    exact seg_all _ _ (by rw [u8s_length, USha.stU_len]; rfl))
  clear hmin
  go_upto_region 7 with (refine wpList_copy_str (by rfl) (.tmp 30) (.tmp 31) 53 9 (by rfl) 5 Tryd.underlying53 (by kernel_rfl) (off := 0) (dLen := 32) (dCap := 32) (s := u0) (by rfl) (by rfl) hO0 HFIT.out ?_; intro w7 hO1 ha1)
  have hO2 := hO1.out
  rw [HTK.out] at hO2
  have hA9 := ha1.blk hA8 (by omega)
  have hB9 := ha1.blk hB8 (by omega)
  have hb9 := hb8.trans (ha1.below hb8.size hws)
  clear hO0 hO1 hA8 hB8 hb8 ha1 HFIT HTK
  clear HCLA HCLB
  go_wp2
  go_loopw [10, 12, 35, 41] (fun u _ i _ wr => ∃ (k : Nat) (uS : ByteArray), k ≤ n ∧ i = .int .i64 k ∧ u = .string uS ∧ Hid (bytesOf uS = USha.stU (bytesOf p) (bytesOf s) k) ∧ Blk wr gs 72 (u8s (USha.stT (bytesOf p) (bytesOf s) k)) ∧ Blk wr ga 70 CA ∧ Blk wr gb 70 CB ∧ Below w.heap.size w wr) (fun _ _ i _ _ => n - (intOf i).toNat)
  case atStart => exact ⟨0, u0, Nat.zero_le _, rfl, rfl, HUB, hO2, hA9, hB9, hb9⟩
  case round =>
    rename World => wr
    clear hO2 hA9 hB9 hb9 HUB hu32
    obtain ⟨k, uS, hk, rfl, rfl, HU, hO, hA, hB, hb⟩ := hrel
    by_cases hlt : k < n
    · have h32 : uS.size = 32 := by rw [← bytesOf_length, HU.out, USha.stU_len]
      have HS := HSG.out.go wr uS hb (by omega)
      rw [HU.out, show USha.hmac (bytesOf p) (USha.stU (bytesOf p) (bytesOf s) k) = USha.stU (bytesOf p) (bytesOf s) (k + 1) from rfl] at HS
      obtain ⟨u1, hu1⟩ : ∃ u, u = strOf (USha.stU (bytesOf p) (bytesOf s) (k + 1)) := ⟨_, rfl⟩
      have HU1 : Hid (bytesOf u1 = USha.stU (bytesOf p) (bytesOf s) (k + 1)) := Lib.hid (by rw [hu1, bytesOf_strOf])
      have hu32 : u1.size = 32 := by rw [hu1, strOf_size, USha.stU_len]
      rw [← hu1] at HS
      have HS' := Lib.hid HS
      have lO := hO.lt
      have lA := hA.lt
      have lB := hB.lt
      have HT1 : Hid (USha.xorL (USha.stT (bytesOf p) (bytesOf s) k) (USha.stU (bytesOf p) (bytesOf s) (k + 1)) = USha.stT (bytesOf p) (bytesOf s) (k + 1)) := Lib.hid rfl
      have hlT := USha.stT_len (bytesOf p) (bytesOf s) k
      have hlU := USha.stU_len (bytesOf p) (bytesOf s) (k + 1)
      have HLT := Lib.hid hlT
      have HLU := Lib.hid hlU
      clear HS hu1 h32 hlT hlU HU
      go_upto_region 10 with (first
        | (refine wpList_load_seg (off := 0) (n := 74) (by rfl) 70 (.tmp 8) (by rfl) (by rfl) hA _ Tryd.underlying70 rfl (by kernel_rfl) HLA.out ?_; rw [HAA.out])
        | (refine wpList_load_seg (off := 0) (n := 74) (by rfl) 70 (.tmp 9) (by rfl) (by rfl) hB _ Tryd.underlying70 rfl (by kernel_rfl) HLB.out ?_; rw [HAB.out])
        | (go_at_call 50; (with_reducible refine HS'.out.mono ?_); rintro e w8 ⟨rfl, hb8⟩))
      have hO1 := hO.below hb8 lO
      have hA1 := hA.below hb8 lA
      have hB1 := hB.below hb8 lB
      have hb1 := hb.trans (hb8.mono hb.size)
      rw [← USha.xmix_zero (USha.stT (bytesOf p) (bytesOf s) k) (USha.stU (bytesOf p) (bytesOf s) (k + 1))] at hO1
      clear hO hA hB hb hb8 lO lA lB HS'
      generalize USha.stT (bytesOf p) (bytesOf s) k = T at *
      go_wp2
      go_loopw [12, 41] (fun _ j wr2 => ∃ j' : Nat, j' ≤ 32 ∧ j = .int .i64 j' ∧ Blk wr2 gs 72 (u8s (USha.xmix T (USha.stU (bytesOf p) (bytesOf s) (k + 1)) j')) ∧ Blk wr2 ga 70 CA ∧ Blk wr2 gb 70 CB ∧ Below w.heap.size w wr2) (fun _ j _ => 32 - (intOf j).toNat)
      case atStart => exact ⟨0, Nat.zero_le _, rfl, hO1, hA1, hB1, hb1⟩
      case round =>
        rename World => wr2
        clear hO1 hA1 hB1 hb1
        obtain ⟨j, hj, rfl, hO, hA, hB, hb⟩ := hrel
        by_cases hjl : j < 32
        · have hTU : T.length = (USha.stU (bytesOf p) (bytesOf s) (k + 1)).length := by rw [HLT.out, HLU.out]
          have hjT : j < T.length := by rw [HLT.out]; exact hjl
          have cT := hO.cell j
          rw [xmix_get _ _ _ hTU hjT] at cT
          have fT := hO.frozen j
          have sT := hO.set j (.int .u8 ((T.getD j 0#8 ^^^ (USha.stU (bytesOf p) (bytesOf s) (k + 1)).getD j 0#8).toNat : Int))
          rw [xmix_set _ _ _ hTU hjT] at sT
          have hju : j < u1.size := by omega
          have hub : u1[j].toBitVec = (USha.stU (bytesOf p) (bytesOf s) (k + 1)).getD j 0#8 := by
            have h := bytesOf_get u1 j hju
            rw [HU1.out] at h
            rw [List.getD_eq_getElem?_getD, h]; rfl
          have ex : bits .xor .u8 ((T.getD j 0#8).toNat : Int) (u1[j].toNat : Int) = ((T.getD j 0#8 ^^^ (USha.stU (bytesOf p) (bytesOf s) (k + 1)).getD j 0#8).toNat : Int) := by
            have e2 : (u1[j].toNat : Int) = (((USha.stU (bytesOf p) (bytesOf s) (k + 1)).getD j 0#8).toNat : Int) := by rw [← hub]; rfl
            rw [e2]
            have h := Bv.xor8 (T.getD j 0#8) (((USha.stU (bytesOf p) (bytesOf s) (k + 1)).getD j 0#8).toNat : Int)
            rw [Bv.ofInt_toNat] at h
            exact h
          generalize T.getD j 0#8 ^^^ (USha.stU (bytesOf p) (bytesOf s) (k + 1)).getD j 0#8 = z at *
          generalize T.getD j 0#8 = tb at *
          have HSET := Lib.hid sT
          have j0 : (0 : Int) ≤ (j : Int) := by omega
          have j1 : (j : Int) < 32 := by omega
          have j2 : (j : Int) < (u1.size : Int) := by omega
          clear sT hub hTU hjT hO
          go_wp2
          refine wp_region_still_tail 8 (by kernel_rfl) (by kernel_rfl) ?_
          simp only [List.take_succ_cons, List.take_zero, List.drop_succ_cons, List.drop_zero]
          repeat still_step
          refine wpStill_nil ?_
          change wpList _ _ _ _ _ wr2.drew
          clear ex
          go_wp2
          go_roundw
          case rel => exact ⟨j + 1, by omega, by go_num, HSET.out, hA.drew.far _ _ (by simp; omega), hB.drew.far _ _ (by simp; omega), hb.drew.setCell hws _⟩
          case measure => simp [intOf]; omega
        · obtain rfl : j = 32 := by omega
          rw [USha.xmix_full _ _ _ (by rw [HLT.out, HLU.out]) (by rw [HLT.out]; omega), HT1.out] at hO
          rw [show (((32 : Nat)) : Int) = (32 : Int) from rfl]
          go_wp2
          go_roundw
          case rel => exact ⟨k + 1, u1, by omega, by go_num, rfl, HU1, hO, hA, hB, hb⟩
          case measure => simp [intOf]; omega
    · obtain rfl : k = n := by omega
      have hcv := conv_blkN hO (USha.stT_len _ _ _)
      generalize hres : strOf (USha.stT (bytesOf p) (bytesOf s) k) = res at *
      have HRES := Lib.hid hres
      clear hres
      go_wp2
      go_ret2
      exact ⟨by rw [HRES.out]; rfl, hb⟩
end Go.Proofs.YtmkifaddfnodhaaDoor
