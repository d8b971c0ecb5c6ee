/- The two digests of a key, walked: keyed. -/
import Derived.Test.YtmkifaddfnodhaaDoorHashMac
import Derived.Deep.Cut
namespace Go.Proofs.YtmkifaddfnodhaaDoor
open Go.RowKit
theorem conv_blkN {w : World} {g : Nat} {t : TypeId} {l : List (BitVec 8)} {n : Nat} (hb : Blk w g t (u8s l)) (hl : l.length = n) :
    (convert 53 9 (.slice (some ⟨g, 0, none⟩) n n)).run Tryd.prog w = .ok (.string (strOf l)) w := by
  rw [← hl]
  have := run_convert_bytes_back (P := Tryd.prog) w 53 9 5 ⟨g, 0, none⟩ l.length (l.map UInt8.ofBitVec) Tryd.underlying53 Tryd.underlying5 Tryd.underlying9 (fun j hj => by
    have hj' : j < l.length := by simpa using hj
    have e : (⟨g, 0, none⟩ : Addr).add j = ⟨g, j, none⟩ := by unfold Addr.add; split <;> simp_all
    rw [e, hb.cell j]
    simp [u8s, hj'])
  simpa [strOf] using this
theorem results_cell_cell {fn : Func} {p u : Tmp} {ty uy : TypeId} (h : fn.results = #[.cell p ty, .cell u uy]) (tmps : Array Value) (P : Program) (w : World) :
    (results fn tmps).run P w =
      ((asAddr (tmps.getD p undef)).run P w).andThen fun a w₁ => ((loadVar ty a).run P w₁).andThen fun v w₂ => ((asAddr (tmps.getD u undef)).run P w₂).andThen fun b w₃ => ((loadVar uy b).run P w₃).andThen fun x w₄ => .ok (.tuple #[v, x]) w₄ := by
  simp only [results, h]
  simp [Sem.run_bind, Result.andThen]
  repeat (first | rfl | split)
/-- the first k bytes xored -/
def xs (P : List (BitVec 8)) (c : BitVec 8) (k : Nat) : List (BitVec 8) := (P.take k).map (· ^^^ c) ++ P.drop k
theorem xs_length (P : List (BitVec 8)) (c : BitVec 8) (k : Nat) (h : k ≤ P.length) : (xs P c k).length = P.length := by
  unfold xs
  rw [List.length_append, List.length_map, List.length_take, List.length_drop]; omega
theorem xs_zero (P : List (BitVec 8)) (c : BitVec 8) : xs P c 0 = P := by simp [xs]
theorem xs_full (P : List (BitVec 8)) (c : BitVec 8) (k : Nat) (h : P.length ≤ k) : xs P c k = P.map (· ^^^ c) := by
  unfold xs
  rw [List.take_of_length_le h, List.drop_of_length_le h, List.append_nil]
theorem xs_get (P : List (BitVec 8)) (c : BitVec 8) (k : Nat) (h : k < P.length) : (u8s (xs P c k))[k]? = some (.int .u8 ((P.getD k 0#8).toNat : Int)) := by
  unfold u8s xs
  rw [List.getElem?_map, List.getElem?_append_right (by simp; omega), List.length_map, List.length_take, Nat.min_eq_left (by omega), Nat.sub_self, List.getElem?_drop, Nat.add_zero, List.getElem?_eq_getElem h, List.getD_eq_getElem?_getD, List.getElem?_eq_getElem h]; rfl
theorem xs_set (P : List (BitVec 8)) (c : BitVec 8) (k : Nat) (h : k < P.length) : (u8s (xs P c k)).set k (.int .u8 ((P.getD k 0#8 ^^^ c).toNat : Int)) = u8s (xs P c (k + 1)) := by
  have e : xs P c (k + 1) = (xs P c k).set k (P.getD k 0#8 ^^^ c) := by
    unfold xs
    rw [List.set_append_right _ _ (by simp; omega), List.length_map, List.length_take, Nat.min_eq_left (by omega), Nat.sub_self, List.drop_eq_getElem_cons h, List.set_cons_zero, take_snoc P k P[k] (List.getElem?_eq_getElem h), List.map_append, List.append_assoc, List.getD_eq_getElem?_getD, List.getElem?_eq_getElem h]; rfl
  rw [e]
  simp [u8s, List.map_set]
def padK (K : List (BitVec 8)) : List (BitVec 8) := K ++ List.replicate (64 - K.length) 0#8
theorem padK_length (K : List (BitVec 8)) (h : K.length ≤ 64) : (padK K).length = 64 := by unfold padK; rw [List.length_append, List.length_replicate]; omega
theorem seg_pad (K : List (BitVec 8)) (_h : K.length ≤ 64) : seg (u8s (List.replicate 64 0#8)) 0 (u8s K) = u8s (padK K) := by
  unfold seg padK
  rw [List.take_zero, List.nil_append, Nat.zero_add, u8s_length, u8s_append, u8s_zeros, u8s_zeros, List.drop_replicate]
def zs64 : List Value := u8s (List.replicate 64 0#8)
noncomputable def zHash : List Value := Tryd.zeroCells70.toList
theorem zHash_length : zHash.length = 74 := by kernel_rfl
theorem zHash_new (w : World) : Blk (w.alloc (.cells Tryd.zeroCells70 70)) w.heap.size 70 zHash := by
  have h := Blk.new w 70 zHash
  unfold zHash at h ⊢
  rwa [Array.toArray_toList] at h
theorem keyed_end (B : Act) (w : World) (g2 g3 : Nat) (CA CB : List Value) (e2 : B.eval (.tmp 2) = .pointer (some ⟨g2, 0, none⟩)) (e3 : B.eval (.tmp 3) = .pointer (some ⟨g3, 0, none⟩))
    (h2 : Blk w g2 70 CA) (h3 : Blk w g3 70 CB) (hA : CA.length = 74) (hB : CB.length = 74) :
    (results Tryd.f49 B.tmps).run Tryd.prog w = .ok (.tuple #[.agg CA.toArray, .agg CB.toArray]) w := by
  rw [results_cell_cell Tryd.results49]
  have e2' : B.tmps.getD 2 undef = .pointer (some ⟨g2, 0, none⟩) := by simpa [Act.eval] using e2
  have e3' : B.tmps.getD 3 undef = .pointer (some ⟨g3, 0, none⟩) := by simpa [Act.eval] using e3
  have l2 := run_loadVar_seg (P := Tryd.prog) h2 70 0 74 _ Tryd.underlying70 rfl (by kernel_rfl) (by omega)
  have l3 := run_loadVar_seg (P := Tryd.prog) h3 70 0 74 _ Tryd.underlying70 rfl (by kernel_rfl) (by omega)
  rw [List.drop_zero, List.take_of_length_le (by omega)] at l2 l3
  rw [e2', e3']
  simp [asAddr, Result.andThen, l2, l3]
/-- what is handed back -/
def Keyed (K : List (BitVec 8)) (w : World) (e : Ending) (w' : World) : Prop := ∃ (v1 v2 : USha.St) (r1 r2 : List (BitVec 8)) (h1 h2 : Nat),
  e = .returned (.tuple #[.agg (hc v1 r1 (h1 : Nat) 64).toArray, .agg (hc v2 r2 (h2 : Nat) 64).toArray]) ∧ USha.Holds v1 r1 h1 (USha.kpad K 0x36#8) ∧ USha.Holds v2 r2 h2 (USha.kpad K 0x5c#8) ∧ Below w.heap.size w w'
set_option maxHeartbeats 8000000 in
set_option maxRecDepth 100000 in
theorem keyed_any (s : ByteArray) (w : World) (hs : s.size ≤ 281474976710656) (ht : PTabs w) :
    Calls Tryd.prog 49 #[.string s] w (Keyed (USha.keyOf (bytesOf s)) w) := by
  have HT := Lib.hid ht
  have hg0 := ht.lt
  clear ht
  have hZa := zHash_new w
  have hZ2 := hZa.alloc (.cells Tryd.zeroCells70 70)
  have hZ3 := zHash_new (w.alloc (.cells Tryd.zeroCells70 70))
  rw [show (w.alloc (.cells Tryd.zeroCells70 70)).heap.size = w.heap.size + 1 by simp] at hZ3
  have hbS : Below w.heap.size w ((w.alloc (.cells Tryd.zeroCells70 70)).alloc (.cells Tryd.zeroCells70 70)) := ((Below.refl _ _).alloc (Nat.le_refl _) _).alloc (by simp) _
  clear hZa
  go_enter Tryd.func49, Tryd.ntmps49
  go_upto_region 1 with fail
  generalize (w.alloc (.cells Tryd.zeroCells70 70)).alloc (.cells Tryd.zeroCells70 70) = wS at *
  obtain ⟨g3, hg3⟩ : ∃ g3, g3 = w.heap.size + 1 := ⟨_, rfl⟩
  rw [← hg3] at hZ3
  rw [← hg3]
  have hg23 : w.heap.size < g3 := by omega
  clear hg3
  by_cases hl : 64 < s.size
  · have hK : USha.keyOf (bytesOf s) = USha.sha (bytesOf s) := by unfold USha.keyOf; rw [bytesOf_length, if_pos hl]
    have HK := Lib.hid hK
    have hlI : (64 : Int) < (s.size : Int) := by omega
    have HSH := Lib.hid (sha_prog s wS hs (HT.out.below hbS).pf (HT.out.below hbS).pr (by have := hbS.size; omega))
    have h3lt := hZ3.lt
    have h2lt := hZ2.lt
    clear hl hK
    go_upto_region 3 with (go_at_call 11; (with_reducible refine HSH.out.mono ?_); rintro e wT ⟨rfl, hbT⟩; have hbS := hbS.trans (hbT.mono hbS.size); have hZ2 := hZ2.below hbT h2lt; have hZ3 := hZ3.below hbT h3lt)
    obtain ⟨kS, hkS⟩ : ∃ kS, kS = strOf (USha.sha (bytesOf s)) := ⟨_, rfl⟩
    obtain ⟨K, hKK⟩ : ∃ K, K = USha.sha (bytesOf s) := ⟨_, rfl⟩
    have HKEY : Hid (USha.keyOf (bytesOf s) = K) := Lib.hid (by rw [HK.out, hKK])
    have hkb : bytesOf kS = K := by rw [hkS, bytesOf_strOf, hKK]
    have hks : kS.size ≤ 64 := by rw [hkS, strOf_size, USha.sha_len32]; omega
    rw [← hkS]
    clear HK HSH h3lt h2lt hbT hkS hKK
    have hKl : K.length ≤ 64 := by rw [← hkb, bytesOf_length]; exact hks
    have hb1 := hbS.alloc hbS.size (.cells zs64.toArray 67)
    have hb2 := hb1.alloc hb1.size (.cells zs64.toArray 67)
    have hI0 : Blk (wT.alloc (.cells zs64.toArray 67)) wT.heap.size 67 zs64 := Blk.new wT _ _
    have hI := hI0.alloc (.cells zs64.toArray 67)
    have hO : Blk ((wT.alloc (.cells zs64.toArray 67)).alloc (.cells zs64.toArray 67)) (wT.alloc (.cells zs64.toArray 67)).heap.size 67 zs64 := Blk.new _ _ _
    rw [show (wT.alloc (.cells zs64.toArray 67)).heap.size = wT.heap.size + 1 by simp] at hO
    have hY2 := (hZ2.alloc (.cells zs64.toArray 67)).alloc (.cells zs64.toArray 67)
    have hY3 := (hZ3.alloc (.cells zs64.toArray 67)).alloc (.cells zs64.toArray 67)
    have hlt3 := hZ3.lt
    go_upto_region 4 with fail
    change Code.wp _ _ _ _ ((wT.alloc (.cells zs64.toArray 67)).alloc (.cells zs64.toArray 67))
    generalize (wT.alloc (.cells zs64.toArray 67)).alloc (.cells zs64.toArray 67) = w4 at *
    obtain ⟨gi, hgi⟩ : ∃ gi, gi = wT.heap.size := ⟨_, rfl⟩
    obtain ⟨go, hgo⟩ : ∃ go, go = wT.heap.size + 1 := ⟨_, rfl⟩
    rw [← hgi] at hI
    rw [← hgo] at hO
    rw [← hgo, ← hgi]
    have hgio : gi < go := by omega
    have hg3i : g3 < gi := by omega
    clear hI0 hb1 hgi hgo hZ2 hZ3 hlt3 hbS
    have HKB := Lib.hid hkb
    have hmin : min kS.size 64 = kS.size := by omega
    have htk : (bytesOf kS).take (min kS.size 64) = K := by rw [hmin, List.take_of_length_le (by rw [bytesOf_length]; omega), hkb]
    have HTK := Lib.hid htk
    have HFIT := Lib.hid (show 0 + min kS.size 64 ≤ zs64.length by rw [show zs64.length = 64 by unfold zs64; rw [u8s_length]; simp]; omega)
    have HPAD := Lib.hid (seg_pad K hKl)
    clear hmin htk hkb
    go_upto_region 5 with (refine wpList_copy_str (by rfl) (.tmp 14) (.tmp 15) 53 9 (by rfl) 5 Tryd.underlying53 (by kernel_rfl) (off := 0) (dLen := 64) (dCap := 64) (s := kS) (by rfl) (by rfl) hI HFIT.out ?_; intro w5 hI5 ha5)
    have hI5' := hI5.out
    rw [HTK.out, show zs64 = u8s (List.replicate 64 0#8) from rfl, HPAD.out] at hI5'
    have hO5 := ha5.blk hO (by omega)
    have hX2 := ha5.blk hY2 (by omega)
    have hX3 := ha5.blk hY3 (by omega)
    have hb5 := hb2.trans (ha5.below hb2.size (by omega))
    clear hI hO hY2 hY3 hb2 hI5 ha5
    go_upto_region 6 with (refine wpList_copy_str (by rfl) (.tmp 17) (.tmp 18) 53 9 (by rfl) 5 Tryd.underlying53 (by kernel_rfl) (off := 0) (dLen := 64) (dCap := 64) (s := kS) (by rfl) (by rfl) hO5 HFIT.out ?_; intro w6 hO6 ha6)
    have hO6' := hO6.out
    rw [HTK.out, show zs64 = u8s (List.replicate 64 0#8) from rfl, HPAD.out] at hO6'
    have hI6 := ha6.blk hI5' (by omega)
    have hW2 := ha6.blk hX2 (by omega)
    have hW3 := ha6.blk hX3 (by omega)
    have hb6 := hb5.trans (ha6.below hb5.size (by omega))
    clear hI5' hO5 hX2 hX3 hb5 hO6 ha6
    have HPL := Lib.hid (padK_length K hKl)
    have HKP : Hid (∀ c, (padK K).map (· ^^^ c) = USha.kpad K c) := Lib.hid (fun c => rfl)
    have HKL := Lib.hid hKl
    clear hKl HPAD HTK HFIT HKB
    generalize padK K = PK at *
    go_wp2
    go_loopw [6, 20] (fun _ i wr => ∃ k : Nat, k ≤ 64 ∧ i = .int .i64 k ∧ Blk wr gi 67 (u8s (xs PK 54#8 k)) ∧ Blk wr go 67 (u8s (xs PK 92#8 k)) ∧ Blk wr w.heap.size 70 zHash ∧ Blk wr g3 70 zHash ∧ Below w.heap.size w wr) (fun _ i _ => 64 - (intOf i).toNat)
    case atStart => exact ⟨0, Nat.zero_le _, rfl, by rw [xs_zero]; exact hI6, by rw [xs_zero]; exact hO6', hW2, hW3, hb6⟩
    case round =>
      rename World => wr
      clear hI6 hO6' hW2 hW3 hb6
      obtain ⟨k, hk, rfl, hI, hO, hZ2, hZ3, hb⟩ := hrel
      by_cases hlt : k < 64
      · have hkP : k < PK.length := by rw [HPL.out]; exact hlt
        have cI := hI.cell k
        rw [xs_get _ _ _ hkP] at cI
        have fI := hI.frozen k
        have sI := hI.set k (.int .u8 ((PK.getD k 0#8 ^^^ 54#8).toNat : Int))
        rw [xs_set _ _ _ hkP] at sI
        have cO := hO.cell k
        rw [xs_get _ _ _ hkP] at cO
        have eI : bits .xor .u8 ((PK.getD k 0#8).toNat : Int) 54 = ((PK.getD k 0#8 ^^^ 54#8).toNat : Int) := Bv.xor8 _ _
        have eO : bits .xor .u8 ((PK.getD k 0#8).toNat : Int) 92 = ((PK.getD k 0#8 ^^^ 92#8).toNat : Int) := Bv.xor8 _ _
        have HSO : Hid (∀ w', Blk w' go 67 (u8s (xs PK 92#8 k)) → Blk (w'.setCell ⟨go, k, none⟩ (.int .u8 ((PK.getD k 0#8 ^^^ 92#8).toNat : Int))) go 67 (u8s (xs PK 92#8 (k + 1)))) := Lib.hid (fun w' h => by
          have h2 := h.set k (.int .u8 ((PK.getD k 0#8 ^^^ 92#8).toNat : Int))
          rwa [xs_set _ _ _ hkP] at h2)
        have HCG : Hid ((u8s (xs PK 92#8 k))[k]? = some (.int .u8 ((PK.getD k 0#8).toNat : Int))) := Lib.hid (xs_get _ _ _ hkP)
        generalize PK.getD k 0#8 = b at *
        generalize b ^^^ 54#8 = b1 at *
        generalize b ^^^ 92#8 = b2 at *
        have l0 : (0 : Int) ≤ (k : Int) := by omega
        have l1 : (k : Int) < 64 := by omega
        have HI := Lib.hid sI
        have HO := Lib.hid (hO.far ⟨gi, k, none⟩ (.int .u8 (b1.toNat : Int)) (by simp; omega))
        have HZ2 := Lib.hid (hZ2.far ⟨gi, k, none⟩ (.int .u8 (b1.toNat : Int)) (by simp; omega))
        have HZ3 := Lib.hid (hZ3.far ⟨gi, k, none⟩ (.int .u8 (b1.toNat : Int)) (by simp; omega))
        have HBB := Lib.hid (hb.setCell (p := ⟨gi, k, none⟩) (by simp; omega) (.int .u8 (b1.toNat : Int)))
        clear hkP sI hI hO hZ2 hZ3 hb cO
        go_upto_region 10 with fail
        clear cI fI
        generalize wr.setCell ⟨gi, k, none⟩ (.int .u8 (b1.toNat : Int)) = wq at *
        have cO := HO.out.cell k
        rw [HCG.out] at cO
        have fO := HO.out.frozen k
        go_wp2
        go_roundw
        case rel => exact ⟨k + 1, by omega, by go_num, HI.out.far _ _ (by simp; omega), HSO.out _ HO.out, HZ2.out.far _ _ (by simp; omega), HZ3.out.far _ _ (by simp; omega), HBB.out.setCell (by simp; omega) _⟩
        case measure => simp [intOf]; omega
      · obtain rfl : k = 64 := by omega
        rw [xs_full _ _ _ (by rw [HPL.out]; omega), HKP.out] at hI hO
        have hp1 := USha.kpad_length K 54#8 HKL.out
        have hp2 := USha.kpad_length K 92#8 HKL.out
        have HP1 := Lib.hid hp1
        have HP2 := Lib.hid hp2
        have HN1 := Lib.hid (newHash_any wr (HT.out.below hb).pf)
        have lI := hI.lt
        have lO := hO.lt
        have lZ2 := hZ2.lt
        have lZ3 := hZ3.lt
        rw [show (((64 : Nat)) : Int) = (64 : Int) from rfl]
        clear hp1 hp2 HKP HKL HPL
        go_upto_region 13 with (first
          | (go_at_call 28; (with_reducible refine HN1.out.mono ?_); rintro e wa ⟨rfl, hBa, hba⟩; have hbA := hb.trans (hba.mono hb.size); have lA := hBa.lt; have HN2 := Lib.hid (newHash_any wa (HT.out.below hbA).pf))
          | (go_at_call 28; (with_reducible refine HN2.out.mono ?_); rintro e wb ⟨rfl, hBb, hbb⟩))
        have hI2 := (hI.below hba lI).below hbb (by have := hba.size; omega)
        have hO2 := (hO.below hba lO).below hbb (by have := hba.size; omega)
        have hZ22 := (hZ2.below hba lZ2).below hbb (by have := hba.size; omega)
        have hZ32 := (hZ3.below hba lZ3).below hbb (by have := hba.size; omega)
        have hBa2 := hBa.below hbb lA
        have hb2 := hbA.trans (hbb.mono hbA.size)
        obtain ⟨ga, hga⟩ : ∃ ga, ga = wr.heap.size := ⟨_, rfl⟩
        obtain ⟨gb, hgb⟩ : ∃ gb, gb = wa.heap.size := ⟨_, rfl⟩
        rw [← hga] at hBa2
        rw [← hgb] at hBb
        rw [← hga, ← hgb]
        have x1 : go < ga := by omega
        have x2 : ga < gb := by omega
        clear hI hO hZ2 hZ3 hb hBa hba hbb hbA HN1 HN2 lI lO lZ2 lZ3 lA hga hgb
        have hcv := conv_blkN hI2 HP1.out
        have HA := Lib.hid (add_any ga USha.init (List.replicate 64 0#8) 0 [] (strOf (USha.kpad K 54#8)) wb hBa2 USha.holds_new (by rw [strOf_size, HP1.out]; unfold maxLen; omega) (by rw [strOf_size, HP1.out]; simp) (HT.out.below hb2).pr (by omega))
        have HSZ1 : Hid ((([] : List (BitVec 8)).length + (strOf (USha.kpad K 54#8)).size : Nat) = 64) := Lib.hid (by rw [strOf_size, HP1.out]; rfl)
        have HBB1 : Hid ([] ++ bytesOf (strOf (USha.kpad K 54#8)) = USha.kpad K 54#8) := Lib.hid (by rw [bytesOf_strOf, List.nil_append])
        generalize strOf (USha.kpad K 54#8) = sI at *
        clear hBa2
        go_upto_region 14 with (go_at_call 29; (with_reducible refine HA.out.mono ?_); rintro e wc ⟨rfl, hac, va, ra, na, hBa3, hHa⟩)
        rw [HSZ1.out] at hBa3
        rw [HBB1.out] at hHa
        have hO3 := hac.blk hO2 (by omega)
        have hZ23 := hac.blk hZ22 (by omega)
        have hZ33 := hac.blk hZ32 (by omega)
        have hBb3 := hac.blk hBb (by omega)
        have hb3 := hb2.trans (hac.below hb2.size (by omega))
        clear hI2 hO2 hZ22 hZ32 hBb hb2 hac hcv HA HSZ1 HBB1
        have hcv := conv_blkN hO3 HP2.out
        have HA := Lib.hid (add_any gb USha.init (List.replicate 64 0#8) 0 [] (strOf (USha.kpad K 92#8)) wc hBb3 USha.holds_new (by rw [strOf_size, HP2.out]; unfold maxLen; omega) (by rw [strOf_size, HP2.out]; simp) (HT.out.below hb3).pr (by omega))
        have HSZ1 : Hid ((([] : List (BitVec 8)).length + (strOf (USha.kpad K 92#8)).size : Nat) = 64) := Lib.hid (by rw [strOf_size, HP2.out]; rfl)
        have HBB1 : Hid ([] ++ bytesOf (strOf (USha.kpad K 92#8)) = USha.kpad K 92#8) := Lib.hid (by rw [bytesOf_strOf, List.nil_append])
        generalize strOf (USha.kpad K 92#8) = sO at *
        clear hBb3
        go_upto_region 15 with (go_at_call 29; (with_reducible refine HA.out.mono ?_); rintro e wd0 ⟨rfl, had, vb, rb, nb, hBb4, hHb⟩)
        rw [HSZ1.out] at hBb4
        rw [HBB1.out] at hHb
        have hZ24 := (had.blk hZ23 (by omega)).drew
        have hZ34 := (had.blk hZ33 (by omega)).drew
        have hRa := (had.blk hBa3 (by omega)).drew
        have hRb := hBb4.drew
        have hbd := (hb3.trans (had.below hb3.size (by omega))).drew
        clear hO3 hZ23 hZ33 hBa3 hBb4 hb3 had hcv HA HSZ1 HBB1
        have hlra := hHa.len
        have hlrb := hHb.len
        have HLA := Lib.hid (show 0 + 74 ≤ (hc va ra (na : Nat) ((64 : Nat) : Int)).length by rw [hc_length _ _ _ _ hlra]; omega)
        have HLB := Lib.hid (show 0 + 74 ≤ (hc vb rb (nb : Nat) ((64 : Nat) : Int)).length by rw [hc_length _ _ _ _ hlrb]; omega)
        have HAA : Hid (((hc va ra (na : Nat) ((64 : Nat) : Int)).drop 0).take 74 = hc va ra (na : Nat) ((64 : Nat) : Int)) := Lib.hid (by rw [List.drop_zero]; exact List.take_of_length_le (by rw [hc_length _ _ _ _ hlra]; omega))
        have HAB : Hid (((hc vb rb (nb : Nat) ((64 : Nat) : Int)).drop 0).take 74 = hc vb rb (nb : Nat) ((64 : Nat) : Int)) := Lib.hid (by rw [List.drop_zero]; exact List.take_of_length_le (by rw [hc_length _ _ _ _ hlrb]; omega))
        have HCLA : Hid ((hc va ra (na : Nat) ((64 : Nat) : Int)).length = 74) := Lib.hid (hc_length _ _ _ _ hlra)
        have HCLB : Hid ((hc vb rb (nb : Nat) ((64 : Nat) : Int)).length = 74) := Lib.hid (hc_length _ _ _ _ hlrb)
        have HOA := Lib.hid (hc_one va ra (na : Nat) ((64 : Nat) : Int))
        have HOB := Lib.hid (hc_one vb rb (nb : Nat) ((64 : Nat) : Int))
        have HKEYED : Hid (∀ w', Below w.heap.size w w' → Keyed (USha.keyOf (bytesOf s)) w (.returned (.tuple #[.agg (hc va ra (na : Nat) ((64 : Nat) : Int)).toArray, .agg (hc vb rb (nb : Nat) ((64 : Nat) : Int)).toArray])) w') := Lib.hid (fun w' h => by
          rw [HKEY.out]
          exact ⟨va, vb, ra, rb, na, nb, rfl, hHa, hHb, h⟩)
        clear hHa hHb hlra hlrb
        generalize hc va ra (na : Nat) ((64 : Nat) : Int) = CA at *
        generalize hc vb rb (nb : Nat) ((64 : Nat) : Int) = CB at *
        have HIA : Hid ((Tryd.prog.info? 70).map (·.size) = some CA.length) := Lib.hid (by rw [HCLA.out]; kernel_rfl)
        have HIB : Hid ((Tryd.prog.info? 70).map (·.size) = some CB.length) := Lib.hid (by rw [HCLB.out]; kernel_rfl)
        have HLZA : Hid (0 + CA.length ≤ zHash.length) := Lib.hid (by rw [HCLA.out, zHash_length]; omega)
        have HLZB : Hid (0 + CB.length ≤ zHash.length) := Lib.hid (by rw [HCLB.out, zHash_length]; omega)
        have HSA : Hid (seg zHash 0 CA = CA) := Lib.hid (seg_all _ _ (by rw [zHash_length, HCLA.out]))
        have HSB : Hid (seg zHash 0 CB = CB) := Lib.hid (seg_all _ _ (by rw [zHash_length, HCLB.out]))
        refine wp_region_any (by kernel_rfl) ?_
        change wpAny _ _ _ _ _ _ _ wd0.drew
        generalize wd0.drew = wd at *
        have hS2 := hZ24
        have hS3 := hZ34
        clear hZ24 hZ34
        refine wpAny_take (i := 0) (oi := { dst := some 44, op := .move (.tmp 7), type := 47, pos := _, after := _, guard := none }) (v := .pointer (some ⟨ga, 0, none⟩)) rfl (by kernel_rfl) (by kernel_rfl) (by kernel_rfl) (fun _ _ _ h => h) (Or.inl ⟨by rfl, by intro w; go_simp⟩) ?_
        refine wpAny_take (i := 1) (oi := { dst := some 45, op := .nilCheck (.tmp 44), type := 0, pos := _, after := _, guard := none }) (v := .pointer (some ⟨ga, 0, none⟩)) rfl (by kernel_rfl) (by kernel_rfl) (by kernel_rfl) (fun _ _ _ h => h) (Or.inl ⟨by rfl, by intro w; go_simp⟩) ?_
        refine wpAny_take (i := 3) (oi := { dst := some 47, op := .move (.tmp 8), type := 47, pos := _, after := _, guard := none }) (v := .pointer (some ⟨gb, 0, none⟩)) rfl (by kernel_rfl) (by kernel_rfl) (by kernel_rfl) (fun _ _ _ h => h) (Or.inl ⟨by rfl, by intro w; go_simp⟩) ?_
        refine wpAny_take (i := 4) (oi := { dst := some 48, op := .nilCheck (.tmp 47), type := 0, pos := _, after := _, guard := none }) (v := .pointer (some ⟨gb, 0, none⟩)) rfl (by kernel_rfl) (by kernel_rfl) (by kernel_rfl) (fun _ _ _ h => h) (Or.inl ⟨by rfl, by intro w; go_simp⟩) ?_
        refine wpAny_frame fun A hA => ?_
        have e45 : A.eval (.tmp 45) = .pointer (some ⟨ga, 0, none⟩) := by rw [hA]; simp [Act.eval, Act.put]
        have e48 : A.eval (.tmp 48) = .pointer (some ⟨gb, 0, none⟩) := by rw [hA]; simp [Act.eval, Act.put]
        have e2 : A.eval (.tmp 2) = .pointer (some ⟨w.heap.size, 0, none⟩) := by rw [hA]; simp [Act.eval, Act.put]
        have e3 : A.eval (.tmp 3) = .pointer (some ⟨g3, 0, none⟩) := by rw [hA]; simp [Act.eval, Act.put]
        have esz : A.tmps.size = 50 := by rw [hA]; simp [Act.put]
        have edf : A.defers = [] := by rw [hA]; rfl
        clear hA
        refine wpAny_ready (rs := [2, 5]) (by kernel_rfl) (by simp) (AllReady.cons (o := { dst := some 46, op := .load 70 (.tmp 45), type := 70, pos := _, after := _, guard := none }) (by rfl) (fun K hK => ?la) (AllReady.cons (o := { dst := some 49, op := .load 70 (.tmp 48), type := 70, pos := _, after := _, guard := none }) (by rfl) (fun K hK => ?lb) AllReady.nil))
        case la =>
          refine step_load_seg (by rfl) 70 (.tmp 45) (by rfl) (g := ga) (off := 0) (n := 74) e45 hRa _ Tryd.underlying70 rfl (by kernel_rfl) HLA.out ?_; rw [HAA.out]; refine hK _ _ ?_; clear hK K
          refine wpAny_frame fun B1 hB1 => ?_
          have e2 : B1.eval (.tmp 2) = .pointer (some ⟨w.heap.size, 0, none⟩) := by rw [hB1, eval_put_ne _ _ _ _ (by decide)]; exact e2
          have e3 : B1.eval (.tmp 3) = .pointer (some ⟨g3, 0, none⟩) := by rw [hB1, eval_put_ne _ _ _ _ (by decide)]; exact e3
          have e45 : B1.eval (.tmp 45) = .pointer (some ⟨ga, 0, none⟩) := by rw [hB1, eval_put_ne _ _ _ _ (by decide)]; exact e45
          have e48 : B1.eval (.tmp 48) = .pointer (some ⟨gb, 0, none⟩) := by rw [hB1, eval_put_ne _ _ _ _ (by decide)]; exact e48
          have e46 : B1.eval (.tmp 46) = .agg CA.toArray := by rw [hB1, eval_put_eq _ _ _ (by omega)]
          have esz : B1.tmps.size = 50 := by rw [hB1, size_put]; exact esz
          have edf : B1.defers = [] := by rw [hB1]; exact edf
          clear hB1
          refine wpAny_ready (rs := [5, 6]) (by kernel_rfl) (by simp) (AllReady.cons (o := { dst := some 49, op := .load 70 (.tmp 48), type := 70, pos := _, after := _, guard := none }) (by rfl) (fun K hK => ?lb2) (AllReady.cons (o := { dst := none, op := .store 70 (.tmp 2) (.tmp 46), type := 0, pos := _, after := _, guard := none }) (by rfl) (fun K hK => ?st2) AllReady.nil))
          case lb2 =>
            refine step_load_seg (by rfl) 70 (.tmp 48) (by rfl) (g := gb) (off := 0) (n := 74) e48 hRb _ Tryd.underlying70 rfl (by kernel_rfl) HLB.out ?_; rw [HAB.out]; refine hK _ _ ?_; clear hK K
            refine wpAny_frame fun B2 hB2 => ?_
            have e2 : B2.eval (.tmp 2) = .pointer (some ⟨w.heap.size, 0, none⟩) := by rw [hB2, eval_put_ne _ _ _ _ (by decide)]; exact e2
            have e3 : B2.eval (.tmp 3) = .pointer (some ⟨g3, 0, none⟩) := by rw [hB2, eval_put_ne _ _ _ _ (by decide)]; exact e3
            have e45 : B2.eval (.tmp 45) = .pointer (some ⟨ga, 0, none⟩) := by rw [hB2, eval_put_ne _ _ _ _ (by decide)]; exact e45
            have e48 : B2.eval (.tmp 48) = .pointer (some ⟨gb, 0, none⟩) := by rw [hB2, eval_put_ne _ _ _ _ (by decide)]; exact e48
            have e46 : B2.eval (.tmp 46) = .agg CA.toArray := by rw [hB2, eval_put_ne _ _ _ _ (by decide)]; exact e46
            have e49 : B2.eval (.tmp 49) = .agg CB.toArray := by rw [hB2, eval_put_eq _ _ _ (by omega)]
            have esz : B2.tmps.size = 50 := by rw [hB2, size_put]; exact esz
            have edf : B2.defers = [] := by rw [hB2]; exact edf
            clear hB2
            refine wpAny_ready (rs := [6]) (by kernel_rfl) (by simp) (AllReady.cons (o := { dst := none, op := .store 70 (.tmp 2) (.tmp 46), type := 0, pos := _, after := _, guard := none }) (by rfl) (fun K hK => ?_) AllReady.nil)
            refine step_store_seg (by rfl) 70 (.tmp 2) (.tmp 46) (by rfl) (g := w.heap.size) (off := 0) (cs := CA) e2 e46 hS2 HIA.out HLZA.out HOA.out ?_
            refine hK _ _ ?_
            clear hK K
            rw [HSA.out]
            have hRb6 := hRb.row_far (k := w.heap.size) CA.toArray (by omega)
            have hRa6 := hRa.row_far (k := w.heap.size) CA.toArray (by omega)
            have hS36 := hS3.row_far (k := w.heap.size) CA.toArray (by omega)
            have hS26 := hS2.row CA
            have hb6 := below_setRow hbd (Nat.le_refl w.heap.size) CA.toArray
            generalize wd.setRow w.heap.size CA.toArray = we at *
            change wpAny _ _ _ _ _ _ B2 we
            have e45 := e45; have e48 := e48
            refine wpAny_ready (rs := [7]) (by kernel_rfl) (by simp) (AllReady.cons (o := { dst := none, op := .store 70 (.tmp 3) (.tmp 49), type := 0, pos := _, after := _, guard := none }) (by rfl) (fun K hK => ?_) AllReady.nil)
            refine step_store_seg (by rfl) 70 (.tmp 3) (.tmp 49) (by rfl) (g := g3) (off := 0) (cs := CB) e3 e49 hS36 HIB.out HLZB.out HOB.out ?_
            refine hK _ _ ?_
            clear hK K
            rw [HSB.out]
            have hS37 := hS36.row CB
            have hS27 := hS26.row_far (k := g3) CB.toArray (by omega)
            have hb7 := below_setRow hb6 (show w.heap.size ≤ g3 by omega) CB.toArray
            generalize we.setRow g3 CB.toArray = wf at *
            refine wpAny_done (by kernel_rfl) ?_ _
            go_wp2
            exact bodyPost_ret (keyed_end _ wf w.heap.size g3 CA CB e2 e3 hS27 hS37 HCLA.out HCLB.out) edf (HKEYED.out _ hb7)
          case st2 =>
            refine step_store_seg (by rfl) 70 (.tmp 2) (.tmp 46) (by rfl) (g := w.heap.size) (off := 0) (cs := CA) e2 e46 hS2 HIA.out HLZA.out HOA.out ?_
            refine hK _ _ ?_
            clear hK K
            rw [HSA.out]
            have hRb6 := hRb.row_far (k := w.heap.size) CA.toArray (by omega)
            have hRa6 := hRa.row_far (k := w.heap.size) CA.toArray (by omega)
            have hS36 := hS3.row_far (k := w.heap.size) CA.toArray (by omega)
            have hS26 := hS2.row CA
            have hb6 := below_setRow hbd (Nat.le_refl w.heap.size) CA.toArray
            generalize wd.setRow w.heap.size CA.toArray = we at *
            change wpAny _ _ _ _ _ _ B1 we
            have e45 := e45; have e48 := e48
            refine wpAny_ready (rs := [5]) (by kernel_rfl) (by simp) (AllReady.cons (o := { dst := some 49, op := .load 70 (.tmp 48), type := 70, pos := _, after := _, guard := none }) (by rfl) (fun K hK => ?_) AllReady.nil)
            refine step_load_seg (by rfl) 70 (.tmp 48) (by rfl) (g := gb) (off := 0) (n := 74) e48 hRb6 _ Tryd.underlying70 rfl (by kernel_rfl) HLB.out ?_; rw [HAB.out]; refine hK _ _ ?_; clear hK K
            refine wpAny_frame fun B2 hB2 => ?_
            have e2 : B2.eval (.tmp 2) = .pointer (some ⟨w.heap.size, 0, none⟩) := by rw [hB2, eval_put_ne _ _ _ _ (by decide)]; exact e2
            have e3 : B2.eval (.tmp 3) = .pointer (some ⟨g3, 0, none⟩) := by rw [hB2, eval_put_ne _ _ _ _ (by decide)]; exact e3
            have e45 : B2.eval (.tmp 45) = .pointer (some ⟨ga, 0, none⟩) := by rw [hB2, eval_put_ne _ _ _ _ (by decide)]; exact e45
            have e48 : B2.eval (.tmp 48) = .pointer (some ⟨gb, 0, none⟩) := by rw [hB2, eval_put_ne _ _ _ _ (by decide)]; exact e48
            have e46 : B2.eval (.tmp 46) = .agg CA.toArray := by rw [hB2, eval_put_ne _ _ _ _ (by decide)]; exact e46
            have e49 : B2.eval (.tmp 49) = .agg CB.toArray := by rw [hB2, eval_put_eq _ _ _ (by omega)]
            have esz : B2.tmps.size = 50 := by rw [hB2, size_put]; exact esz
            have edf : B2.defers = [] := by rw [hB2]; exact edf
            clear hB2
            refine wpAny_ready (rs := [7]) (by kernel_rfl) (by simp) (AllReady.cons (o := { dst := none, op := .store 70 (.tmp 3) (.tmp 49), type := 0, pos := _, after := _, guard := none }) (by rfl) (fun K hK => ?_) AllReady.nil)
            refine step_store_seg (by rfl) 70 (.tmp 3) (.tmp 49) (by rfl) (g := g3) (off := 0) (cs := CB) e3 e49 hS36 HIB.out HLZB.out HOB.out ?_
            refine hK _ _ ?_
            clear hK K
            rw [HSB.out]
            have hS37 := hS36.row CB
            have hS27 := hS26.row_far (k := g3) CB.toArray (by omega)
            have hb7 := below_setRow hb6 (show w.heap.size ≤ g3 by omega) CB.toArray
            generalize we.setRow g3 CB.toArray = wf at *
            refine wpAny_done (by kernel_rfl) ?_ _
            go_wp2
            exact bodyPost_ret (keyed_end _ wf w.heap.size g3 CA CB e2 e3 hS27 hS37 HCLA.out HCLB.out) edf (HKEYED.out _ hb7)
        case lb =>
          refine step_load_seg (by rfl) 70 (.tmp 48) (by rfl) (g := gb) (off := 0) (n := 74) e48 hRb _ Tryd.underlying70 rfl (by kernel_rfl) HLB.out ?_; rw [HAB.out]; refine hK _ _ ?_; clear hK K
          refine wpAny_frame fun B1 hB1 => ?_
          have e2 : B1.eval (.tmp 2) = .pointer (some ⟨w.heap.size, 0, none⟩) := by rw [hB1, eval_put_ne _ _ _ _ (by decide)]; exact e2
          have e3 : B1.eval (.tmp 3) = .pointer (some ⟨g3, 0, none⟩) := by rw [hB1, eval_put_ne _ _ _ _ (by decide)]; exact e3
          have e45 : B1.eval (.tmp 45) = .pointer (some ⟨ga, 0, none⟩) := by rw [hB1, eval_put_ne _ _ _ _ (by decide)]; exact e45
          have e48 : B1.eval (.tmp 48) = .pointer (some ⟨gb, 0, none⟩) := by rw [hB1, eval_put_ne _ _ _ _ (by decide)]; exact e48
          have e49 : B1.eval (.tmp 49) = .agg CB.toArray := by rw [hB1, eval_put_eq _ _ _ (by omega)]
          have esz : B1.tmps.size = 50 := by rw [hB1, size_put]; exact esz
          have edf : B1.defers = [] := by rw [hB1]; exact edf
          clear hB1
          refine wpAny_ready (rs := [2]) (by kernel_rfl) (by simp) (AllReady.cons (o := { dst := some 46, op := .load 70 (.tmp 45), type := 70, pos := _, after := _, guard := none }) (by rfl) (fun K hK => ?_) AllReady.nil)
          refine step_load_seg (by rfl) 70 (.tmp 45) (by rfl) (g := ga) (off := 0) (n := 74) e45 hRa _ Tryd.underlying70 rfl (by kernel_rfl) HLA.out ?_; rw [HAA.out]; refine hK _ _ ?_; clear hK K
          refine wpAny_frame fun B2 hB2 => ?_
          have e2 : B2.eval (.tmp 2) = .pointer (some ⟨w.heap.size, 0, none⟩) := by rw [hB2, eval_put_ne _ _ _ _ (by decide)]; exact e2
          have e3 : B2.eval (.tmp 3) = .pointer (some ⟨g3, 0, none⟩) := by rw [hB2, eval_put_ne _ _ _ _ (by decide)]; exact e3
          have e45 : B2.eval (.tmp 45) = .pointer (some ⟨ga, 0, none⟩) := by rw [hB2, eval_put_ne _ _ _ _ (by decide)]; exact e45
          have e48 : B2.eval (.tmp 48) = .pointer (some ⟨gb, 0, none⟩) := by rw [hB2, eval_put_ne _ _ _ _ (by decide)]; exact e48
          have e49 : B2.eval (.tmp 49) = .agg CB.toArray := by rw [hB2, eval_put_ne _ _ _ _ (by decide)]; exact e49
          have e46 : B2.eval (.tmp 46) = .agg CA.toArray := by rw [hB2, eval_put_eq _ _ _ (by omega)]
          have esz : B2.tmps.size = 50 := by rw [hB2, size_put]; exact esz
          have edf : B2.defers = [] := by rw [hB2]; exact edf
          clear hB2
          refine wpAny_ready (rs := [6]) (by kernel_rfl) (by simp) (AllReady.cons (o := { dst := none, op := .store 70 (.tmp 2) (.tmp 46), type := 0, pos := _, after := _, guard := none }) (by rfl) (fun K hK => ?_) AllReady.nil)
          refine step_store_seg (by rfl) 70 (.tmp 2) (.tmp 46) (by rfl) (g := w.heap.size) (off := 0) (cs := CA) e2 e46 hS2 HIA.out HLZA.out HOA.out ?_
          refine hK _ _ ?_
          clear hK K
          rw [HSA.out]
          have hRb6 := hRb.row_far (k := w.heap.size) CA.toArray (by omega)
          have hRa6 := hRa.row_far (k := w.heap.size) CA.toArray (by omega)
          have hS36 := hS3.row_far (k := w.heap.size) CA.toArray (by omega)
          have hS26 := hS2.row CA
          have hb6 := below_setRow hbd (Nat.le_refl w.heap.size) CA.toArray
          generalize wd.setRow w.heap.size CA.toArray = we at *
          change wpAny _ _ _ _ _ _ B2 we
          have e45 := e45; have e48 := e48
          refine wpAny_ready (rs := [7]) (by kernel_rfl) (by simp) (AllReady.cons (o := { dst := none, op := .store 70 (.tmp 3) (.tmp 49), type := 0, pos := _, after := _, guard := none }) (by rfl) (fun K hK => ?_) AllReady.nil)
          refine step_store_seg (by rfl) 70 (.tmp 3) (.tmp 49) (by rfl) (g := g3) (off := 0) (cs := CB) e3 e49 hS36 HIB.out HLZB.out HOB.out ?_
          refine hK _ _ ?_
          clear hK K
          rw [HSB.out]
          have hS37 := hS36.row CB
          have hS27 := hS26.row_far (k := g3) CB.toArray (by omega)
          have hb7 := below_setRow hb6 (show w.heap.size ≤ g3 by omega) CB.toArray
          generalize we.setRow g3 CB.toArray = wf at *
          refine wpAny_done (by kernel_rfl) ?_ _
          go_wp2
          exact bodyPost_ret (keyed_end _ wf w.heap.size g3 CA CB e2 e3 hS27 hS37 HCLA.out HCLB.out) edf (HKEYED.out _ hb7)
  · have hK : USha.keyOf (bytesOf s) = bytesOf s := by unfold USha.keyOf; rw [bytesOf_length, if_neg hl]
    go_upto_region 3 with fail
    obtain ⟨K, hKK⟩ : ∃ K, K = bytesOf s := ⟨_, rfl⟩
    have HKEY : Hid (USha.keyOf (bytesOf s) = K) := Lib.hid (by rw [hK, hKK])
    have hks : s.size ≤ 64 := by omega
    obtain ⟨kS, hkS⟩ : ∃ kS, kS = s := ⟨_, rfl⟩
    have hkb : bytesOf kS = K := by rw [hkS, hKK]
    rw [← hkS] at hks ⊢
    clear hkS hKK hK hl hs
    have hKl : K.length ≤ 64 := by rw [← hkb, bytesOf_length]; exact hks
    have hb1 := hbS.alloc hbS.size (.cells zs64.toArray 67)
    have hb2 := hb1.alloc hb1.size (.cells zs64.toArray 67)
    have hI0 : Blk (wS.alloc (.cells zs64.toArray 67)) wS.heap.size 67 zs64 := Blk.new wS _ _
    have hI := hI0.alloc (.cells zs64.toArray 67)
    have hO : Blk ((wS.alloc (.cells zs64.toArray 67)).alloc (.cells zs64.toArray 67)) (wS.alloc (.cells zs64.toArray 67)).heap.size 67 zs64 := Blk.new _ _ _
    rw [show (wS.alloc (.cells zs64.toArray 67)).heap.size = wS.heap.size + 1 by simp] at hO
    have hY2 := (hZ2.alloc (.cells zs64.toArray 67)).alloc (.cells zs64.toArray 67)
    have hY3 := (hZ3.alloc (.cells zs64.toArray 67)).alloc (.cells zs64.toArray 67)
    have hlt3 := hZ3.lt
    go_upto_region 4 with fail
    change Code.wp _ _ _ _ ((wS.alloc (.cells zs64.toArray 67)).alloc (.cells zs64.toArray 67))
    generalize (wS.alloc (.cells zs64.toArray 67)).alloc (.cells zs64.toArray 67) = w4 at *
    obtain ⟨gi, hgi⟩ : ∃ gi, gi = wS.heap.size := ⟨_, rfl⟩
    obtain ⟨go, hgo⟩ : ∃ go, go = wS.heap.size + 1 := ⟨_, rfl⟩
    rw [← hgi] at hI
    rw [← hgo] at hO
    rw [← hgo, ← hgi]
    have hgio : gi < go := by omega
    have hg3i : g3 < gi := by omega
    clear hI0 hb1 hgi hgo hZ2 hZ3 hlt3 hbS
    have HKB := Lib.hid hkb
    have hmin : min kS.size 64 = kS.size := by omega
    have htk : (bytesOf kS).take (min kS.size 64) = K := by rw [hmin, List.take_of_length_le (by rw [bytesOf_length]; omega), hkb]
    have HTK := Lib.hid htk
    have HFIT := Lib.hid (show 0 + min kS.size 64 ≤ zs64.length by rw [show zs64.length = 64 by unfold zs64; rw [u8s_length]; simp]; omega)
    have HPAD := Lib.hid (seg_pad K hKl)
    clear hmin htk hkb
    go_upto_region 5 with (refine wpList_copy_str (by rfl) (.tmp 14) (.tmp 15) 53 9 (by rfl) 5 Tryd.underlying53 (by kernel_rfl) (off := 0) (dLen := 64) (dCap := 64) (s := kS) (by rfl) (by rfl) hI HFIT.out ?_; intro w5 hI5 ha5)
    have hI5' := hI5.out
    rw [HTK.out, show zs64 = u8s (List.replicate 64 0#8) from rfl, HPAD.out] at hI5'
    have hO5 := ha5.blk hO (by omega)
    have hX2 := ha5.blk hY2 (by omega)
    have hX3 := ha5.blk hY3 (by omega)
    have hb5 := hb2.trans (ha5.below hb2.size (by omega))
    clear hI hO hY2 hY3 hb2 hI5 ha5
    go_upto_region 6 with (refine wpList_copy_str (by rfl) (.tmp 17) (.tmp 18) 53 9 (by rfl) 5 Tryd.underlying53 (by kernel_rfl) (off := 0) (dLen := 64) (dCap := 64) (s := kS) (by rfl) (by rfl) hO5 HFIT.out ?_; intro w6 hO6 ha6)
    have hO6' := hO6.out
    rw [HTK.out, show zs64 = u8s (List.replicate 64 0#8) from rfl, HPAD.out] at hO6'
    have hI6 := ha6.blk hI5' (by omega)
    have hW2 := ha6.blk hX2 (by omega)
    have hW3 := ha6.blk hX3 (by omega)
    have hb6 := hb5.trans (ha6.below hb5.size (by omega))
    clear hI5' hO5 hX2 hX3 hb5 hO6 ha6
    have HPL := Lib.hid (padK_length K hKl)
    have HKP : Hid (∀ c, (padK K).map (· ^^^ c) = USha.kpad K c) := Lib.hid (fun c => rfl)
    have HKL := Lib.hid hKl
    clear hKl HPAD HTK HFIT HKB
    generalize padK K = PK at *
    go_wp2
    go_loopw [6, 20] (fun _ i wr => ∃ k : Nat, k ≤ 64 ∧ i = .int .i64 k ∧ Blk wr gi 67 (u8s (xs PK 54#8 k)) ∧ Blk wr go 67 (u8s (xs PK 92#8 k)) ∧ Blk wr w.heap.size 70 zHash ∧ Blk wr g3 70 zHash ∧ Below w.heap.size w wr) (fun _ i _ => 64 - (intOf i).toNat)
    case atStart => exact ⟨0, Nat.zero_le _, rfl, by rw [xs_zero]; exact hI6, by rw [xs_zero]; exact hO6', hW2, hW3, hb6⟩
    case round =>
      rename World => wr
      clear hI6 hO6' hW2 hW3 hb6
      obtain ⟨k, hk, rfl, hI, hO, hZ2, hZ3, hb⟩ := hrel
      by_cases hlt : k < 64
      · have hkP : k < PK.length := by rw [HPL.out]; exact hlt
        have cI := hI.cell k
        rw [xs_get _ _ _ hkP] at cI
        have fI := hI.frozen k
        have sI := hI.set k (.int .u8 ((PK.getD k 0#8 ^^^ 54#8).toNat : Int))
        rw [xs_set _ _ _ hkP] at sI
        have cO := hO.cell k
        rw [xs_get _ _ _ hkP] at cO
        have eI : bits .xor .u8 ((PK.getD k 0#8).toNat : Int) 54 = ((PK.getD k 0#8 ^^^ 54#8).toNat : Int) := Bv.xor8 _ _
        have eO : bits .xor .u8 ((PK.getD k 0#8).toNat : Int) 92 = ((PK.getD k 0#8 ^^^ 92#8).toNat : Int) := Bv.xor8 _ _
        have HSO : Hid (∀ w', Blk w' go 67 (u8s (xs PK 92#8 k)) → Blk (w'.setCell ⟨go, k, none⟩ (.int .u8 ((PK.getD k 0#8 ^^^ 92#8).toNat : Int))) go 67 (u8s (xs PK 92#8 (k + 1)))) := Lib.hid (fun w' h => by
          have h2 := h.set k (.int .u8 ((PK.getD k 0#8 ^^^ 92#8).toNat : Int))
          rwa [xs_set _ _ _ hkP] at h2)
        have HCG : Hid ((u8s (xs PK 92#8 k))[k]? = some (.int .u8 ((PK.getD k 0#8).toNat : Int))) := Lib.hid (xs_get _ _ _ hkP)
        generalize PK.getD k 0#8 = b at *
        generalize b ^^^ 54#8 = b1 at *
        generalize b ^^^ 92#8 = b2 at *
        have l0 : (0 : Int) ≤ (k : Int) := by omega
        have l1 : (k : Int) < 64 := by omega
        have HI := Lib.hid sI
        have HO := Lib.hid (hO.far ⟨gi, k, none⟩ (.int .u8 (b1.toNat : Int)) (by simp; omega))
        have HZ2 := Lib.hid (hZ2.far ⟨gi, k, none⟩ (.int .u8 (b1.toNat : Int)) (by simp; omega))
        have HZ3 := Lib.hid (hZ3.far ⟨gi, k, none⟩ (.int .u8 (b1.toNat : Int)) (by simp; omega))
        have HBB := Lib.hid (hb.setCell (p := ⟨gi, k, none⟩) (by simp; omega) (.int .u8 (b1.toNat : Int)))
        clear hkP sI hI hO hZ2 hZ3 hb cO
        go_upto_region 10 with fail
        clear cI fI
        generalize wr.setCell ⟨gi, k, none⟩ (.int .u8 (b1.toNat : Int)) = wq at *
        have cO := HO.out.cell k
        rw [HCG.out] at cO
        have fO := HO.out.frozen k
        go_wp2
        go_roundw
        case rel => exact ⟨k + 1, by omega, by go_num, HI.out.far _ _ (by simp; omega), HSO.out _ HO.out, HZ2.out.far _ _ (by simp; omega), HZ3.out.far _ _ (by simp; omega), HBB.out.setCell (by simp; omega) _⟩
        case measure => simp [intOf]; omega
      · obtain rfl : k = 64 := by omega
        rw [xs_full _ _ _ (by rw [HPL.out]; omega), HKP.out] at hI hO
        have hp1 := USha.kpad_length K 54#8 HKL.out
        have hp2 := USha.kpad_length K 92#8 HKL.out
        have HP1 := Lib.hid hp1
        have HP2 := Lib.hid hp2
        have HN1 := Lib.hid (newHash_any wr (HT.out.below hb).pf)
        have lI := hI.lt
        have lO := hO.lt
        have lZ2 := hZ2.lt
        have lZ3 := hZ3.lt
        rw [show (((64 : Nat)) : Int) = (64 : Int) from rfl]
        clear hp1 hp2 HKP HKL HPL
        go_upto_region 13 with (first
          | (go_at_call 28; (with_reducible refine HN1.out.mono ?_); rintro e wa ⟨rfl, hBa, hba⟩; have hbA := hb.trans (hba.mono hb.size); have lA := hBa.lt; have HN2 := Lib.hid (newHash_any wa (HT.out.below hbA).pf))
          | (go_at_call 28; (with_reducible refine HN2.out.mono ?_); rintro e wb ⟨rfl, hBb, hbb⟩))
        have hI2 := (hI.below hba lI).below hbb (by have := hba.size; omega)
        have hO2 := (hO.below hba lO).below hbb (by have := hba.size; omega)
        have hZ22 := (hZ2.below hba lZ2).below hbb (by have := hba.size; omega)
        have hZ32 := (hZ3.below hba lZ3).below hbb (by have := hba.size; omega)
        have hBa2 := hBa.below hbb lA
        have hb2 := hbA.trans (hbb.mono hbA.size)
        obtain ⟨ga, hga⟩ : ∃ ga, ga = wr.heap.size := ⟨_, rfl⟩
        obtain ⟨gb, hgb⟩ : ∃ gb, gb = wa.heap.size := ⟨_, rfl⟩
        rw [← hga] at hBa2
        rw [← hgb] at hBb
        rw [← hga, ← hgb]
        have x1 : go < ga := by omega
        have x2 : ga < gb := by omega
        clear hI hO hZ2 hZ3 hb hBa hba hbb hbA HN1 HN2 lI lO lZ2 lZ3 lA hga hgb
        have hcv := conv_blkN hI2 HP1.out
        have HA := Lib.hid (add_any ga USha.init (List.replicate 64 0#8) 0 [] (strOf (USha.kpad K 54#8)) wb hBa2 USha.holds_new (by rw [strOf_size, HP1.out]; unfold maxLen; omega) (by rw [strOf_size, HP1.out]; simp) (HT.out.below hb2).pr (by omega))
        have HSZ1 : Hid ((([] : List (BitVec 8)).length + (strOf (USha.kpad K 54#8)).size : Nat) = 64) := Lib.hid (by rw [strOf_size, HP1.out]; rfl)
        have HBB1 : Hid ([] ++ bytesOf (strOf (USha.kpad K 54#8)) = USha.kpad K 54#8) := Lib.hid (by rw [bytesOf_strOf, List.nil_append])
        generalize strOf (USha.kpad K 54#8) = sI at *
        clear hBa2
        go_upto_region 14 with (go_at_call 29; (with_reducible refine HA.out.mono ?_); rintro e wc ⟨rfl, hac, va, ra, na, hBa3, hHa⟩)
        rw [HSZ1.out] at hBa3
        rw [HBB1.out] at hHa
        have hO3 := hac.blk hO2 (by omega)
        have hZ23 := hac.blk hZ22 (by omega)
        have hZ33 := hac.blk hZ32 (by omega)
        have hBb3 := hac.blk hBb (by omega)
        have hb3 := hb2.trans (hac.below hb2.size (by omega))
        clear hI2 hO2 hZ22 hZ32 hBb hb2 hac hcv HA HSZ1 HBB1
        have hcv := conv_blkN hO3 HP2.out
        have HA := Lib.hid (add_any gb USha.init (List.replicate 64 0#8) 0 [] (strOf (USha.kpad K 92#8)) wc hBb3 USha.holds_new (by rw [strOf_size, HP2.out]; unfold maxLen; omega) (by rw [strOf_size, HP2.out]; simp) (HT.out.below hb3).pr (by omega))
        have HSZ1 : Hid ((([] : List (BitVec 8)).length + (strOf (USha.kpad K 92#8)).size : Nat) = 64) := Lib.hid (by rw [strOf_size, HP2.out]; rfl)
        have HBB1 : Hid ([] ++ bytesOf (strOf (USha.kpad K 92#8)) = USha.kpad K 92#8) := Lib.hid (by rw [bytesOf_strOf, List.nil_append])
        generalize strOf (USha.kpad K 92#8) = sO at *
        clear hBb3
        go_upto_region 15 with (go_at_call 29; (with_reducible refine HA.out.mono ?_); rintro e wd0 ⟨rfl, had, vb, rb, nb, hBb4, hHb⟩)
        rw [HSZ1.out] at hBb4
        rw [HBB1.out] at hHb
        have hZ24 := (had.blk hZ23 (by omega)).drew
        have hZ34 := (had.blk hZ33 (by omega)).drew
        have hRa := (had.blk hBa3 (by omega)).drew
        have hRb := hBb4.drew
        have hbd := (hb3.trans (had.below hb3.size (by omega))).drew
        clear hO3 hZ23 hZ33 hBa3 hBb4 hb3 had hcv HA HSZ1 HBB1
        have hlra := hHa.len
        have hlrb := hHb.len
        have HLA := Lib.hid (show 0 + 74 ≤ (hc va ra (na : Nat) ((64 : Nat) : Int)).length by rw [hc_length _ _ _ _ hlra]; omega)
        have HLB := Lib.hid (show 0 + 74 ≤ (hc vb rb (nb : Nat) ((64 : Nat) : Int)).length by rw [hc_length _ _ _ _ hlrb]; omega)
        have HAA : Hid (((hc va ra (na : Nat) ((64 : Nat) : Int)).drop 0).take 74 = hc va ra (na : Nat) ((64 : Nat) : Int)) := Lib.hid (by rw [List.drop_zero]; exact List.take_of_length_le (by rw [hc_length _ _ _ _ hlra]; omega))
        have HAB : Hid (((hc vb rb (nb : Nat) ((64 : Nat) : Int)).drop 0).take 74 = hc vb rb (nb : Nat) ((64 : Nat) : Int)) := Lib.hid (by rw [List.drop_zero]; exact List.take_of_length_le (by rw [hc_length _ _ _ _ hlrb]; omega))
        have HCLA : Hid ((hc va ra (na : Nat) ((64 : Nat) : Int)).length = 74) := Lib.hid (hc_length _ _ _ _ hlra)
        have HCLB : Hid ((hc vb rb (nb : Nat) ((64 : Nat) : Int)).length = 74) := Lib.hid (hc_length _ _ _ _ hlrb)
        have HOA := Lib.hid (hc_one va ra (na : Nat) ((64 : Nat) : Int))
        have HOB := Lib.hid (hc_one vb rb (nb : Nat) ((64 : Nat) : Int))
        have HKEYED : Hid (∀ w', Below w.heap.size w w' → Keyed (USha.keyOf (bytesOf s)) w (.returned (.tuple #[.agg (hc va ra (na : Nat) ((64 : Nat) : Int)).toArray, .agg (hc vb rb (nb : Nat) ((64 : Nat) : Int)).toArray])) w') := Lib.hid (fun w' h => by
          rw [HKEY.out]
          exact ⟨va, vb, ra, rb, na, nb, rfl, hHa, hHb, h⟩)
        clear hHa hHb hlra hlrb
        generalize hc va ra (na : Nat) ((64 : Nat) : Int) = CA at *
        generalize hc vb rb (nb : Nat) ((64 : Nat) : Int) = CB at *
        have HIA : Hid ((Tryd.prog.info? 70).map (·.size) = some CA.length) := Lib.hid (by rw [HCLA.out]; kernel_rfl)
        have HIB : Hid ((Tryd.prog.info? 70).map (·.size) = some CB.length) := Lib.hid (by rw [HCLB.out]; kernel_rfl)
        have HLZA : Hid (0 + CA.length ≤ zHash.length) := Lib.hid (by rw [HCLA.out, zHash_length]; omega)
        have HLZB : Hid (0 + CB.length ≤ zHash.length) := Lib.hid (by rw [HCLB.out, zHash_length]; omega)
        have HSA : Hid (seg zHash 0 CA = CA) := Lib.hid (seg_all _ _ (by rw [zHash_length, HCLA.out]))
        have HSB : Hid (seg zHash 0 CB = CB) := Lib.hid (seg_all _ _ (by rw [zHash_length, HCLB.out]))
        refine wp_region_any (by kernel_rfl) ?_
        change wpAny _ _ _ _ _ _ _ wd0.drew
        generalize wd0.drew = wd at *
        have hS2 := hZ24
        have hS3 := hZ34
        clear hZ24 hZ34
        refine wpAny_take (i := 0) (oi := { dst := some 44, op := .move (.tmp 7), type := 47, pos := _, after := _, guard := none }) (v := .pointer (some ⟨ga, 0, none⟩)) rfl (by kernel_rfl) (by kernel_rfl) (by kernel_rfl) (fun _ _ _ h => h) (Or.inl ⟨by rfl, by intro w; go_simp⟩) ?_
        refine wpAny_take (i := 1) (oi := { dst := some 45, op := .nilCheck (.tmp 44), type := 0, pos := _, after := _, guard := none }) (v := .pointer (some ⟨ga, 0, none⟩)) rfl (by kernel_rfl) (by kernel_rfl) (by kernel_rfl) (fun _ _ _ h => h) (Or.inl ⟨by rfl, by intro w; go_simp⟩) ?_
        refine wpAny_take (i := 3) (oi := { dst := some 47, op := .move (.tmp 8), type := 47, pos := _, after := _, guard := none }) (v := .pointer (some ⟨gb, 0, none⟩)) rfl (by kernel_rfl) (by kernel_rfl) (by kernel_rfl) (fun _ _ _ h => h) (Or.inl ⟨by rfl, by intro w; go_simp⟩) ?_
        refine wpAny_take (i := 4) (oi := { dst := some 48, op := .nilCheck (.tmp 47), type := 0, pos := _, after := _, guard := none }) (v := .pointer (some ⟨gb, 0, none⟩)) rfl (by kernel_rfl) (by kernel_rfl) (by kernel_rfl) (fun _ _ _ h => h) (Or.inl ⟨by rfl, by intro w; go_simp⟩) ?_
        refine wpAny_frame fun A hA => ?_
        have e45 : A.eval (.tmp 45) = .pointer (some ⟨ga, 0, none⟩) := by rw [hA]; simp [Act.eval, Act.put]
        have e48 : A.eval (.tmp 48) = .pointer (some ⟨gb, 0, none⟩) := by rw [hA]; simp [Act.eval, Act.put]
        have e2 : A.eval (.tmp 2) = .pointer (some ⟨w.heap.size, 0, none⟩) := by rw [hA]; simp [Act.eval, Act.put]
        have e3 : A.eval (.tmp 3) = .pointer (some ⟨g3, 0, none⟩) := by rw [hA]; simp [Act.eval, Act.put]
        have esz : A.tmps.size = 50 := by rw [hA]; simp [Act.put]
        have edf : A.defers = [] := by rw [hA]; rfl
        clear hA
        refine wpAny_ready (rs := [2, 5]) (by kernel_rfl) (by simp) (AllReady.cons (o := { dst := some 46, op := .load 70 (.tmp 45), type := 70, pos := _, after := _, guard := none }) (by rfl) (fun K hK => ?la) (AllReady.cons (o := { dst := some 49, op := .load 70 (.tmp 48), type := 70, pos := _, after := _, guard := none }) (by rfl) (fun K hK => ?lb) AllReady.nil))
        case la =>
          refine step_load_seg (by rfl) 70 (.tmp 45) (by rfl) (g := ga) (off := 0) (n := 74) e45 hRa _ Tryd.underlying70 rfl (by kernel_rfl) HLA.out ?_; rw [HAA.out]; refine hK _ _ ?_; clear hK K
          refine wpAny_frame fun B1 hB1 => ?_
          have e2 : B1.eval (.tmp 2) = .pointer (some ⟨w.heap.size, 0, none⟩) := by rw [hB1, eval_put_ne _ _ _ _ (by decide)]; exact e2
          have e3 : B1.eval (.tmp 3) = .pointer (some ⟨g3, 0, none⟩) := by rw [hB1, eval_put_ne _ _ _ _ (by decide)]; exact e3
          have e45 : B1.eval (.tmp 45) = .pointer (some ⟨ga, 0, none⟩) := by rw [hB1, eval_put_ne _ _ _ _ (by decide)]; exact e45
          have e48 : B1.eval (.tmp 48) = .pointer (some ⟨gb, 0, none⟩) := by rw [hB1, eval_put_ne _ _ _ _ (by decide)]; exact e48
          have e46 : B1.eval (.tmp 46) = .agg CA.toArray := by rw [hB1, eval_put_eq _ _ _ (by omega)]
          have esz : B1.tmps.size = 50 := by rw [hB1, size_put]; exact esz
          have edf : B1.defers = [] := by rw [hB1]; exact edf
          clear hB1
          refine wpAny_ready (rs := [5, 6]) (by kernel_rfl) (by simp) (AllReady.cons (o := { dst := some 49, op := .load 70 (.tmp 48), type := 70, pos := _, after := _, guard := none }) (by rfl) (fun K hK => ?lb2) (AllReady.cons (o := { dst := none, op := .store 70 (.tmp 2) (.tmp 46), type := 0, pos := _, after := _, guard := none }) (by rfl) (fun K hK => ?st2) AllReady.nil))
          case lb2 =>
            refine step_load_seg (by rfl) 70 (.tmp 48) (by rfl) (g := gb) (off := 0) (n := 74) e48 hRb _ Tryd.underlying70 rfl (by kernel_rfl) HLB.out ?_; rw [HAB.out]; refine hK _ _ ?_; clear hK K
            refine wpAny_frame fun B2 hB2 => ?_
            have e2 : B2.eval (.tmp 2) = .pointer (some ⟨w.heap.size, 0, none⟩) := by rw [hB2, eval_put_ne _ _ _ _ (by decide)]; exact e2
            have e3 : B2.eval (.tmp 3) = .pointer (some ⟨g3, 0, none⟩) := by rw [hB2, eval_put_ne _ _ _ _ (by decide)]; exact e3
            have e45 : B2.eval (.tmp 45) = .pointer (some ⟨ga, 0, none⟩) := by rw [hB2, eval_put_ne _ _ _ _ (by decide)]; exact e45
            have e48 : B2.eval (.tmp 48) = .pointer (some ⟨gb, 0, none⟩) := by rw [hB2, eval_put_ne _ _ _ _ (by decide)]; exact e48
            have e46 : B2.eval (.tmp 46) = .agg CA.toArray := by rw [hB2, eval_put_ne _ _ _ _ (by decide)]; exact e46
            have e49 : B2.eval (.tmp 49) = .agg CB.toArray := by rw [hB2, eval_put_eq _ _ _ (by omega)]
            have esz : B2.tmps.size = 50 := by rw [hB2, size_put]; exact esz
            have edf : B2.defers = [] := by rw [hB2]; exact edf
            clear hB2
            refine wpAny_ready (rs := [6]) (by kernel_rfl) (by simp) (AllReady.cons (o := { dst := none, op := .store 70 (.tmp 2) (.tmp 46), type := 0, pos := _, after := _, guard := none }) (by rfl) (fun K hK => ?_) AllReady.nil)
            refine step_store_seg (by rfl) 70 (.tmp 2) (.tmp 46) (by rfl) (g := w.heap.size) (off := 0) (cs := CA) e2 e46 hS2 HIA.out HLZA.out HOA.out ?_
            refine hK _ _ ?_
            clear hK K
            rw [HSA.out]
            have hRb6 := hRb.row_far (k := w.heap.size) CA.toArray (by omega)
            have hRa6 := hRa.row_far (k := w.heap.size) CA.toArray (by omega)
            have hS36 := hS3.row_far (k := w.heap.size) CA.toArray (by omega)
            have hS26 := hS2.row CA
            have hb6 := below_setRow hbd (Nat.le_refl w.heap.size) CA.toArray
            generalize wd.setRow w.heap.size CA.toArray = we at *
            change wpAny _ _ _ _ _ _ B2 we
            have e45 := e45; have e48 := e48
            refine wpAny_ready (rs := [7]) (by kernel_rfl) (by simp) (AllReady.cons (o := { dst := none, op := .store 70 (.tmp 3) (.tmp 49), type := 0, pos := _, after := _, guard := none }) (by rfl) (fun K hK => ?_) AllReady.nil)
            refine step_store_seg (by rfl) 70 (.tmp 3) (.tmp 49) (by rfl) (g := g3) (off := 0) (cs := CB) e3 e49 hS36 HIB.out HLZB.out HOB.out ?_
            refine hK _ _ ?_
            clear hK K
            rw [HSB.out]
            have hS37 := hS36.row CB
            have hS27 := hS26.row_far (k := g3) CB.toArray (by omega)
            have hb7 := below_setRow hb6 (show w.heap.size ≤ g3 by omega) CB.toArray
            generalize we.setRow g3 CB.toArray = wf at *
            refine wpAny_done (by kernel_rfl) ?_ _
            go_wp2
            exact bodyPost_ret (keyed_end _ wf w.heap.size g3 CA CB e2 e3 hS27 hS37 HCLA.out HCLB.out) edf (HKEYED.out _ hb7)
          case st2 =>
            refine step_store_seg (by rfl) 70 (.tmp 2) (.tmp 46) (by rfl) (g := w.heap.size) (off := 0) (cs := CA) e2 e46 hS2 HIA.out HLZA.out HOA.out ?_
            refine hK _ _ ?_
            clear hK K
            rw [HSA.out]
            have hRb6 := hRb.row_far (k := w.heap.size) CA.toArray (by omega)
            have hRa6 := hRa.row_far (k := w.heap.size) CA.toArray (by omega)
            have hS36 := hS3.row_far (k := w.heap.size) CA.toArray (by omega)
            have hS26 := hS2.row CA
            have hb6 := below_setRow hbd (Nat.le_refl w.heap.size) CA.toArray
            generalize wd.setRow w.heap.size CA.toArray = we at *
            change wpAny _ _ _ _ _ _ B1 we
            have e45 := e45; have e48 := e48
            refine wpAny_ready (rs := [5]) (by kernel_rfl) (by simp) (AllReady.cons (o := { dst := some 49, op := .load 70 (.tmp 48), type := 70, pos := _, after := _, guard := none }) (by rfl) (fun K hK => ?_) AllReady.nil)
            refine step_load_seg (by rfl) 70 (.tmp 48) (by rfl) (g := gb) (off := 0) (n := 74) e48 hRb6 _ Tryd.underlying70 rfl (by kernel_rfl) HLB.out ?_; rw [HAB.out]; refine hK _ _ ?_; clear hK K
            refine wpAny_frame fun B2 hB2 => ?_
            have e2 : B2.eval (.tmp 2) = .pointer (some ⟨w.heap.size, 0, none⟩) := by rw [hB2, eval_put_ne _ _ _ _ (by decide)]; exact e2
            have e3 : B2.eval (.tmp 3) = .pointer (some ⟨g3, 0, none⟩) := by rw [hB2, eval_put_ne _ _ _ _ (by decide)]; exact e3
            have e45 : B2.eval (.tmp 45) = .pointer (some ⟨ga, 0, none⟩) := by rw [hB2, eval_put_ne _ _ _ _ (by decide)]; exact e45
            have e48 : B2.eval (.tmp 48) = .pointer (some ⟨gb, 0, none⟩) := by rw [hB2, eval_put_ne _ _ _ _ (by decide)]; exact e48
            have e46 : B2.eval (.tmp 46) = .agg CA.toArray := by rw [hB2, eval_put_ne _ _ _ _ (by decide)]; exact e46
            have e49 : B2.eval (.tmp 49) = .agg CB.toArray := by rw [hB2, eval_put_eq _ _ _ (by omega)]
            have esz : B2.tmps.size = 50 := by rw [hB2, size_put]; exact esz
            have edf : B2.defers = [] := by rw [hB2]; exact edf
            clear hB2
            refine wpAny_ready (rs := [7]) (by kernel_rfl) (by simp) (AllReady.cons (o := { dst := none, op := .store 70 (.tmp 3) (.tmp 49), type := 0, pos := _, after := _, guard := none }) (by rfl) (fun K hK => ?_) AllReady.nil)
            refine step_store_seg (by rfl) 70 (.tmp 3) (.tmp 49) (by rfl) (g := g3) (off := 0) (cs := CB) e3 e49 hS36 HIB.out HLZB.out HOB.out ?_
            refine hK _ _ ?_
            clear hK K
            rw [HSB.out]
            have hS37 := hS36.row CB
            have hS27 := hS26.row_far (k := g3) CB.toArray (by omega)
            have hb7 := below_setRow hb6 (show w.heap.size ≤ g3 by omega) CB.toArray
            generalize we.setRow g3 CB.toArray = wf at *
            refine wpAny_done (by kernel_rfl) ?_ _
            go_wp2
            exact bodyPost_ret (keyed_end _ wf w.heap.size g3 CA CB e2 e3 hS27 hS37 HCLA.out HCLB.out) edf (HKEYED.out _ hb7)
        case lb =>
          refine step_load_seg (by rfl) 70 (.tmp 48) (by rfl) (g := gb) (off := 0) (n := 74) e48 hRb _ Tryd.underlying70 rfl (by kernel_rfl) HLB.out ?_; rw [HAB.out]; refine hK _ _ ?_; clear hK K
          refine wpAny_frame fun B1 hB1 => ?_
          have e2 : B1.eval (.tmp 2) = .pointer (some ⟨w.heap.size, 0, none⟩) := by rw [hB1, eval_put_ne _ _ _ _ (by decide)]; exact e2
          have e3 : B1.eval (.tmp 3) = .pointer (some ⟨g3, 0, none⟩) := by rw [hB1, eval_put_ne _ _ _ _ (by decide)]; exact e3
          have e45 : B1.eval (.tmp 45) = .pointer (some ⟨ga, 0, none⟩) := by rw [hB1, eval_put_ne _ _ _ _ (by decide)]; exact e45
          have e48 : B1.eval (.tmp 48) = .pointer (some ⟨gb, 0, none⟩) := by rw [hB1, eval_put_ne _ _ _ _ (by decide)]; exact e48
          have e49 : B1.eval (.tmp 49) = .agg CB.toArray := by rw [hB1, eval_put_eq _ _ _ (by omega)]
          have esz : B1.tmps.size = 50 := by rw [hB1, size_put]; exact esz
          have edf : B1.defers = [] := by rw [hB1]; exact edf
          clear hB1
          refine wpAny_ready (rs := [2]) (by kernel_rfl) (by simp) (AllReady.cons (o := { dst := some 46, op := .load 70 (.tmp 45), type := 70, pos := _, after := _, guard := none }) (by rfl) (fun K hK => ?_) AllReady.nil)
          refine step_load_seg (by rfl) 70 (.tmp 45) (by rfl) (g := ga) (off := 0) (n := 74) e45 hRa _ Tryd.underlying70 rfl (by kernel_rfl) HLA.out ?_; rw [HAA.out]; refine hK _ _ ?_; clear hK K
          refine wpAny_frame fun B2 hB2 => ?_
          have e2 : B2.eval (.tmp 2) = .pointer (some ⟨w.heap.size, 0, none⟩) := by rw [hB2, eval_put_ne _ _ _ _ (by decide)]; exact e2
          have e3 : B2.eval (.tmp 3) = .pointer (some ⟨g3, 0, none⟩) := by rw [hB2, eval_put_ne _ _ _ _ (by decide)]; exact e3
          have e45 : B2.eval (.tmp 45) = .pointer (some ⟨ga, 0, none⟩) := by rw [hB2, eval_put_ne _ _ _ _ (by decide)]; exact e45
          have e48 : B2.eval (.tmp 48) = .pointer (some ⟨gb, 0, none⟩) := by rw [hB2, eval_put_ne _ _ _ _ (by decide)]; exact e48
          have e49 : B2.eval (.tmp 49) = .agg CB.toArray := by rw [hB2, eval_put_ne _ _ _ _ (by decide)]; exact e49
          have e46 : B2.eval (.tmp 46) = .agg CA.toArray := by rw [hB2, eval_put_eq _ _ _ (by omega)]
          have esz : B2.tmps.size = 50 := by rw [hB2, size_put]; exact esz
          have edf : B2.defers = [] := by rw [hB2]; exact edf
          clear hB2
          refine wpAny_ready (rs := [6]) (by kernel_rfl) (by simp) (AllReady.cons (o := { dst := none, op := .store 70 (.tmp 2) (.tmp 46), type := 0, pos := _, after := _, guard := none }) (by rfl) (fun K hK => ?_) AllReady.nil)
          refine step_store_seg (by rfl) 70 (.tmp 2) (.tmp 46) (by rfl) (g := w.heap.size) (off := 0) (cs := CA) e2 e46 hS2 HIA.out HLZA.out HOA.out ?_
          refine hK _ _ ?_
          clear hK K
          rw [HSA.out]
          have hRb6 := hRb.row_far (k := w.heap.size) CA.toArray (by omega)
          have hRa6 := hRa.row_far (k := w.heap.size) CA.toArray (by omega)
          have hS36 := hS3.row_far (k := w.heap.size) CA.toArray (by omega)
          have hS26 := hS2.row CA
          have hb6 := below_setRow hbd (Nat.le_refl w.heap.size) CA.toArray
          generalize wd.setRow w.heap.size CA.toArray = we at *
          change wpAny _ _ _ _ _ _ B2 we
          have e45 := e45; have e48 := e48
          refine wpAny_ready (rs := [7]) (by kernel_rfl) (by simp) (AllReady.cons (o := { dst := none, op := .store 70 (.tmp 3) (.tmp 49), type := 0, pos := _, after := _, guard := none }) (by rfl) (fun K hK => ?_) AllReady.nil)
          refine step_store_seg (by rfl) 70 (.tmp 3) (.tmp 49) (by rfl) (g := g3) (off := 0) (cs := CB) e3 e49 hS36 HIB.out HLZB.out HOB.out ?_
          refine hK _ _ ?_
          clear hK K
          rw [HSB.out]
          have hS37 := hS36.row CB
          have hS27 := hS26.row_far (k := g3) CB.toArray (by omega)
          have hb7 := below_setRow hb6 (show w.heap.size ≤ g3 by omega) CB.toArray
          generalize we.setRow g3 CB.toArray = wf at *
          refine wpAny_done (by kernel_rfl) ?_ _
          go_wp2
          exact bodyPost_ret (keyed_end _ wf w.heap.size g3 CA CB e2 e3 hS27 hS37 HCLA.out HCLB.out) edf (HKEYED.out _ hb7)
end Go.Proofs.YtmkifaddfnodhaaDoor
