/- Mac, walked. -/
import Derived.Test.YtkhfelfdgpfjkaaDoorHashKeyed
namespace Go.Proofs.YtkhfelfdgpfjkaaDoor
open Go.RowKit
theorem zHash_two (w : World) : Blk ((w.alloc (.cells Tryd.zeroCells71 71)).alloc (.cells Tryd.zeroCells71 71)) w.heap.size 71 zHash ∧
    Blk ((w.alloc (.cells Tryd.zeroCells71 71)).alloc (.cells Tryd.zeroCells71 71)) (w.heap.size + 1) 71 zHash := by
  refine ⟨(zHash_new w).alloc _, ?_⟩
  have h := zHash_new (w.alloc (.cells Tryd.zeroCells71 71))
  rwa [show (w.alloc (.cells Tryd.zeroCells71 71)).heap.size = w.heap.size + 1 by simp] at h
set_option maxHeartbeats 4000000 in
set_option maxRecDepth 100000 in
theorem mac_any (key msg : ByteArray) (w : World) (hk : key.size ≤ 281474976710656) (hm : msg.size ≤ 281474976710656) (ht : PTabs w) :
    Calls Tryd.prog 25 #[.string key, .string msg] w fun e w' => e = .returned (.string (strOf (USha.hmac (bytesOf key) (bytesOf msg)))) ∧ Below w.heap.size w w' := by
  have HT := Lib.hid ht
  have HK := Lib.hid (keyed_any key w hk ht)
  have hkl := USha.keyOf_length (bytesOf key)
  have HRES : Hid (USha.hmac (bytesOf key) (bytesOf msg) = USha.sha (USha.kpad (USha.keyOf (bytesOf key)) 92#8 ++ USha.sha (USha.kpad (USha.keyOf (bytesOf key)) 54#8 ++ bytesOf msg))) := Lib.hid rfl
  have hp1 := USha.kpad_length (USha.keyOf (bytesOf key)) 54#8 hkl
  have hp2 := USha.kpad_length (USha.keyOf (bytesOf key)) 92#8 hkl
  have HP1 := Lib.hid hp1
  have HP2 := Lib.hid hp2
  clear ht hkl hp1 hp2
  go_enter Tryd.func25, Tryd.ntmps25
  go_upto_region 2 with (first
    | (go_at_call 37; (with_reducible refine HK.out.mono ?_); rintro e w1 ⟨v1, v2, r1, r2, h1, h2, rfl, hH1, hH2, hb1⟩; have hZ := zHash_two w1; have hb2 : Below w.heap.size w ((w1.alloc (.cells Tryd.zeroCells71 71)).alloc (.cells Tryd.zeroCells71 71)) := (hb1.alloc hb1.size _).alloc (by have := hb1.size; simp; omega) _; have HS : Hid (∀ w', Below w.heap.size w w' → Calls Tryd.prog 38 #[.agg (hc v1 r1 (h1 : Nat) 64).toArray, .agg (hc v2 r2 (h2 : Nat) 64).toArray, .string msg] w' fun e w2 => e = .returned (.string (strOf (USha.hmac (bytesOf key) (bytesOf msg)))) ∧ Below w'.heap.size w' w2) := Lib.hid (fun w' h => by have hc := signed_any v1 v2 r1 r2 h1 h2 _ _ msg w' hH1 hH2 hm (by rw [HP1.out]; omega) (by rw [HP2.out]; omega) (HT.out.below h); rw [HP1.out, HP2.out, ← HRES.out] at hc; exact hc); have HCLA : Hid ((hc v1 r1 (h1 : Nat) 64).length = 74) := Lib.hid (hc_length _ _ _ _ hH1.len); have HCLB : Hid ((hc v2 r2 (h2 : Nat) 64).length = 74) := Lib.hid (hc_length _ _ _ _ hH2.len); have HOA := Lib.hid (hc_one v1 r1 (h1 : Nat) 64); have HOB := Lib.hid (hc_one v2 r2 (h2 : Nat) 64); clear hH1 hH2 HK; generalize hc v1 r1 (h1 : Nat) 64 = CA at *; generalize hc v2 r2 (h2 : Nat) 64 = CB at *; have HIA : Hid ((Tryd.prog.info? 71).map (·.size) = some CA.length) := Lib.hid (by rw [HCLA.out]; kernel_rfl); have HIB : Hid ((Tryd.prog.info? 71).map (·.size) = some CB.length) := Lib.hid (by rw [HCLB.out]; kernel_rfl); have HLZA : Hid (0 + CA.length ≤ zHash.length) := Lib.hid (by rw [HCLA.out, zHash_length]; omega); have HLZB : Hid (0 + CB.length ≤ zHash.length) := Lib.hid (by rw [HCLB.out, zHash_length]; omega); have HSA : Hid (seg zHash 0 CA = CA) := Lib.hid (seg_all _ _ (by rw [zHash_length, HCLA.out])); have HSB : Hid (seg zHash 0 CB = CB) := Lib.hid (seg_all _ _ (by rw [zHash_length, HCLB.out])); have HLA : Hid (0 + 74 ≤ CA.length) := Lib.hid (by rw [HCLA.out]; omega); have HLB : Hid (0 + 74 ≤ CB.length) := Lib.hid (by rw [HCLB.out]; omega); have HAA : Hid ((CA.drop 0).take 74 = CA) := Lib.hid (by rw [List.drop_zero]; exact List.take_of_length_le (by rw [HCLA.out]; omega)); have HAB : Hid ((CB.drop 0).take 74 = CB) := Lib.hid (by rw [List.drop_zero]; exact List.take_of_length_le (by rw [HCLB.out]; omega)); have hle := hb1.size; obtain ⟨hZ5, hZ6⟩ := hZ)
    | (refine wpList_store_seg (off := 0) (cs := CA) (by rfl) 71 (.tmp 5) (.tmp 10) (by rfl) (by rfl) (by rfl) hZ5 HIA.out HLZA.out HOA.out ?_; rw [HSA.out]; have hA5 := hZ5.row CA; have hZ6' := hZ6.row_far (k := w1.heap.size) CA.toArray (by omega); have hb3 := below_setRow hb2 hle CA.toArray; generalize ((w1.alloc (.cells Tryd.zeroCells71 71)).alloc (.cells Tryd.zeroCells71 71)).setRow w1.heap.size CA.toArray = w3 at *)
    | (refine wpList_store_seg (off := 0) (cs := CB) (by rfl) 71 (.tmp 6) (.tmp 11) (by rfl) (by rfl) (by rfl) hZ6' HIB.out HLZB.out HOB.out ?_; rw [HSB.out]; have hB6 := hZ6'.row CB; have hA6 := hA5.row_far (k := w1.heap.size + 1) CB.toArray (by omega); have hb4 := below_setRow hb3 (show w.heap.size ≤ w1.heap.size + 1 by omega) CB.toArray; generalize w3.setRow (w1.heap.size + 1) CB.toArray = w4 at *))
  have HSG := Lib.hid (HS.out w4 hb4)
  go_wp2_with (first
    | (refine wpList_load_seg (off := 0) (n := 74) (by rfl) 71 (.tmp 5) (by rfl) (by rfl) hA6 _ Tryd.underlying71 rfl (by kernel_rfl) HLA.out ?_; rw [HAA.out])
    | (refine wpList_load_seg (off := 0) (n := 74) (by rfl) 71 (.tmp 6) (by rfl) (by rfl) hB6 _ Tryd.underlying71 rfl (by kernel_rfl) HLB.out ?_; rw [HAB.out])
    | (go_at_call 38; (with_reducible refine HSG.out.mono ?_); rintro e w5 ⟨rfl, hb5⟩))
  go_ret
  exact ⟨rfl, hb4.trans (hb5.mono hb4.size)⟩
end Go.Proofs.YtkhfelfdgpfjkaaDoor
