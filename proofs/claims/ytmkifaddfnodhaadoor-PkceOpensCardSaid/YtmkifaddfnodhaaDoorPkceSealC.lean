/- Seal, both ways. -/
import Derived.Test.YtmkifaddfnodhaaDoorStretch
import Derived.Test.YtmkifaddfnodhaaDoorStretchRef
import Derived.Test.YtmkifaddfnodhaaDoorSame
import Derived.Lib.SlicesS
import Derived.StillTailTactics
import Derived.RegionTactic
import Derived.BigRegion
namespace Go.Proofs.YtmkifaddfnodhaaDoor
open Go.RowKit
/-- the stretched password of so many rounds -/
def stre (p s : ByteArray) (n : Nat) : ByteArray := strOf (USha.stT (bytesOf p) (bytesOf s) n)
theorem stre_size (p s : ByteArray) (n : Nat) : (stre p s n).size = 32 := by unfold stre; rw [strOf_size, USha.stT_len]
theorem empty_of_size (s : ByteArray) (h : s.size = 0) : s = { data := #[] } := ByteArray.ext (Array.eq_empty_of_size_eq_zero h)
theorem ne_empty (s : ByteArray) (h : s.size ≠ 0) : s.toList.isEmpty = false := by
  have h1 := (Lib.bytes_beq_false_iff s { data := #[] }).2 (fun e => h (by rw [e]; rfl))
  rw [show ({ data := #[] } : ByteArray).toList = [] from by decide +kernel] at h1
  cases hh : s.toList with
  | nil => rw [hh] at h1; cases h1
  | cons _ _ => rfl
theorem results_cell_tmp {fn : Func} {p q : Tmp} {ty : TypeId} (h : fn.results = #[.cell p ty, .tmp q]) (tmps : Array Value) (P : Program) (w : World) :
    (results fn tmps).run P w = ((asAddr (tmps.getD p undef)).run P w).andThen fun a w₁ => ((loadVar ty a).run P w₁).andThen fun v w₂ => .ok (.tuple #[v, tmps.getD q undef]) w₂ := by
  simp only [results, h]
  simp [Sem.run_bind, Result.andThen]
  repeat (first | rfl | split)
theorem seal_end {fn : Func} (hf : fn.results = #[.cell 6 32, .tmp 7]) (B : Act) (w : World) (g : Nat) (s d : ByteArray) (V : Value) (e6 : B.eval (.tmp 6) = .pointer (some ⟨g, 0, none⟩)) (e7 : B.eval (.tmp 7) = V)
    (hB : Blk w g 32 [.string s, .string d]) : (results fn B.tmps).run Tryd.prog w = .ok (.tuple #[.agg #[.string s, .string d], V]) w := by
  rw [results_cell_tmp hf]
  have e6' : B.tmps.getD 6 undef = .pointer (some ⟨g, 0, none⟩) := by simpa [Act.eval] using e6
  have e7' : B.tmps.getD 7 undef = V := by simpa [Act.eval] using e7
  have l := run_loadVar_seg (P := Tryd.prog) hB 32 0 2 _ Tryd.underlying32 rfl (by kernel_rfl) (Nat.le_refl 2)
  rw [e6', e7']
  simp [asAddr, Result.andThen, l]
theorem sec_new (w : World) : Blk (w.alloc (.cells #[.string { data := #[] }, .string { data := #[] }] 32)) w.heap.size 32 [.string { data := #[] }, .string { data := #[] }] := Blk.new w _ _
theorem seg_sec (a b c d : ByteArray) : seg [.string a, .string b] 0 [.string c, .string d] = [.string c, .string d] := rfl
set_option maxHeartbeats 1000000 in
theorem seal_no (p s : ByteArray) (r : Int) (w : World) (t : TypeId) (a : Addr) (hE : ErrArg w t a) (h : s.size = 0 ∨ 64 < s.size ∨ r < 1 ∨ 1000 < r) :
    Calls Tryd.prog 18 #[.string p, .string s, .int .i64 r] w fun e w' => e = .returned (.tuple #[.agg #[.string { data := #[] }, .string { data := #[] }], .iface t (.pointer (some a))]) ∧ Below w.heap.size w w' := by
  have b0 := Below.refl w.heap.size w
  have b1 := b0.alloc (Nat.le_refl _) (.cells #[.string { data := #[] }, .string { data := #[] }] 32)
  have hZ := sec_new w
  have HE := Lib.hid hE
  have hc := hE.below b1
  unfold ErrArg at hc
  by_cases h0 : s.size = 0
  · obtain rfl := empty_of_size s h0
    clear hE h
    go_enter Tryd.func18, Tryd.ntmps18
    go_wp2
    go_region
    go_wp2
    refine bodyPost_ret (seal_end Tryd.results18 _ _ w.heap.size { data := #[] } { data := #[] } (.iface t (.pointer (some a))) (by rfl) (by rfl) hZ.drew) rfl ⟨rfl, b1.drew⟩
  · have hl := ne_empty s h0
    by_cases h1 : 64 < s.size
    · have hI : (64 : Int) < (s.size : Int) := by omega
      have dI : decide ((64 : Int) < (s.size : Int)) = true := decide_eq_true hI
      clear hE h
      go_enter Tryd.func18, Tryd.ntmps18
      go_wp2
      go_region
      go_wp2
      refine bodyPost_ret (seal_end Tryd.results18 _ _ w.heap.size { data := #[] } { data := #[] } (.iface t (.pointer (some a))) (by rfl) (by rfl) hZ.drew) rfl ⟨rfl, b1.drew⟩
    · have hr : r < 1 ∨ 1000 < r := by omega
      have hI : ¬ (64 : Int) < (s.size : Int) := by omega
      have dI : decide ((64 : Int) < (s.size : Int)) = false := decide_eq_false hI
      have HS := Lib.hid (stretch_no p s r (w.alloc (.cells #[.string { data := #[] }, .string { data := #[] }] 32)) t a (HE.out.below b1) hr)
      clear hE h hr hc
      go_enter Tryd.func18, Tryd.ntmps18
      go_wp2_with (first
        | (go_at_call 38; (with_reducible refine HS.out.mono ?_); rintro e w1 ⟨rfl, hb1⟩; have hZ1 := hZ.below hb1 (by simp); have b2 := b1.trans (hb1.mono b1.size); have g2 := hb1.size)
        | (refine wpList_store_seg (off := 0) (cs := [.string { data := #[] }, .string { data := #[] }]) (by rfl) 32 (.tmp 6) (.tmp 28) (by rfl) (by rfl) (by rfl) hZ1 (by kernel_rfl) (Nat.le_refl 2) (by intro v hv; simp at hv; rcases hv with rfl | rfl <;> rfl) ?_))
      have hb2 := below_setRow b2 (Nat.le_refl _) (seg [.string { data := #[] }, .string { data := #[] }] 0 [.string { data := #[] }, .string { data := #[] }]).toArray
      have hZ2 := hZ1.row (seg [.string { data := #[] }, .string { data := #[] }] 0 [.string { data := #[] }, .string { data := #[] }])
      try simp only [Exit.inBlock, Exit.then]
      refine bodyPost_ret (seal_end Tryd.results18 _ _ w.heap.size { data := #[] } { data := #[] } (.iface t (.pointer (some a))) (by rfl) (by rfl) hZ2) rfl ⟨rfl, hb2⟩
set_option maxHeartbeats 1000000 in
theorem seal_yes (p s : ByteArray) (n : Nat) (w : World) (hp : p.size ≤ 281474976710656) (h0 : s.size ≠ 0) (h1 : s.size ≤ 64) (hn : n < 1000) (ht : PTabs w) :
    Calls Tryd.prog 18 #[.string p, .string s, .int .i64 ((n : Int) + 1)] w fun e w' => e = .returned (.tuple #[.agg #[.string s, .string (stre p s n)], .nilIface]) ∧ Below w.heap.size w w' := by
  have b0 := Below.refl w.heap.size w
  have b1 := b0.alloc (Nat.le_refl _) (.cells #[.string { data := #[] }, .string { data := #[] }] 32)
  have hZ := sec_new w
  have hl := ne_empty s h0
  have hI : ¬ (64 : Int) < (s.size : Int) := by omega
  have dI : decide ((64 : Int) < (s.size : Int)) = false := decide_eq_false hI
  have HS : Hid (Calls Tryd.prog 38 #[.string p, .string s, .int .i64 ((n : Int) + 1)] (w.alloc (.cells #[.string { data := #[] }, .string { data := #[] }] 32)) fun e w' => e = .returned (.tuple #[.string (stre p s n), .nilIface]) ∧ Below (w.alloc (.cells #[.string { data := #[] }, .string { data := #[] }] 32)).heap.size (w.alloc (.cells #[.string { data := #[] }, .string { data := #[] }] 32)) w') := Lib.hid (stretch_yes p s n _ hp (by omega) hn (ht.below b1))
  generalize ((n : Int) + 1) = r at *
  generalize stre p s n = G at *
  clear ht
  go_enter Tryd.func18, Tryd.ntmps18
  go_wp2_with (first
    | (go_at_call 38; (with_reducible refine HS.out.mono ?_); rintro e w1 ⟨rfl, hb1⟩; have hZ1 := hZ.below hb1 (by simp); have b2 := b1.trans (hb1.mono b1.size))
    | (refine wpList_store_seg (off := 0) (cs := [.string s, .string G]) (by rfl) 32 (.tmp 6) (.tmp 32) (by rfl) (by rfl) (by rfl) hZ1 (by kernel_rfl) (Nat.le_refl 2) (by intro v hv; simp at hv; rcases hv with rfl | rfl <;> rfl) ?_))
  have hb2 := below_setRow b2 (Nat.le_refl _) (seg [.string { data := #[] }, .string { data := #[] }] 0 [.string s, .string G]).toArray
  have hZ2 := hZ1.row (seg [.string { data := #[] }, .string { data := #[] }] 0 [.string s, .string G])
  try simp only [Exit.inBlock, Exit.then]
  refine bodyPost_ret (seal_end Tryd.results18 _ _ w.heap.size s G .nilIface (by rfl) (by rfl) hZ2) rfl ⟨rfl, hb2⟩
set_option maxHeartbeats 1000000 in
theorem refSeal_no (p s : ByteArray) (r : Int) (w : World) (h : s.size = 0 ∨ 64 < s.size ∨ r < 1 ∨ 1000 < r) :
    Calls Tryd.prog 19 #[.string p, .string s, .int .i64 r] w fun e w' => e = .returned (.tuple #[.agg #[.string { data := #[] }, .string { data := #[] }], .int .i64 1]) ∧ Below w.heap.size w w' := by
  have b0 := Below.refl w.heap.size w
  have b1 := b0.alloc (Nat.le_refl _) (.cells #[.string { data := #[] }, .string { data := #[] }] 32)
  have hZ := sec_new w
  by_cases h0 : s.size = 0
  · obtain rfl := empty_of_size s h0
    clear h
    go_enter Tryd.func19, Tryd.ntmps19
    go_wp2_with (refine wpList_store_seg (off := 0) (cs := [.string { data := #[] }, .string { data := #[] }]) (by rfl) 32 (.tmp 6) (.tmp 17) (by rfl) (by rfl) (by rfl) hZ (by kernel_rfl) (by decide) (by intro v hv; simp at hv; rcases hv with rfl | rfl <;> rfl) ?_)
    have hb2 := below_setRow b1 (Nat.le_refl _) (seg [.string { data := #[] }, .string { data := #[] }] 0 [.string { data := #[] }, .string { data := #[] }]).toArray
    have hZ2 := hZ.row (seg [.string { data := #[] }, .string { data := #[] }] 0 [.string { data := #[] }, .string { data := #[] }])
    try simp only [Exit.inBlock, Exit.then]
    refine bodyPost_ret (seal_end Tryd.results19 _ _ w.heap.size { data := #[] } { data := #[] } (.int .i64 1) (by rfl) (by rfl) hZ2) rfl ⟨rfl, hb2⟩
  · have hl := ne_empty s h0
    by_cases h1 : 64 < s.size
    · have hI : (64 : Int) < (s.size : Int) := by omega
      have dI : decide ((64 : Int) < (s.size : Int)) = true := decide_eq_true hI
      clear h
      go_enter Tryd.func19, Tryd.ntmps19
      go_wp2_with (refine wpList_store_seg (off := 0) (cs := [.string { data := #[] }, .string { data := #[] }]) (by rfl) 32 (.tmp 6) (.tmp 17) (by rfl) (by rfl) (by rfl) hZ (by kernel_rfl) (by decide) (by intro v hv; simp at hv; rcases hv with rfl | rfl <;> rfl) ?_)
      have hb2 := below_setRow b1 (Nat.le_refl _) (seg [.string { data := #[] }, .string { data := #[] }] 0 [.string { data := #[] }, .string { data := #[] }]).toArray
      have hZ2 := hZ.row (seg [.string { data := #[] }, .string { data := #[] }] 0 [.string { data := #[] }, .string { data := #[] }])
      try simp only [Exit.inBlock, Exit.then]
      refine bodyPost_ret (seal_end Tryd.results19 _ _ w.heap.size { data := #[] } { data := #[] } (.int .i64 1) (by rfl) (by rfl) hZ2) rfl ⟨rfl, hb2⟩
    · have hr : r < 1 ∨ 1000 < r := by omega
      have hI : ¬ (64 : Int) < (s.size : Int) := by omega
      have dI : decide ((64 : Int) < (s.size : Int)) = false := decide_eq_false hI
      have HS := Lib.hid (refStretch_no p s r (w.alloc (.cells #[.string { data := #[] }, .string { data := #[] }] 32)) hr)
      clear h hr
      go_enter Tryd.func19, Tryd.ntmps19
      go_wp2_with (first
        | (go_at_call 39; (with_reducible refine HS.out.mono ?_); rintro e w1 ⟨rfl, hb1⟩; have hZ1 := hZ.below hb1 (by simp); have b2 := b1.trans (hb1.mono b1.size); have g2 := hb1.size)
        | (refine wpList_store_seg (off := 0) (cs := [.string { data := #[] }, .string { data := #[] }]) (by rfl) 32 (.tmp 6) (.tmp 27) (by rfl) (by rfl) (by rfl) hZ1 (by kernel_rfl) (Nat.le_refl 2) (by intro v hv; simp at hv; rcases hv with rfl | rfl <;> rfl) ?_))
      have hb2 := below_setRow b2 (Nat.le_refl _) (seg [.string { data := #[] }, .string { data := #[] }] 0 [.string { data := #[] }, .string { data := #[] }]).toArray
      have hZ2 := hZ1.row (seg [.string { data := #[] }, .string { data := #[] }] 0 [.string { data := #[] }, .string { data := #[] }])
      try simp only [Exit.inBlock, Exit.then]
      refine bodyPost_ret (seal_end Tryd.results19 _ _ w.heap.size { data := #[] } { data := #[] } (.int .i64 1) (by rfl) (by rfl) hZ2) rfl ⟨rfl, hb2⟩
set_option maxHeartbeats 1000000 in
theorem refSeal_yes (p s : ByteArray) (n : Nat) (w : World) (hp : p.size ≤ 140737488355328) (h0 : s.size ≠ 0) (h1 : s.size ≤ 64) (hn : n < 1000) (ht : ShaTabs w) :
    Calls Tryd.prog 19 #[.string p, .string s, .int .i64 ((n : Int) + 1)] w fun e w' => e = .returned (.tuple #[.agg #[.string s, .string (stre p s n)], .int .i64 0]) ∧ Below w.heap.size w w' := by
  have b0 := Below.refl w.heap.size w
  have b1 := b0.alloc (Nat.le_refl _) (.cells #[.string { data := #[] }, .string { data := #[] }] 32)
  have hZ := sec_new w
  have hl := ne_empty s h0
  have hI : ¬ (64 : Int) < (s.size : Int) := by omega
  have dI : decide ((64 : Int) < (s.size : Int)) = false := decide_eq_false hI
  have HS : Hid (Calls Tryd.prog 39 #[.string p, .string s, .int .i64 ((n : Int) + 1)] (w.alloc (.cells #[.string { data := #[] }, .string { data := #[] }] 32)) fun e w' => e = .returned (.tuple #[.string (stre p s n), .int .i64 0]) ∧ Below (w.alloc (.cells #[.string { data := #[] }, .string { data := #[] }] 32)).heap.size (w.alloc (.cells #[.string { data := #[] }, .string { data := #[] }] 32)) w') := Lib.hid (refStretch_yes p s n _ hp (by omega) hn (ht.below b1))
  generalize ((n : Int) + 1) = r at *
  generalize stre p s n = G at *
  clear ht
  go_enter Tryd.func19, Tryd.ntmps19
  go_wp2_with (first
    | (go_at_call 39; (with_reducible refine HS.out.mono ?_); rintro e w1 ⟨rfl, hb1⟩; have hZ1 := hZ.below hb1 (by simp); have b2 := b1.trans (hb1.mono b1.size))
    | (refine wpList_store_seg (off := 0) (cs := [.string s, .string G]) (by rfl) 32 (.tmp 6) (.tmp 31) (by rfl) (by rfl) (by rfl) hZ1 (by kernel_rfl) (Nat.le_refl 2) (by intro v hv; simp at hv; rcases hv with rfl | rfl <;> rfl) ?_))
  have hb2 := below_setRow b2 (Nat.le_refl _) (seg [.string { data := #[] }, .string { data := #[] }] 0 [.string s, .string G]).toArray
  have hZ2 := hZ1.row (seg [.string { data := #[] }, .string { data := #[] }] 0 [.string s, .string G])
  try simp only [Exit.inBlock, Exit.then]
  refine bodyPost_ret (seal_end Tryd.results19 _ _ w.heap.size s G (.int .i64 0) (by rfl) (by rfl) hZ2) rfl ⟨rfl, hb2⟩
end Go.Proofs.YtmkifaddfnodhaaDoor
