/- Fresh, walked. -/
import Derived.Test.YtmmniapkajbdhaaDoorSrcPush
import Derived.Test.YtmmniapkajbdhaaDoorRadixUrlP
namespace Go.Proofs.YtmmniapkajbdhaaDoor
open Go.RowKit
/-- all blocks but those are as they were; new ones may be there -/
structure Keeps (l : List Nat) (w w' : World) : Prop where
  os : w'.os = w.os
  tape : w'.tape = w.tape
  output : w'.output = w.output
  size : w.heap.size ≤ w'.heap.size
  block : ∀ k, k < w.heap.size → k ∉ l → w'.heap[k]? = w.heap[k]?
theorem Keeps.refl (l : List Nat) (w : World) : Keeps l w w := ⟨rfl, rfl, rfl, Nat.le_refl _, fun _ _ _ => rfl⟩
theorem Keeps.trans {l : List Nat} {a b c : World} (h : Keeps l a b) (k : Keeps l b c) : Keeps l a c :=
  ⟨k.os.trans h.os, k.tape.trans h.tape, k.output.trans h.output, Nat.le_trans h.size k.size, fun i hi hg => (k.block i (Nat.lt_of_lt_of_le hi h.size) hg).trans (h.block i hi hg)⟩
theorem Keeps.more {l m : List Nat} {a b : World} (h : Keeps l a b) (hl : ∀ k ∈ l, k ∈ m) : Keeps m a b := ⟨h.os, h.tape, h.output, h.size, fun k hk hm => h.block k hk (fun hh => hm (hl k hh))⟩
theorem Keeps.of_below {l : List Nat} {a b : World} (h : Below a.heap.size a b) : Keeps l a b := ⟨h.os, h.tape, h.output, h.size, fun k hk _ => h.block k hk⟩
theorem Keeps.below {l : List Nat} {B : Nat} {a b : World} (h : Keeps l a b) (hB : B ≤ a.heap.size) (hl : ∀ k ∈ l, B ≤ k) : Below B a b := ⟨h.os, h.tape, h.output, h.size, fun k hk => h.block k (by omega) (fun hm => by have := hl k hm; omega)⟩
theorem Keeps.blk {l : List Nat} {a b : World} (h : Keeps l a b) {k : Nat} {t : TypeId} {cs : List Value} (hb : Blk a k t cs) (hk : k ∉ l) : Blk b k t cs := by
  have := hb.lt
  unfold Blk at *
  rw [h.block k this hk]; exact hb
theorem Keeps.setCell {l : List Nat} (w : World) {g : Nat} (i : Nat) (v : Value) (hg : g ∈ l) : Keeps l w (w.setCell ⟨g, i, none⟩ v) :=
  ⟨rfl, rfl, rfl, by simp [World.setCell], fun k _ hk => Below.heap_setCell w ⟨g, i, none⟩ v k (fun e => hk (by subst e; exact hg))⟩
/-- the identifier of a draw -/
def idOf (d : List (BitVec 8)) : ByteArray := strOf (URadix.wr URadix.urlA d)
theorem url_draw (d : List (BitVec 8)) (hd : d.length = 32) (w : World) : Calls Tryd.prog 27 #[.string (strOf d)] w fun e w' => e = .returned (.string (idOf d)) ∧ Below w.heap.size w w' := by
  have h := url_prog (strOf d) w (by rw [strOf_size]; omega)
  rw [bytesOf_strOf] at h
  exact h
theorem fresh_dry {E : Nat → Addr} {w : World} {B g : Nat} {ba : Option Addr} {cap : Nat} (fv : Value) (hS : Src w B g ba cap []) (hE : Errs w E) :
    Calls Tryd.prog 19 #[.pointer (some ⟨g, 0, none⟩), fv] w fun e w' => e = .returned (.tuple #[.string { data := #[] }, .iface 80 (.pointer (some (E 6)))]) ∧ Below w.heap.size w w' := by
  have c0 : w.cell? ⟨g, 0, none⟩ = some (.slice ba 0 cap) := hS.blk.cell 0
  have c1 := hE.v6
  have hb := Below.refl w.heap.size w
  clear hS hE
  go_enter Tryd.func19, Tryd.ntmps19
  go_wp2
  refine wp_region_still_lit (by kernel_rfl) (by kernel_rfl) ?_
  repeat still_step
  refine wpStill_nil ?_
  change Exit.then _ _ _ _ w.drew
  have hbq := hb.drew
  generalize w.drew = wq at *
  clear c0 c1
  go_wp2
  go_ret2
  exact ⟨rfl, hbq⟩
/-- behind the draw: the source's line is L', and the function has been asked -/
def Asked (R : World → World → Prop) (w w' : World) (B g : Nat) (L' : List (List (BitVec 8))) : Prop := ∃ w5 w6 ba' cap', Src w5 B g ba' cap' L' ∧ Keeps [g] w w5 ∧ R w5 w6 ∧ (w' = w6 ∨ w' = w6.drew)
theorem row_block {w : World} {B g : Nat} {ba : Option Addr} {cap : Nat} {L : List (List (BitVec 8))} {d : List (BitVec 8)} (hS : Src w B g ba cap (d :: L)) : ∃ gr cur, ba = some ⟨gr, 0, none⟩ ∧ gr < w.heap.size ∧ w.heap[gr]? = some (.cells cur 65 (0, 0)) ∧ L.length + 1 ≤ cap ∧ cur.size = cap * 32 ∧ cur.toList.take ((L.length + 1) * 32) = u8s d ++ dcells L := by
  rcases hS.own.2 with ⟨_, h0⟩ | ⟨g', cap', cur, hv, _, hh, hn, _, hc, ht⟩
  · simp at h0
  · injection hv with h1 h2 h3
    subst h1 h3
    refine ⟨g', cur, rfl, (hS.row g' rfl).2.1, hh, by simpa using hn, hc, ?_⟩
    rw [← dcells_cons]
    exact ht
theorem fresh_one {w : World} {B g cap : Nat} {ba : Option Addr} {d : List (BitVec 8)} (hS : Src w B g ba cap [d]) :
    Blk ((w.setCell ⟨g, 0, none⟩ (.slice none 0 0)).alloc (.cells (u8s d).toArray 65)) w.heap.size 65 (u8s d) ∧ Src ((w.setCell ⟨g, 0, none⟩ (.slice none 0 0)).alloc (.cells (u8s d).toArray 65)) B g none 0 [] ∧ Keeps [g] w ((w.setCell ⟨g, 0, none⟩ (.slice none 0 0)).alloc (.cells (u8s d).toArray 65)) := by
  have hz : (w.setCell ⟨g, 0, none⟩ (.slice none 0 0)).heap.size = w.heap.size := by simp [World.setCell]
  have hb := Blk.new (w.setCell ⟨g, 0, none⟩ (.slice none 0 0)) 65 (u8s d)
  rw [hz] at hb
  refine ⟨hb, ⟨(hS.blk.set 0 (.slice none 0 0)).alloc _, World.ownsRow_nil _ _ _ _, fun d hd => by cases hd⟩, (Keeps.setCell w 0 _ (by simp)).trans (Keeps.of_below ((Below.refl _ _).alloc (Nat.le_refl _) _))⟩
theorem own_form {w : World} {B : Nat} {e : TypeId} {size n : Nat} {v : Value} {xs : List Value} (h : w.ownsRow B e size v n xs) : ∃ ba cap, v = .slice ba n cap := by
  rcases h.2 with ⟨rfl, rfl⟩ | ⟨g, cap, _, rfl, _⟩
  · exact ⟨none, 0, rfl⟩
  · exact ⟨_, cap, rfl⟩
theorem fresh_mid {w w2 : World} {B g cap cap2 : Nat} {ba ba2 : Option Addr} {L : List (List (BitVec 8))} {d : List (BitVec 8)} (hS : Src w B g ba cap (d :: L)) (hown2 : w2.ownsRow B 65 32 (.slice ba2 L.length cap2) L.length (dcells L))
    (hgrow : (w.alloc (.cells (u8s d).toArray 65)).grownBy w2 none) (hat : ba2.map (·.block) = none ∨ ba2.map (·.block) = some (w.heap.size + 1)) :
    w2.cell? ⟨g, 0, none⟩ = some (.slice ba (L.length + 1) cap) ∧ w2.frozen? ⟨g, 0, none⟩ = false ∧ Blk (w2.setCell ⟨g, 0, none⟩ (.slice ba2 L.length cap2)) w.heap.size 65 (u8s d) ∧
      Src (w2.setCell ⟨g, 0, none⟩ (.slice ba2 L.length cap2)) B g ba2 cap2 L ∧ Keeps [g] w (w2.setCell ⟨g, 0, none⟩ (.slice ba2 L.length cap2)) := by
  have glt := hS.lt
  have hal : ∀ k, k < w.heap.size → (w.alloc (.cells (u8s d).toArray 65)).heap[k]? = w.heap[k]? := fun k hk => Below.heap_alloc w _ k hk
  have hsz : (w.alloc (.cells (u8s d).toArray 65)).heap.size = w.heap.size + 1 := by simp
  have hB2 : Blk w2 g 61 [.slice ba (L.length + 1) cap] := by
    have hb := hS.blk
    unfold Blk at *
    rw [hgrow.block g (by rw [hsz]; omega) (by simp), hal g glt]
    exact hb
  have hW : Blk w2 w.heap.size 65 (u8s d) := by
    have hb := Blk.new w 65 (u8s d)
    unfold Blk at *
    rw [hgrow.block w.heap.size (by rw [hsz]; omega) (by simp)]
    exact hb
  refine ⟨hB2.cell 0, hB2.frozen 0, hW.far _ _ (by show w.heap.size ≠ g; omega), ⟨hB2.set 0 _, ?_, fun x hx => hS.len x (List.mem_cons_of_mem _ hx)⟩, ⟨hgrow.os, hgrow.tape, hgrow.output, ?_, ?_⟩⟩
  · refine ownsRow_setCell_other hown2 ?_ _
    rw [own_block]
    intro e
    rcases hat with h | h <;> rw [h] at e
    · cases e
    · injection e with e
      have : w.heap.size + 1 = g := e
      omega
  · have := hgrow.size
    rw [hsz] at this
    simp [World.setCell]
    omega
  · intro k hk hkg
    rw [Below.heap_setCell w2 ⟨g, 0, none⟩ _ k (by simpa using hkg), hgrow.block k (by rw [hsz]; omega) (by simp), hal k hk]
set_option maxRecDepth 100000 in
set_option maxHeartbeats 4000000 in
theorem fresh_ask {E : Nat → Addr} {R : World → World → Prop} (a1 a2 a3 a4 a5 : Addr) (y : Bool) {w : World} {B g : Nat} {ba : Option Addr} {cap : Nat} {L : List (List (BitVec 8))} {d : List (BitVec 8)} (hS : Src w B g ba cap (d :: L)) (hL : L.length < 1024) (hB : B ≤ w.heap.size)
    (HK : Hid (∀ w' ba' cap', Src w' B g ba' cap' L → Keeps [g] w w' → Calls Tryd.prog 24 #[.string (idOf d), .pointer (some a1), .pointer (some a2), .pointer (some a3), .pointer (some a4), .pointer (some a5)] w' fun e w2 => e = .returned (.bool y) ∧ R w' w2))
    (HR : Hid (∀ w5 w6, Keeps [g] w w5 → R w5 w6 → Errs w6 E)) :
    Calls Tryd.prog 19 #[.pointer (some ⟨g, 0, none⟩), .func (.func 24) #[] #[.pointer (some a1), .pointer (some a2), .pointer (some a3), .pointer (some a4), .pointer (some a5)]] w fun e w' => e = .returned (if y then .tuple #[.string { data := #[] }, .iface 80 (.pointer (some (E 7)))] else .tuple #[.string (idOf d), .nilIface]) ∧ Asked R w w' B g L := by
  obtain ⟨gr, cur, rfl, hgr, hh, hnc, hcz, hct⟩ := row_block hS
  have HS := Lib.hid hS
  have dl : d.length = 32 := hS.len d (by simp)
  have ul : (u8s d).length = 32 := by rw [u8s_length, dl]
  have c0 : w.cell? ⟨g, 0, none⟩ = some (.slice (some ⟨gr, 0, none⟩) (L.length + 1) cap) := hS.blk.cell 0
  have hcells : ∀ j v, (u8s d)[j]? = some v → w.cell? ⟨gr, 0 + j, none⟩ = some v := fun j v hv => by
    have h := hS.own.cells (g := gr) rfl j v (by rw [dcells_cons, List.getElem?_append_left (List.getElem?_eq_some_iff.1 hv).1]; exact hv)
    rw [Nat.zero_add]
    have hadd : (⟨gr, 0, none⟩ : Addr).add j = ⟨gr, j, none⟩ := by unfold Addr.add; split <;> simp_all
    rwa [hadd] at h
  have HC := Lib.hid hcells
  have hi2 : (Tryd.prog.info? 65).map (·.size) = some (u8s d).length := by rw [ul]; kernel_rfl
  have HI := Lib.hid hi2
  have HUL := Lib.hid ul
  have HU1 := Lib.hid (u8s_one d)
  have glt := hS.lt
  have hbw : Below w.heap.size w (w.alloc (.cells (u8s d).toArray 65)) := (Below.refl _ _).alloc (Nat.le_refl _) _
  have c1 : (w.alloc (.cells (u8s d).toArray 65)).cell? ⟨g, 0, none⟩ = some (.slice (some ⟨gr, 0, none⟩) (L.length + 1) cap) := cell_below c0 hbw
  obtain ⟨n, hn⟩ : ∃ n, n = L.length := ⟨_, rfl⟩
  rw [← hn] at hL hnc c0 c1
  have HN := Lib.hid hn
  have j0 : (0 : Int) < (n : Int) + 1 := by omega
  have j1 : (0 : Nat) < n + 1 := by omega
  have jc : (1 : Int) ≤ (cap : Int) := by omega
  have jd : ((n : Int) + 1 == 0) = false := by rw [beq_eq_false_iff_ne]; omega
  clear hS hcells hi2 ul hn hh hct hcz
  obtain ⟨i0, hi, hz0, hz1, hz2⟩ := info_parts infoW
  have f0 : w.frozen? ⟨g, 0, none⟩ = false := HS.out.blk.frozen 0
  have hnf : ∀ W0, (binOp .neq 26 (.func (.func 24) #[] #[.pointer (some a1), .pointer (some a2), .pointer (some a3), .pointer (some a4), .pointer (some a5)]) .nilFunc).run Tryd.prog W0 = .ok (.bool true) W0 := fun _ => by kernel_rfl
  by_cases hcap : cap = 1
  · obtain rfl : n = 0 := by omega
    subst hcap
    have hL0 : L = [] := List.eq_nil_of_length_eq_zero HN.out.symm
    subst hL0
    obtain ⟨hWb, hS3, hk3⟩ := fresh_one HS.out
    have hcv := conv_blk32 hWb dl
    have HS3 := Lib.hid hS3
    have HK3 := Lib.hid hk3
    clear hWb hS3 hk3
    cases y
    all_goals
      go_enter Tryd.func19, Tryd.ntmps19
      go_wp2_with (first
        | (refine wpList_load_cells (by rfl) 65 (.tmp 19) (by rfl) (u8s d) (by rfl) HC.out _ Tryd.underlying65 rfl HI.out ?_)
        | (refine wpList_store_new 65 (.tmp 6) (.tmp 20) (u8s d) (by rfl) (by rfl) (by rfl) (by rfl) HI.out (by rw [HUL.out]; rfl) HU1.out ?_)
        | (go_at_call 27; (with_reducible refine (url_draw d dl _).mono ?_); rintro e w5 ⟨rfl, hb5⟩; have HS5 := Lib.hid (HS3.out.below hb5); have HK5 := Lib.hid (HK3.out.trans (Keeps.of_below hb5)))
        | (go_at_call 24; (with_reducible refine (HK.out _ _ _ HS5.out HK5.out).mono ?_); rintro e w6 ⟨rfl, hR6⟩))
      first
        | (go_ret2
           exact ⟨by simp, _, _, _, _, HS5.out, HK5.out, hR6, .inl rfl⟩)
        | (have HE6 := HR.out _ _ HK5.out hR6
           have ce := HE6.v7
           refine wp_region_still_lit (by kernel_rfl) (by kernel_rfl) ?_
           repeat still_step
           refine wpStill_nil ?_
           change Exit.then _ _ _ _ w6.drew
           obtain ⟨wq, hq⟩ : ∃ wq, wq = w6.drew := ⟨_, rfl⟩
           rw [← hq]
           have HQ := Lib.hid hq
           clear ce hq
           go_wp2
           go_ret2
           exact ⟨by simp, _, _, _, _, HS5.out, HK5.out, hR6, .inr HQ.out⟩)
  · have hrd : Reads (w.alloc (.cells (u8s d).toArray 65)) w.heap.size 32 (some ⟨gr, 32, none⟩) n (dcells L) := by
      rw [HN.out]
      have h1 := HS.out.own.1
      rw [dcells_cons, List.length_append, HUL.out] at h1
      refine ⟨by rw [List.length_cons] at h1; omega, fun _ => ⟨_, rfl, hgr, fun j u hj => ?_⟩⟩
      have h2 := HS.out.own.cells (g := gr) rfl (32 + j) u (by rw [dcells_cons, List.getElem?_append_right (by rw [HUL.out]; omega), HUL.out, show 32 + j - 32 = j by omega]; exact hj)
      have a1 : (⟨gr, 0, none⟩ : Addr).add (32 + j) = ⟨gr, 32 + j, none⟩ := by unfold Addr.add; split <;> simp_all
      have a2 : (⟨gr, 32, none⟩ : Addr).add j = ⟨gr, 32 + j, none⟩ := by unfold Addr.add; split <;> simp_all
      rw [a1] at h2
      rw [a2]
      exact cell_below h2 hbw
    have HRD := Lib.hid hrd
    clear hrd
    cases y
    all_goals
      go_enter Tryd.func19, Tryd.ntmps19
      go_wp2_with (first
        | (refine wpList_load_cells (by rfl) 65 (.tmp 19) (by rfl) (u8s d) (by rfl) HC.out _ Tryd.underlying65 rfl HI.out ?_)
        | (refine wpList_store_new 65 (.tmp 6) (.tmp 20) (u8s d) (by rfl) (by rfl) (by rfl) (by rfl) HI.out (by rw [HUL.out]; rfl) HU1.out ?_)
        | (at_builtin; refine wpList_append_any _ (by rfl) (.const (.slice none 0 0)) (.tmp 26) 59 (by rfl) B 65 i0 _ 32 32 Tryd.underlying59 hi hz0 hz1 hz2 rfl (by omega) (.slice none 0 0) 0 [] (by rfl) (World.ownsRow_nil _ _ _ _) w.heap.size (some ⟨gr, 32, none⟩) n (cap - 1) (dcells L) (by rfl) HRD.out (dcells_one L) (by unfold maxLen; omega) (by omega) (by simp; omega) ?_; intro v2 w2 hown2 hgrow hat; rw [Nat.zero_add, List.nil_append] at hown2; obtain ⟨ba2, cap2, rfl⟩ := own_form hown2; rw [HN.out] at hown2; obtain ⟨c2, f2, hWb, hS3, hk3⟩ := fresh_mid HS.out hown2 hgrow (by rw [own_block, own_block] at hat; simpa using hat); rw [← HN.out] at c2 hWb hS3 hk3; have hcv := conv_blk32 hWb dl; have HS3 := Lib.hid hS3; have HK3 := Lib.hid hk3; clear hWb hS3 hk3 hown2 hgrow hat)
        | (go_at_call 27; (with_reducible refine (url_draw d dl _).mono ?_); rintro e w5 ⟨rfl, hb5⟩; have HS5 := Lib.hid (HS3.out.below hb5); have HK5 := Lib.hid (HK3.out.trans (Keeps.of_below hb5)))
        | (go_at_call 24; (with_reducible refine (HK.out _ _ _ HS5.out HK5.out).mono ?_); rintro e w6 ⟨rfl, hR6⟩))
      first
        | (go_ret2
           exact ⟨by simp, _, _, _, _, HS5.out, HK5.out, hR6, .inl rfl⟩)
        | (have HE6 := HR.out _ _ HK5.out hR6
           have ce := HE6.v7
           refine wp_region_still_lit (by kernel_rfl) (by kernel_rfl) ?_
           repeat still_step
           refine wpStill_nil ?_
           change Exit.then _ _ _ _ w6.drew
           obtain ⟨wq, hq⟩ : ∃ wq, wq = w6.drew := ⟨_, rfl⟩
           rw [← hq]
           have HQ := Lib.hid hq
           clear ce hq
           go_wp2
           go_ret2
           exact ⟨by simp, _, _, _, _, HS5.out, HK5.out, hR6, .inr HQ.out⟩)
end Go.Proofs.YtmmniapkajbdhaaDoor
