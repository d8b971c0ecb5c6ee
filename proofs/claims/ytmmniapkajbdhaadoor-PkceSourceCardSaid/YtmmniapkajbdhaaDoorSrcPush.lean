/- Push, walked. -/
import Derived.Test.YtmmniapkajbdhaaDoorSrc
import Derived.Test.YtmmniapkajbdhaaDoorErrs
import Derived.Deep.RegionHeld3
import Derived.Great.BuildSlice
namespace Go.Proofs.YtmmniapkajbdhaaDoor
open Go.RowKit
theorem push_len {E : Nat → Addr} (p : ByteArray) (g : Nat) (w : World) (hE : Errs w E) (hp : p.size ≠ 32) :
    Calls Tryd.prog 14 #[.pointer (some ⟨g, 0, none⟩), .string p] w fun e w' => e = .returned (.iface 80 (.pointer (some (E 0)))) ∧ w = w' := by
  have c0 := hE.v0
  have q : ((p.size : Int) != 32) = true := by rw [bne_iff_ne]; omega
  clear hE hp
  go_enter Tryd.func14, Tryd.ntmps14
  go_wp2
  go_ret
  exact ⟨rfl, rfl⟩
theorem push_many {E : Nat → Addr} (p : ByteArray) {w : World} {B g : Nat} {ba : Option Addr} {cap : Nat} {L : List (List (BitVec 8))} (hS : Src w B g ba cap L) (hE : Errs w E) (hp : p.size = 32) (hL : 1024 ≤ L.length) :
    Calls Tryd.prog 14 #[.pointer (some ⟨g, 0, none⟩), .string p] w fun e w' => e = .returned (.iface 80 (.pointer (some (E 2)))) ∧ w = w' := by
  have c0 := hE.v2
  have q : ((p.size : Int) != 32) = false := by rw [hp]; rfl
  have c1 : w.cell? ⟨g, 0, none⟩ = some (.slice ba L.length cap) := hS.blk.cell 0
  clear hE hp hS
  generalize L.length = n at *
  have d : decide ((1024 : Int) ≤ (n : Int)) = true := decide_eq_true (by omega)
  have d2 : (1024 : Int) ≤ (n : Int) := by omega
  go_enter Tryd.func14, Tryd.ntmps14
  go_wp2
  go_ret
  exact ⟨rfl, rfl⟩
/-- zeros -/
def zw : List Value := [.int .u8 0, .int .u8 0, .int .u8 0, .int .u8 0, .int .u8 0, .int .u8 0, .int .u8 0, .int .u8 0, .int .u8 0, .int .u8 0, .int .u8 0, .int .u8 0, .int .u8 0, .int .u8 0, .int .u8 0, .int .u8 0, .int .u8 0, .int .u8 0, .int .u8 0, .int .u8 0, .int .u8 0, .int .u8 0, .int .u8 0, .int .u8 0, .int .u8 0, .int .u8 0, .int .u8 0, .int .u8 0, .int .u8 0, .int .u8 0, .int .u8 0, .int .u8 0]
theorem infoW : (Tryd.prog.info? 65).map (fun i => (i.zero, i.size, i.bytes)) = some (some (.agg #[.int .u8 0, .int .u8 0, .int .u8 0, .int .u8 0, .int .u8 0, .int .u8 0, .int .u8 0, .int .u8 0, .int .u8 0, .int .u8 0, .int .u8 0, .int .u8 0, .int .u8 0, .int .u8 0, .int .u8 0, .int .u8 0, .int .u8 0, .int .u8 0, .int .u8 0, .int .u8 0, .int .u8 0, .int .u8 0, .int .u8 0, .int .u8 0, .int .u8 0, .int .u8 0, .int .u8 0, .int .u8 0, .int .u8 0, .int .u8 0, .int .u8 0, .int .u8 0]), 32, 32) := by kernel_rfl
theorem seg_full (l x : List Value) (h : x.length = l.length) : seg l 0 x = x := by
  unfold seg
  rw [List.take_zero, List.nil_append, List.drop_of_length_le (by omega), List.append_nil]
section
variable {P : Program}
theorem step_load_one {ops : Array Oper} {o : Oper} {a : Act} {w : World} {K : Act → World → Prop} {Q : Exit → Act → World → Prop} {E : Prop} (hgd : o.guard = none) (ty : TypeId) (x : Operand) (ho : o.op = .load ty x)
    {p : Addr} {v : Value} (hx : a.eval x = .pointer (some p)) (hr : (loadVar ty p).run P w = .ok v w)
    (h : K (a.put o.dst v) w) : if Region.wanted o (yielded ops a.tmps) = true then Oper.wp P o a w K Q else E := by
  rw [if_pos (by simp [Region.wanted, hgd])]
  unfold Oper.wp execOp
  simp only [ho, hx, Instr.loadAt, Instr.sureAddr, Sem.run_bind, Sem.run_pure, Result.andThen_ok, hr]
  exact h
theorem step_store_one {ops : Array Oper} {o : Oper} {a : Act} {w w' : World} {K : Act → World → Prop} {Q : Exit → Act → World → Prop} {E : Prop} (hgd : o.guard = none) (ty : TypeId) (x y : Operand) (ho : o.op = .store ty x y)
    {p : Addr} {v : Value} (hx : a.eval x = .pointer (some p)) (hy : a.eval y = v) (hr : (storeVar ty p v).run P w = .ok () w')
    (h : K (a.put o.dst undef) w') : if Region.wanted o (yielded ops a.tmps) = true then Oper.wp P o a w K Q else E := by
  rw [if_pos (by simp [Region.wanted, hgd])]
  unfold Oper.wp execOp
  simp only [ho, hx, hy, Instr.storeAt, Instr.sureAddr, Sem.run_bind, Sem.run_pure, Result.andThen_ok, hr]
  exact h
theorem step_build {ops : Array Oper} {o : Oper} {a : Act} {w w' : World} {K : Act → World → Prop} {Q : Exit → Act → World → Prop} {E : Prop} (hgd : o.guard = none) (t : TypeId) (n : Nat) (parts : Array (Nat × Operand)) (ho : o.op = .buildSlice t n parts)
    {vs : Array (Nat × Value)} {v : Value} (hv : (parts.map fun (i, x) => (i, a.eval x)) = vs) (hr : (Instr.buildSlice t n vs).run P w = .ok v w')
    (h : K (a.put o.dst v) w') : if Region.wanted o (yielded ops a.tmps) = true then Oper.wp P o a w K Q else E := by
  rw [if_pos (by simp [Region.wanted, hgd])]
  unfold Oper.wp execOp
  simp only [ho, hv, Sem.run_bind, hr, Result.andThen_ok]
  exact h
theorem wpAny_frame {md : Region.Mode} {ops : Array Oper} {Q : Exit → Act → World → Prop} {n : Nat} {listed : Array Bool} {a : Act} {w : World} (h : ∀ A, A = a → wpAny P md ops Q n listed A w) : wpAny P md ops Q n listed a w := h a rfl
theorem eval_put_ne (a : Act) (d t : Nat) (v : Value) (h : d ≠ t) : (a.put (some d) v).eval (.tmp t) = a.eval (.tmp t) := by
  simp [Act.eval, Act.put, Array.getElem?_setIfInBounds_ne h]
theorem eval_put_eq (a : Act) (d : Nat) (v : Value) (h : d < a.tmps.size) : (a.put (some d) v).eval (.tmp d) = v := by
  simp [Act.eval, Act.put, h]
theorem size_put (a : Act) (d : Nat) (v : Value) : (a.put (some d) v).tmps.size = a.tmps.size := by
  simp [Act.put]
theorem step_load_row {ops : Array Oper} {o : Oper} {a : Act} {w : World} {K : Act → World → Prop} {Q : Exit → Act → World → Prop} {E : Prop} (hgd : o.guard = none) (ty : TypeId) (x : Operand) (ho : o.op = .load ty x)
    {g : Nat} {t : TypeId} {l : List Value} (hx : a.eval x = .pointer (some ⟨g, 0, none⟩)) (hb : Blk w g t l) (d : TypeDesc)
    (hu : P.underlying ty = some d) (hd : (match d with | .struct _ | .array _ _ => true | _ => false) = true) (hi : (P.info? ty).map (·.size) = some l.length)
    (h : K (a.put o.dst (.agg l.toArray)) w) : if Region.wanted o (yielded ops a.tmps) = true then Oper.wp P o a w K Q else E := by
  rw [if_pos (by simp [Region.wanted, hgd])]
  unfold Oper.wp execOp
  simp only [ho, hx, Instr.loadAt, Instr.sureAddr, Sem.run_bind, Sem.run_pure, Result.andThen_ok, run_loadVar_cells l (fun j v hv => by rw [Nat.zero_add, hb.cell]; exact hv) ty d hu hd hi]
  exact h
end
/-- the source has turned to the line L', and nothing else -/
def Turned (w w' : World) (B g : Nat) (ba : Option Addr) (L' : List (List (BitVec 8))) : Prop := ∃ ba' cap', Src w' B g ba' cap' L' ∧ Touch g (ba.map (·.block)) w w' ∧ (∀ k, ba'.map (·.block) = some k → ba.map (·.block) = some k ∨ w.heap.size ≤ k)
theorem push_end {w w1 w2 : World} {B g n gg cap cap2 : Nat} {ba : Option Addr} {L : List (List (BitVec 8))} {d : List (BitVec 8)} (hS1 : Src w1 B g ba cap L) (hn : n = L.length) (_hB : B ≤ w.heap.size) (hlt1 : w.heap.size < w1.heap.size) (glt : g < w.heap.size) (ha : Touch g none w w1)
    (hown2 : w2.ownsRow B 65 32 (.slice (some ⟨gg, 0, none⟩) (n + 1) cap2) (n + 1) (dcells L ++ u8s d)) (hgrow : ((w1.alloc (.cells (u8s d).toArray 65)).drew).grownBy w2 (Value.slice ba n cap).ownBlock)
    (hat : (Value.slice ba n cap).ownBlock = some gg ∨ gg = w1.heap.size + 1) (_hlt2 : gg < w2.heap.size) (dl : d.length = 32) :
    w2.cell? ⟨g, 0, none⟩ = some (.slice ba n cap) ∧ w2.frozen? ⟨g, 0, none⟩ = false ∧ Src (w2.setCell ⟨g, 0, none⟩ (.slice (some ⟨gg, 0, none⟩) (n + 1) cap2)) B g (some ⟨gg, 0, none⟩) cap2 (L ++ [d]) ∧ Touch g (ba.map (·.block)) w (w2.setCell ⟨g, 0, none⟩ (.slice (some ⟨gg, 0, none⟩) (n + 1) cap2)) ∧ (∀ k, (some (⟨gg, 0, none⟩ : Addr)).map (·.block) = some k → ba.map (·.block) = some k ∨ w.heap.size ≤ k) := by
  rw [own_block] at hgrow hat
  have hal : ∀ k, k < w1.heap.size → ((w1.alloc (.cells (u8s d).toArray 65)).drew).heap[k]? = w1.heap[k]? := fun k hk => Below.heap_alloc w1 _ k hk
  have hsz : ((w1.alloc (.cells (u8s d).toArray 65)).drew).heap.size = w1.heap.size + 1 := by simp
  have hgr : ba.map (·.block) ≠ some g := fun e => (hS1.row g e).2.2 rfl
  have hB2 : Blk w2 g 61 [.slice ba n cap] := by
    have hb := hS1.blk
    rw [← hn] at hb
    unfold Blk at *
    rw [hgrow.block g (by rw [hsz]; omega) (Ne.symm hgr), hal g (by omega)]
    exact hb
  have hne : gg ≠ g := by
    rcases hat with h | h
    · rintro rfl; exact hgr h
    · omega
  refine ⟨hB2.cell 0, hB2.frozen 0, ⟨?_, ?_, ?_⟩, ⟨?_, ?_, ?_, ?_, ?_⟩, ?_⟩
  · have := hB2.set 0 (.slice (some ⟨gg, 0, none⟩) (n + 1) cap2)
    rw [List.length_append, ← hn]
    exact this
  · rw [List.length_append, ← hn, dcells_snoc]
    exact ownsRow_setCell_other hown2 (fun e => hne (by simpa [Value.ownBlock] using e)) _
  · intro x hx
    rcases List.mem_append.1 hx with h | h
    · exact hS1.len x h
    · simp at h; subst h; exact dl
  · exact hgrow.os.trans ha.os
  · exact hgrow.tape.trans ha.tape
  · exact hgrow.output.trans ha.output
  · have := hgrow.size
    rw [hsz] at this
    simp [World.setCell]
    omega
  · intro k hk hkg hkr
    rw [Below.heap_setCell w2 ⟨g, 0, none⟩ _ k hkg, hgrow.block k (by rw [hsz]; omega) (fun e => hkr e.symm), hal k (by omega)]
    exact ha.block k hk hkg (by simp)
  · intro k hk
    simp at hk
    subst hk
    rcases hat with h | h
    · exact .inl h
    · exact .inr (by omega)
theorem build_w (d : List (BitVec 8)) (dl : d.length = 32) (w : World) : (Instr.buildSlice 59 1 #[(0, .agg (u8s d).toArray)]).run Tryd.prog w = .ok (.slice (some ⟨w.heap.size, 0, none⟩) 1 1) (w.alloc (.cells (u8s d).toArray 65)) := by
  obtain ⟨i0, hi, hz0, hz1, _⟩ := info_parts infoW
  refine run_buildSlice w 59 65 1 _ (u8s d).toArray i0 _ Tryd.underlying59 hi hz0 (by rw [hz1]; decide) (by rw [hz1]; decide) ?_
  rw [hz1]
  have h := Great.fill_whole (s := 32) (by omega) [.agg (u8s d).toArray] ((Array.range (1 * 32)).map ((Value.agg #[.int .u8 0, .int .u8 0, .int .u8 0, .int .u8 0, .int .u8 0, .int .u8 0, .int .u8 0, .int .u8 0, .int .u8 0, .int .u8 0, .int .u8 0, .int .u8 0, .int .u8 0, .int .u8 0, .int .u8 0, .int .u8 0, .int .u8 0, .int .u8 0, .int .u8 0, .int .u8 0, .int .u8 0, .int .u8 0, .int .u8 0, .int .u8 0, .int .u8 0, .int .u8 0, .int .u8 0, .int .u8 0, .int .u8 0, .int .u8 0, .int .u8 0, .int .u8 0]).cells[· % (Value.agg #[.int .u8 0, .int .u8 0, .int .u8 0, .int .u8 0, .int .u8 0, .int .u8 0, .int .u8 0, .int .u8 0, .int .u8 0, .int .u8 0, .int .u8 0, .int .u8 0, .int .u8 0, .int .u8 0, .int .u8 0, .int .u8 0, .int .u8 0, .int .u8 0, .int .u8 0, .int .u8 0, .int .u8 0, .int .u8 0, .int .u8 0, .int .u8 0, .int .u8 0, .int .u8 0, .int .u8 0, .int .u8 0, .int .u8 0, .int .u8 0, .int .u8 0, .int .u8 0]).cells.size]!)) (by
    intro v hv
    simp at hv
    subst hv
    simp [Value.cells, u8s_length, dl]) (by simp)
  simpa [Value.cells] using h
theorem load_line (w : World) (g : Nat) (v : Value) (hc : w.cell? ⟨g, 0, none⟩ = some v) : (loadVar 59 ⟨g, 0, none⟩).run Tryd.prog w = .ok v w := by
  go_simp
theorem store_line (w : World) (g : Nat) (v u : Value) (hv : v.oneCell' = true) (hc : w.cell? ⟨g, 0, none⟩ = some u) (hf : w.frozen? ⟨g, 0, none⟩ = false) (hn : ∃ b n c, v = .slice b n c) : (storeVar 59 ⟨g, 0, none⟩ v).run Tryd.prog w = .ok () (w.setCell ⟨g, 0, none⟩ v) := by
  obtain ⟨b, n, c, rfl⟩ := hn
  clear hv
  go_simp
set_option maxRecDepth 100000 in
set_option maxHeartbeats 4000000 in
theorem push_yes (p : ByteArray) {w : World} {B g : Nat} {ba : Option Addr} {cap : Nat} {L : List (List (BitVec 8))} (hS : Src w B g ba cap L) (hp : p.size = 32) (hL : L.length < 1024) (hB : B ≤ w.heap.size) :
    Calls Tryd.prog 14 #[.pointer (some ⟨g, 0, none⟩), .string p] w fun e w' => e = .returned .nilIface ∧ Turned w w' B g ba (L ++ [bytesOf p]) := by
  have q : ((p.size : Int) != 32) = false := by rw [hp]; rfl
  have c1 : w.cell? ⟨g, 0, none⟩ = some (.slice ba L.length cap) := hS.blk.cell 0
  have HS := Lib.hid hS
  have HP := Lib.hid hp
  have hsz : p.size ≤ 32 := by omega
  have glt := hS.lt
  have hZ : Blk (w.alloc (.cells #[.int .u8 0, .int .u8 0, .int .u8 0, .int .u8 0, .int .u8 0, .int .u8 0, .int .u8 0, .int .u8 0, .int .u8 0, .int .u8 0, .int .u8 0, .int .u8 0, .int .u8 0, .int .u8 0, .int .u8 0, .int .u8 0, .int .u8 0, .int .u8 0, .int .u8 0, .int .u8 0, .int .u8 0, .int .u8 0, .int .u8 0, .int .u8 0, .int .u8 0, .int .u8 0, .int .u8 0, .int .u8 0, .int .u8 0, .int .u8 0, .int .u8 0, .int .u8 0] 65)) w.heap.size 65 zw := Blk.new w _ zw
  have hfit : 0 + min p.size 32 ≤ zw.length := by show 0 + min p.size 32 ≤ 32; omega
  obtain ⟨d, hd⟩ : ∃ d, d = bytesOf p := ⟨_, rfl⟩
  have dl : d.length = 32 := by rw [hd, bytesOf_length, hp]
  have hseg : seg zw 0 (u8s ((bytesOf p).take (min p.size 32))) = u8s d := by
    rw [hp, show min 32 32 = 32 from rfl, ← hd, List.take_of_length_le (by omega)]
    exact seg_full _ _ (by rw [u8s_length, dl]; rfl)
  have HSEG := Lib.hid hseg
  have HD := Lib.hid hd
  clear hS hp hseg hd
  obtain ⟨n, hn⟩ : ∃ n, n = L.length := ⟨_, rfl⟩
  rw [← hn] at c1 hL
  have dd : decide ((1024 : Int) ≤ (n : Int)) = false := decide_eq_false (by omega)
  have d2 : ¬ (1024 : Int) ≤ (n : Int) := by omega
  have HN := Lib.hid hn
  clear hn
  obtain ⟨i0, hi, hz0, hz1, hz2⟩ := info_parts infoW
  go_enter Tryd.func14, Tryd.ntmps14
  go_wp2_with (refine wpList_copy_str (by rfl) (.tmp 17) (.tmp 18) 66 9 (by rfl) 5 Tryd.underlying66 (by kernel_rfl) (off := 0) (dLen := 32) (dCap := 32) (s := p) (by rfl) (by rfl) hZ hfit ?_; intro w1 hB1 ha1)
  rw [HSEG.out] at hB1
  clear hZ hfit HSEG
  have ha : Touch g none w w1 := by
    have h2 := ha1.size
    simp only [World.size_alloc] at h2
    refine ⟨ha1.os, ha1.tape, ha1.output, by omega, fun k hk _ _ => (ha1.block k (by simp; omega) (by omega)).trans (Below.heap_alloc w _ k hk)⟩
  have hlt1 : w.heap.size < w1.heap.size := hB1.out.lt
  have hS1 : Src w1 B g ba cap L := HS.out.keep fun k hk => by
    have hkl : k < w.heap.size := by
      rcases hk with rfl | hk
      · exact HS.out.lt
      · exact (HS.out.row k hk).2.1
    exact (ha1.block k (by simp; omega) (by omega)).trans (Below.heap_alloc w _ k hkl)
  have c2 : w1.cell? ⟨g, 0, none⟩ = some (.slice ba n cap) := by
    have := hS1.blk.cell 0
    rw [← HN.out] at this
    exact this
  have HS1 := Lib.hid hS1
  have hown : w1.ownsRow B 65 32 (.slice ba n cap) n (dcells L) := by
    have := hS1.own
    rw [← HN.out] at this
    exact this
  have HOWN := Lib.hid hown
  clear hS1 hown c1 ha1
  have ul : (u8s d).length = 32 := by rw [u8s_length, dl]
  have HUL := Lib.hid ul
  have HU1 := Lib.hid (u8s_one d)
  have hu := Tryd.underlying65
  have hi2 : (Tryd.prog.info? 65).map (·.size) = some (u8s d).length := by rw [HUL.out]; kernel_rfl
  have c3 : (w1.alloc (.cells (u8s d).toArray 65)).cell? ⟨g, 0, none⟩ = some (.slice ba n cap) := cell_below c2 ((Below.refl _ _).alloc (Nat.le_refl _) _)
  go_wp2
  refine wp_region_any (by kernel_rfl) ?_
  change wpAny _ _ _ _ _ _ _ w1.drew
  refine wpAny_take (i := 0) (oi := { dst := some 20, op := .move (.tmp 0), type := 28, pos := _, after := _, guard := none }) (v := .pointer (some ⟨g, 0, none⟩)) rfl (by kernel_rfl) (by kernel_rfl) (by kernel_rfl) (fun _ _ _ h => h) (Or.inl ⟨by rfl, by intro w; go_simp⟩) ?_
  refine wpAny_take (i := 1) (oi := { dst := some 21, op := .move (.tmp 0), type := 28, pos := _, after := _, guard := none }) (v := .pointer (some ⟨g, 0, none⟩)) rfl (by kernel_rfl) (by kernel_rfl) (by kernel_rfl) (fun _ _ _ h => h) (Or.inl ⟨by rfl, by intro w; go_simp⟩) ?_
  refine wpAny_take (i := 2) (oi := { dst := some 22, op := .nilCheck (.tmp 21), type := 0, pos := _, after := _, guard := none }) (v := .pointer (some ⟨g, 0, none⟩)) rfl (by kernel_rfl) (by kernel_rfl) (by kernel_rfl) (fun _ _ _ h => h) (Or.inl ⟨by rfl, by intro w; go_simp⟩) ?_
  refine wpAny_take (i := 3) (oi := { dst := some 23, op := .fieldAddr 61 (.tmp 22) 0, type := 0, pos := _, after := _, guard := none }) (v := .pointer (some ⟨g, 0, none⟩)) rfl (by kernel_rfl) (by kernel_rfl) (by kernel_rfl) (fun _ _ _ h => h) (Or.inl ⟨by rfl, by intro w; go_simp⟩) ?_
  refine wpAny_frame fun A0 hA0 => ?_
  have A0e5 : A0.eval (.tmp 5) = .pointer (some ⟨w.heap.size, 0, none⟩) := by rw [hA0]; simp [Act.eval, Act.put]
  have A0e20 : A0.eval (.tmp 20) = .pointer (some ⟨g, 0, none⟩) := by rw [hA0]; simp [Act.eval, Act.put]
  have A0e23 : A0.eval (.tmp 23) = .pointer (some ⟨g, 0, none⟩) := by rw [hA0]; simp [Act.eval, Act.put]
  have A0sz : A0.tmps.size = 30 := by rw [hA0]; simp [Act.put]
  have HA0 := Lib.hid hA0
  clear hA0
  refine wpAny_ready (rs := [4, 5]) (by kernel_rfl) (by simp) (AllReady.cons (o := { dst := some 24, op := .load 59 (.tmp 23), type := 59, pos := _, after := _, guard := none }) (by rfl) (fun K hK => ?r4_2) (AllReady.cons (o := { dst := some 25, op := .load 65 (.tmp 5), type := 65, pos := _, after := _, guard := none }) (by rfl) (fun K hK => ?r5_2) (AllReady.nil)))
  case r4_2 =>
    refine step_load_one (by rfl) 59 (.tmp 23) (by rfl) A0e23 (load_line _ g (.slice ba n cap) c2) ?_
    refine hK _ _ ?_
    clear hK K
    refine wpAny_frame fun A1 hA1 => ?_
    have A1e5 : A1.eval (.tmp 5) = .pointer (some ⟨w.heap.size, 0, none⟩) := by rw [hA1, eval_put_ne _ _ _ _ (by decide)]; exact A0e5
    have A1e20 : A1.eval (.tmp 20) = .pointer (some ⟨g, 0, none⟩) := by rw [hA1, eval_put_ne _ _ _ _ (by decide)]; exact A0e20
    have A1e23 : A1.eval (.tmp 23) = .pointer (some ⟨g, 0, none⟩) := by rw [hA1, eval_put_ne _ _ _ _ (by decide)]; exact A0e23
    have A1e24 : A1.eval (.tmp 24) = (.slice ba n cap) := by rw [hA1]; exact eval_put_eq _ _ _ (by omega)
    have A1sz : A1.tmps.size = 30 := by rw [hA1, size_put]; exact A0sz
    have HA1 := Lib.hid hA1
    clear hA1
    refine wpAny_ready (rs := [5]) (by kernel_rfl) (by simp) (AllReady.cons (o := { dst := some 25, op := .load 65 (.tmp 5), type := 65, pos := _, after := _, guard := none }) (by rfl) (fun K hK => ?_) (AllReady.nil))
    refine step_load_row (by rfl) 65 (.tmp 5) (by rfl) (g := w.heap.size) (l := u8s d) A1e5 hB1.out.drew _ hu rfl hi2 ?_
    refine hK _ _ ?_
    clear hK K
    refine wpAny_frame fun A2 hA2 => ?_
    have A2e5 : A2.eval (.tmp 5) = .pointer (some ⟨w.heap.size, 0, none⟩) := by rw [hA2, eval_put_ne _ _ _ _ (by decide)]; exact A1e5
    have A2e20 : A2.eval (.tmp 20) = .pointer (some ⟨g, 0, none⟩) := by rw [hA2, eval_put_ne _ _ _ _ (by decide)]; exact A1e20
    have A2e23 : A2.eval (.tmp 23) = .pointer (some ⟨g, 0, none⟩) := by rw [hA2, eval_put_ne _ _ _ _ (by decide)]; exact A1e23
    have A2e24 : A2.eval (.tmp 24) = (.slice ba n cap) := by rw [hA2, eval_put_ne _ _ _ _ (by decide)]; exact A1e24
    have A2e25 : A2.eval (.tmp 25) = (.agg (u8s d).toArray) := by rw [hA2]; exact eval_put_eq _ _ _ (by omega)
    have A2sz : A2.tmps.size = 30 := by rw [hA2, size_put]; exact A1sz
    have HA2 := Lib.hid hA2
    clear hA2
    refine wpAny_ready (rs := [6]) (by kernel_rfl) (by simp) (AllReady.cons (o := { dst := some 26, op := .buildSlice 59 1 #[(0, .tmp 25)], type := 59, pos := _, after := _, guard := none }) (by rfl) (fun K hK => ?_) (AllReady.nil))
    refine step_build (by rfl) 59 1 #[(0, .tmp 25)] (by rfl) (vs := #[(0, (.agg (u8s d).toArray))]) (by simp [A2e25]) (build_w d dl _) ?_
    refine hK _ _ ?_
    clear hK K
    refine wpAny_frame fun A3 hA3 => ?_
    have A3e5 : A3.eval (.tmp 5) = .pointer (some ⟨w.heap.size, 0, none⟩) := by rw [hA3, eval_put_ne _ _ _ _ (by decide)]; exact A2e5
    have A3e20 : A3.eval (.tmp 20) = .pointer (some ⟨g, 0, none⟩) := by rw [hA3, eval_put_ne _ _ _ _ (by decide)]; exact A2e20
    have A3e23 : A3.eval (.tmp 23) = .pointer (some ⟨g, 0, none⟩) := by rw [hA3, eval_put_ne _ _ _ _ (by decide)]; exact A2e23
    have A3e24 : A3.eval (.tmp 24) = (.slice ba n cap) := by rw [hA3, eval_put_ne _ _ _ _ (by decide)]; exact A2e24
    have A3e25 : A3.eval (.tmp 25) = (.agg (u8s d).toArray) := by rw [hA3, eval_put_ne _ _ _ _ (by decide)]; exact A2e25
    have A3e26 : A3.eval (.tmp 26) = (.slice (some ⟨w1.heap.size, 0, none⟩) 1 1) := by rw [hA3]; exact eval_put_eq _ _ _ (by omega)
    have A3sz : A3.tmps.size = 30 := by rw [hA3, size_put]; exact A2sz
    have HA3 := Lib.hid hA3
    clear hA3
    refine wpAny_ready (rs := [7]) (by kernel_rfl) (by simp) (AllReady.cons (o := { dst := some 27, op := .call { callee := .builtin .append, args := #[.tmp 24, .tmp 26], argTypes := #[59, 59] }, type := 59, pos := _, after := _, guard := none }) (by rfl) (fun K hK => ?_) (AllReady.nil))
    refine step_append_lies _ (by rfl) (.tmp 24) (.tmp 26) 59 (by rfl) B 65 i0 _ 32 32 Tryd.underlying59 hi hz0 hz1 hz2 rfl (by omega) (.slice ba n cap) n (dcells L) A3e24 ((HOWN.out.alloc _).drew)
        ⟨w1.heap.size, 0, none⟩ 1 1 (u8s d) A3e26 (by rw [HUL.out]) (World.news_of_block (cs := (u8s d).toArray) (t := 65) (fr := (0, 0)) (heap_alloc_new w1 _)) HU1.out (by omega) (by unfold maxLen; omega) (by omega) (by simp; omega) (w1.heap.size + 1) (by simp) ?_
    intro gg cap2 w2 hown2 hgrow hat hlt2
    refine hK _ _ ?_
    clear hK K
    refine wpAny_frame fun A4 hA4 => ?_
    have A4e20 : A4.eval (.tmp 20) = .pointer (some ⟨g, 0, none⟩) := by rw [hA4, eval_put_ne _ _ _ _ (by decide)]; exact A3e20
    have A4e27 : A4.eval (.tmp 27) = (.slice (some ⟨gg, 0, none⟩) (n + 1) cap2) := by rw [hA4]; exact eval_put_eq _ _ _ (by omega)
    have A4sz : A4.tmps.size = 30 := by rw [hA4, size_put]; exact A3sz
    have HA4 := Lib.hid hA4
    clear hA4
    refine wpAny_take (i := 8) (oi := { dst := some 28, op := .nilCheck (.tmp 20), type := 0, pos := _, after := _, guard := none }) (v := .pointer (some ⟨g, 0, none⟩)) rfl (by kernel_rfl) (by kernel_rfl) (by kernel_rfl) (fun _ _ _ h => h) (Or.inl ⟨by rfl, by intro w; simp only [execOp, A4e20]; go_simp⟩) ?_
    refine wpAny_take (i := 9) (oi := { dst := some 29, op := .fieldAddr 61 (.tmp 28) 0, type := 0, pos := _, after := _, guard := none }) (v := .pointer (some ⟨g, 0, none⟩)) rfl (by kernel_rfl) (by kernel_rfl) (by kernel_rfl) (fun _ _ _ h => h) (Or.inl ⟨by rfl, by intro w; simp only [execOp, eval_put_eq _ _ _ (show 28 < A4.tmps.size by omega)]; go_simp⟩) ?_
    refine wpAny_frame fun A5 hA5 => ?_
    have x29 : A5.eval (.tmp 29) = .pointer (some ⟨g, 0, none⟩) := by rw [hA5, eval_put_eq _ _ _ (by rw [size_put]; omega)]
    have x27 : A5.eval (.tmp 27) = (.slice (some ⟨gg, 0, none⟩) (n + 1) cap2) := by rw [hA5, eval_put_ne _ _ _ _ (by decide), eval_put_ne _ _ _ _ (by decide)]; exact A4e27
    have HA5 := Lib.hid hA5
    clear hA5
    refine wpAny_ready (rs := [10]) (by kernel_rfl) (by simp) (AllReady.cons (o := { dst := none, op := .store 59 (.tmp 29) (.tmp 27), type := 0, pos := _, after := _, guard := none }) (by rfl) (fun K hK => ?_) (AllReady.nil))
    obtain ⟨hc4, hf4, hend⟩ := push_end HS1.out HN.out hB hlt1 HS.out.lt ha hown2 hgrow hat hlt2 dl
    refine step_store_one (by rfl) 59 (.tmp 29) (.tmp 27) (by rfl) x29 x27 (store_line w2 g _ _ rfl hc4 hf4 ⟨_, _, _, rfl⟩) ?_
    refine hK _ _ ?_
    clear hK K
    refine wpAny_done (by kernel_rfl) ?_ _
    rw [HA5.out, HA4.out, HA3.out, HA2.out, HA1.out, HA0.out]
    clear x27 x29 hc4 hf4
    generalize w2.setCell ⟨g, 0, none⟩ (.slice (some ⟨gg, 0, none⟩) (n + 1) cap2) = w3 at *
    go_wp2
    go_ret
    exact ⟨rfl, by rw [← HD.out]; exact ⟨_, cap2, hend⟩⟩
  case r5_2 =>
    refine step_load_row (by rfl) 65 (.tmp 5) (by rfl) (g := w.heap.size) (l := u8s d) A0e5 hB1.out.drew _ hu rfl hi2 ?_
    refine hK _ _ ?_
    clear hK K
    refine wpAny_frame fun A6 hA6 => ?_
    have A6e5 : A6.eval (.tmp 5) = .pointer (some ⟨w.heap.size, 0, none⟩) := by rw [hA6, eval_put_ne _ _ _ _ (by decide)]; exact A0e5
    have A6e20 : A6.eval (.tmp 20) = .pointer (some ⟨g, 0, none⟩) := by rw [hA6, eval_put_ne _ _ _ _ (by decide)]; exact A0e20
    have A6e23 : A6.eval (.tmp 23) = .pointer (some ⟨g, 0, none⟩) := by rw [hA6, eval_put_ne _ _ _ _ (by decide)]; exact A0e23
    have A6e25 : A6.eval (.tmp 25) = (.agg (u8s d).toArray) := by rw [hA6]; exact eval_put_eq _ _ _ (by omega)
    have A6sz : A6.tmps.size = 30 := by rw [hA6, size_put]; exact A0sz
    have HA6 := Lib.hid hA6
    clear hA6
    refine wpAny_ready (rs := [4, 6]) (by kernel_rfl) (by simp) (AllReady.cons (o := { dst := some 24, op := .load 59 (.tmp 23), type := 59, pos := _, after := _, guard := none }) (by rfl) (fun K hK => ?r4_4) (AllReady.cons (o := { dst := some 26, op := .buildSlice 59 1 #[(0, .tmp 25)], type := 59, pos := _, after := _, guard := none }) (by rfl) (fun K hK => ?r6_4) (AllReady.nil)))
    case r4_4 =>
      refine step_load_one (by rfl) 59 (.tmp 23) (by rfl) A6e23 (load_line _ g (.slice ba n cap) c2) ?_
      refine hK _ _ ?_
      clear hK K
      refine wpAny_frame fun A7 hA7 => ?_
      have A7e5 : A7.eval (.tmp 5) = .pointer (some ⟨w.heap.size, 0, none⟩) := by rw [hA7, eval_put_ne _ _ _ _ (by decide)]; exact A6e5
      have A7e20 : A7.eval (.tmp 20) = .pointer (some ⟨g, 0, none⟩) := by rw [hA7, eval_put_ne _ _ _ _ (by decide)]; exact A6e20
      have A7e23 : A7.eval (.tmp 23) = .pointer (some ⟨g, 0, none⟩) := by rw [hA7, eval_put_ne _ _ _ _ (by decide)]; exact A6e23
      have A7e25 : A7.eval (.tmp 25) = (.agg (u8s d).toArray) := by rw [hA7, eval_put_ne _ _ _ _ (by decide)]; exact A6e25
      have A7e24 : A7.eval (.tmp 24) = (.slice ba n cap) := by rw [hA7]; exact eval_put_eq _ _ _ (by omega)
      have A7sz : A7.tmps.size = 30 := by rw [hA7, size_put]; exact A6sz
      have HA7 := Lib.hid hA7
      clear hA7
      refine wpAny_ready (rs := [6]) (by kernel_rfl) (by simp) (AllReady.cons (o := { dst := some 26, op := .buildSlice 59 1 #[(0, .tmp 25)], type := 59, pos := _, after := _, guard := none }) (by rfl) (fun K hK => ?_) (AllReady.nil))
      refine step_build (by rfl) 59 1 #[(0, .tmp 25)] (by rfl) (vs := #[(0, (.agg (u8s d).toArray))]) (by simp [A7e25]) (build_w d dl _) ?_
      refine hK _ _ ?_
      clear hK K
      refine wpAny_frame fun A8 hA8 => ?_
      have A8e5 : A8.eval (.tmp 5) = .pointer (some ⟨w.heap.size, 0, none⟩) := by rw [hA8, eval_put_ne _ _ _ _ (by decide)]; exact A7e5
      have A8e20 : A8.eval (.tmp 20) = .pointer (some ⟨g, 0, none⟩) := by rw [hA8, eval_put_ne _ _ _ _ (by decide)]; exact A7e20
      have A8e23 : A8.eval (.tmp 23) = .pointer (some ⟨g, 0, none⟩) := by rw [hA8, eval_put_ne _ _ _ _ (by decide)]; exact A7e23
      have A8e25 : A8.eval (.tmp 25) = (.agg (u8s d).toArray) := by rw [hA8, eval_put_ne _ _ _ _ (by decide)]; exact A7e25
      have A8e24 : A8.eval (.tmp 24) = (.slice ba n cap) := by rw [hA8, eval_put_ne _ _ _ _ (by decide)]; exact A7e24
      have A8e26 : A8.eval (.tmp 26) = (.slice (some ⟨w1.heap.size, 0, none⟩) 1 1) := by rw [hA8]; exact eval_put_eq _ _ _ (by omega)
      have A8sz : A8.tmps.size = 30 := by rw [hA8, size_put]; exact A7sz
      have HA8 := Lib.hid hA8
      clear hA8
      refine wpAny_ready (rs := [7]) (by kernel_rfl) (by simp) (AllReady.cons (o := { dst := some 27, op := .call { callee := .builtin .append, args := #[.tmp 24, .tmp 26], argTypes := #[59, 59] }, type := 59, pos := _, after := _, guard := none }) (by rfl) (fun K hK => ?_) (AllReady.nil))
      refine step_append_lies _ (by rfl) (.tmp 24) (.tmp 26) 59 (by rfl) B 65 i0 _ 32 32 Tryd.underlying59 hi hz0 hz1 hz2 rfl (by omega) (.slice ba n cap) n (dcells L) A8e24 ((HOWN.out.alloc _).drew)
          ⟨w1.heap.size, 0, none⟩ 1 1 (u8s d) A8e26 (by rw [HUL.out]) (World.news_of_block (cs := (u8s d).toArray) (t := 65) (fr := (0, 0)) (heap_alloc_new w1 _)) HU1.out (by omega) (by unfold maxLen; omega) (by omega) (by simp; omega) (w1.heap.size + 1) (by simp) ?_
      intro gg cap2 w2 hown2 hgrow hat hlt2
      refine hK _ _ ?_
      clear hK K
      refine wpAny_frame fun A9 hA9 => ?_
      have A9e20 : A9.eval (.tmp 20) = .pointer (some ⟨g, 0, none⟩) := by rw [hA9, eval_put_ne _ _ _ _ (by decide)]; exact A8e20
      have A9e27 : A9.eval (.tmp 27) = (.slice (some ⟨gg, 0, none⟩) (n + 1) cap2) := by rw [hA9]; exact eval_put_eq _ _ _ (by omega)
      have A9sz : A9.tmps.size = 30 := by rw [hA9, size_put]; exact A8sz
      have HA9 := Lib.hid hA9
      clear hA9
      refine wpAny_take (i := 8) (oi := { dst := some 28, op := .nilCheck (.tmp 20), type := 0, pos := _, after := _, guard := none }) (v := .pointer (some ⟨g, 0, none⟩)) rfl (by kernel_rfl) (by kernel_rfl) (by kernel_rfl) (fun _ _ _ h => h) (Or.inl ⟨by rfl, by intro w; simp only [execOp, A9e20]; go_simp⟩) ?_
      refine wpAny_take (i := 9) (oi := { dst := some 29, op := .fieldAddr 61 (.tmp 28) 0, type := 0, pos := _, after := _, guard := none }) (v := .pointer (some ⟨g, 0, none⟩)) rfl (by kernel_rfl) (by kernel_rfl) (by kernel_rfl) (fun _ _ _ h => h) (Or.inl ⟨by rfl, by intro w; simp only [execOp, eval_put_eq _ _ _ (show 28 < A9.tmps.size by omega)]; go_simp⟩) ?_
      refine wpAny_frame fun A10 hA10 => ?_
      have x29 : A10.eval (.tmp 29) = .pointer (some ⟨g, 0, none⟩) := by rw [hA10, eval_put_eq _ _ _ (by rw [size_put]; omega)]
      have x27 : A10.eval (.tmp 27) = (.slice (some ⟨gg, 0, none⟩) (n + 1) cap2) := by rw [hA10, eval_put_ne _ _ _ _ (by decide), eval_put_ne _ _ _ _ (by decide)]; exact A9e27
      have HA10 := Lib.hid hA10
      clear hA10
      refine wpAny_ready (rs := [10]) (by kernel_rfl) (by simp) (AllReady.cons (o := { dst := none, op := .store 59 (.tmp 29) (.tmp 27), type := 0, pos := _, after := _, guard := none }) (by rfl) (fun K hK => ?_) (AllReady.nil))
      obtain ⟨hc4, hf4, hend⟩ := push_end HS1.out HN.out hB hlt1 HS.out.lt ha hown2 hgrow hat hlt2 dl
      refine step_store_one (by rfl) 59 (.tmp 29) (.tmp 27) (by rfl) x29 x27 (store_line w2 g _ _ rfl hc4 hf4 ⟨_, _, _, rfl⟩) ?_
      refine hK _ _ ?_
      clear hK K
      refine wpAny_done (by kernel_rfl) ?_ _
      rw [HA10.out, HA9.out, HA8.out, HA7.out, HA6.out, HA0.out]
      clear x27 x29 hc4 hf4
      generalize w2.setCell ⟨g, 0, none⟩ (.slice (some ⟨gg, 0, none⟩) (n + 1) cap2) = w3 at *
      go_wp2
      go_ret
      exact ⟨rfl, by rw [← HD.out]; exact ⟨_, cap2, hend⟩⟩
    case r6_4 =>
      refine step_build (by rfl) 59 1 #[(0, .tmp 25)] (by rfl) (vs := #[(0, (.agg (u8s d).toArray))]) (by simp [A6e25]) (build_w d dl _) ?_
      refine hK _ _ ?_
      clear hK K
      refine wpAny_frame fun A11 hA11 => ?_
      have A11e5 : A11.eval (.tmp 5) = .pointer (some ⟨w.heap.size, 0, none⟩) := by rw [hA11, eval_put_ne _ _ _ _ (by decide)]; exact A6e5
      have A11e20 : A11.eval (.tmp 20) = .pointer (some ⟨g, 0, none⟩) := by rw [hA11, eval_put_ne _ _ _ _ (by decide)]; exact A6e20
      have A11e23 : A11.eval (.tmp 23) = .pointer (some ⟨g, 0, none⟩) := by rw [hA11, eval_put_ne _ _ _ _ (by decide)]; exact A6e23
      have A11e25 : A11.eval (.tmp 25) = (.agg (u8s d).toArray) := by rw [hA11, eval_put_ne _ _ _ _ (by decide)]; exact A6e25
      have A11e26 : A11.eval (.tmp 26) = (.slice (some ⟨w1.heap.size, 0, none⟩) 1 1) := by rw [hA11]; exact eval_put_eq _ _ _ (by omega)
      have A11sz : A11.tmps.size = 30 := by rw [hA11, size_put]; exact A6sz
      have HA11 := Lib.hid hA11
      clear hA11
      refine wpAny_ready (rs := [4]) (by kernel_rfl) (by simp) (AllReady.cons (o := { dst := some 24, op := .load 59 (.tmp 23), type := 59, pos := _, after := _, guard := none }) (by rfl) (fun K hK => ?_) (AllReady.nil))
      refine step_load_one (by rfl) 59 (.tmp 23) (by rfl) A11e23 (load_line _ g (.slice ba n cap) c3) ?_
      refine hK _ _ ?_
      clear hK K
      refine wpAny_frame fun A12 hA12 => ?_
      have A12e5 : A12.eval (.tmp 5) = .pointer (some ⟨w.heap.size, 0, none⟩) := by rw [hA12, eval_put_ne _ _ _ _ (by decide)]; exact A11e5
      have A12e20 : A12.eval (.tmp 20) = .pointer (some ⟨g, 0, none⟩) := by rw [hA12, eval_put_ne _ _ _ _ (by decide)]; exact A11e20
      have A12e23 : A12.eval (.tmp 23) = .pointer (some ⟨g, 0, none⟩) := by rw [hA12, eval_put_ne _ _ _ _ (by decide)]; exact A11e23
      have A12e25 : A12.eval (.tmp 25) = (.agg (u8s d).toArray) := by rw [hA12, eval_put_ne _ _ _ _ (by decide)]; exact A11e25
      have A12e26 : A12.eval (.tmp 26) = (.slice (some ⟨w1.heap.size, 0, none⟩) 1 1) := by rw [hA12, eval_put_ne _ _ _ _ (by decide)]; exact A11e26
      have A12e24 : A12.eval (.tmp 24) = (.slice ba n cap) := by rw [hA12]; exact eval_put_eq _ _ _ (by omega)
      have A12sz : A12.tmps.size = 30 := by rw [hA12, size_put]; exact A11sz
      have HA12 := Lib.hid hA12
      clear hA12
      refine wpAny_ready (rs := [7]) (by kernel_rfl) (by simp) (AllReady.cons (o := { dst := some 27, op := .call { callee := .builtin .append, args := #[.tmp 24, .tmp 26], argTypes := #[59, 59] }, type := 59, pos := _, after := _, guard := none }) (by rfl) (fun K hK => ?_) (AllReady.nil))
      refine step_append_lies _ (by rfl) (.tmp 24) (.tmp 26) 59 (by rfl) B 65 i0 _ 32 32 Tryd.underlying59 hi hz0 hz1 hz2 rfl (by omega) (.slice ba n cap) n (dcells L) A12e24 ((HOWN.out.alloc _).drew)
          ⟨w1.heap.size, 0, none⟩ 1 1 (u8s d) A12e26 (by rw [HUL.out]) (World.news_of_block (cs := (u8s d).toArray) (t := 65) (fr := (0, 0)) (heap_alloc_new w1 _)) HU1.out (by omega) (by unfold maxLen; omega) (by omega) (by simp; omega) (w1.heap.size + 1) (by simp) ?_
      intro gg cap2 w2 hown2 hgrow hat hlt2
      refine hK _ _ ?_
      clear hK K
      refine wpAny_frame fun A13 hA13 => ?_
      have A13e20 : A13.eval (.tmp 20) = .pointer (some ⟨g, 0, none⟩) := by rw [hA13, eval_put_ne _ _ _ _ (by decide)]; exact A12e20
      have A13e27 : A13.eval (.tmp 27) = (.slice (some ⟨gg, 0, none⟩) (n + 1) cap2) := by rw [hA13]; exact eval_put_eq _ _ _ (by omega)
      have A13sz : A13.tmps.size = 30 := by rw [hA13, size_put]; exact A12sz
      have HA13 := Lib.hid hA13
      clear hA13
      refine wpAny_take (i := 8) (oi := { dst := some 28, op := .nilCheck (.tmp 20), type := 0, pos := _, after := _, guard := none }) (v := .pointer (some ⟨g, 0, none⟩)) rfl (by kernel_rfl) (by kernel_rfl) (by kernel_rfl) (fun _ _ _ h => h) (Or.inl ⟨by rfl, by intro w; simp only [execOp, A13e20]; go_simp⟩) ?_
      refine wpAny_take (i := 9) (oi := { dst := some 29, op := .fieldAddr 61 (.tmp 28) 0, type := 0, pos := _, after := _, guard := none }) (v := .pointer (some ⟨g, 0, none⟩)) rfl (by kernel_rfl) (by kernel_rfl) (by kernel_rfl) (fun _ _ _ h => h) (Or.inl ⟨by rfl, by intro w; simp only [execOp, eval_put_eq _ _ _ (show 28 < A13.tmps.size by omega)]; go_simp⟩) ?_
      refine wpAny_frame fun A14 hA14 => ?_
      have x29 : A14.eval (.tmp 29) = .pointer (some ⟨g, 0, none⟩) := by rw [hA14, eval_put_eq _ _ _ (by rw [size_put]; omega)]
      have x27 : A14.eval (.tmp 27) = (.slice (some ⟨gg, 0, none⟩) (n + 1) cap2) := by rw [hA14, eval_put_ne _ _ _ _ (by decide), eval_put_ne _ _ _ _ (by decide)]; exact A13e27
      have HA14 := Lib.hid hA14
      clear hA14
      refine wpAny_ready (rs := [10]) (by kernel_rfl) (by simp) (AllReady.cons (o := { dst := none, op := .store 59 (.tmp 29) (.tmp 27), type := 0, pos := _, after := _, guard := none }) (by rfl) (fun K hK => ?_) (AllReady.nil))
      obtain ⟨hc4, hf4, hend⟩ := push_end HS1.out HN.out hB hlt1 HS.out.lt ha hown2 hgrow hat hlt2 dl
      refine step_store_one (by rfl) 59 (.tmp 29) (.tmp 27) (by rfl) x29 x27 (store_line w2 g _ _ rfl hc4 hf4 ⟨_, _, _, rfl⟩) ?_
      refine hK _ _ ?_
      clear hK K
      refine wpAny_done (by kernel_rfl) ?_ _
      rw [HA14.out, HA13.out, HA12.out, HA11.out, HA6.out, HA0.out]
      clear x27 x29 hc4 hf4
      generalize w2.setCell ⟨g, 0, none⟩ (.slice (some ⟨gg, 0, none⟩) (n + 1) cap2) = w3 at *
      go_wp2
      go_ret
      exact ⟨rfl, by rw [← HD.out]; exact ⟨_, cap2, hend⟩⟩
end Go.Proofs.YtmmniapkajbdhaaDoor
