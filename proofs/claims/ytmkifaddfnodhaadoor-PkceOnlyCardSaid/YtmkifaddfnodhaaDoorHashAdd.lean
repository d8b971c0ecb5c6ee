/- Add, walked. -/
import Derived.Test.YtmkifaddfnodhaaDoorHashNew
import Derived.Deep.RegionWith
import Derived.StillTailTactics
namespace Go.Proofs.YtmkifaddfnodhaaDoor
open Go.RowKit
theorem bytesOf_drop (a : ByteArray) (n : Nat) : bytesOf (a.extract n a.size) = (bytesOf a).drop n := by
  simp [bytesOf, ByteArray.data_extract, List.map_drop]
  exact List.take_of_length_le (by simp)
section
variable {P : Program}
theorem step_load_seg {ops : Array Oper} {o : Oper} {a : Act} {w : World} {K : Act → World → Prop} {Q : Exit → Act → World → Prop} {E : Prop} (hgd : o.guard = none) (ty : TypeId) (x : Operand) (ho : o.op = .load ty x)
    {g off n : Nat} {t : TypeId} {l : List Value} (hx : a.eval x = .pointer (some ⟨g, off, none⟩)) (hb : Blk w g t l) (d : TypeDesc)
    (hu : P.underlying ty = some d) (hd : (match d with | .struct _ | .array _ _ => true | _ => false) = true) (hi : (P.info? ty).map (·.size) = some n) (hn : off + n ≤ l.length)
    (h : K (a.put o.dst (.agg ((l.drop off).take n).toArray)) w) : if Region.wanted o (yielded ops a.tmps) = true then Oper.wp P o a w K Q else E := by
  rw [if_pos (by simp [Region.wanted, hgd])]
  unfold Oper.wp execOp
  simp only [ho, hx, Instr.loadAt, Instr.sureAddr, Sem.run_bind, Sem.run_pure, Result.andThen_ok, run_loadVar_seg hb ty off n d hu hd hi hn]
  exact h
theorem step_store_seg {ops : Array Oper} {o : Oper} {a : Act} {w : World} {K : Act → World → Prop} {Q : Exit → Act → World → Prop} {E : Prop} (hgd : o.guard = none) (ty : TypeId) (x y : Operand) (ho : o.op = .store ty x y)
    {g off : Nat} {t : TypeId} {l cs : List Value} (hx : a.eval x = .pointer (some ⟨g, off, none⟩)) (hy : a.eval y = .agg cs.toArray) (hb : Blk w g t l)
    (hi : (P.info? ty).map (·.size) = some cs.length) (hn : off + cs.length ≤ l.length) (h1 : ∀ v ∈ cs, v.oneCell' = true)
    (h : K (a.put o.dst undef) (w.setRow g (seg l off cs).toArray)) : if Region.wanted o (yielded ops a.tmps) = true then Oper.wp P o a w K Q else E := by
  rw [if_pos (by simp [Region.wanted, hgd])]
  unfold Oper.wp execOp
  simp only [ho, hx, hy, Instr.storeAt, Instr.sureAddr, Sem.run_bind, Sem.run_pure, Result.andThen_ok, run_storeVar_seg hb ty off cs hi hn h1]
  exact h
theorem step_call {ops : Array Oper} {o : Oper} {a : Act} {w : World} {K : Act → World → Prop} {Q : Exit → Act → World → Prop} {E : Prop} (hgd : o.guard = none) {f : FuncId} {xs : Array Operand} {ats : Array TypeId}
    (ho : o.op = .call { callee := .value (.func f), args := xs, argTypes := ats }) {vs : Array Value} (hv : xs.map a.eval = vs) (hf : (callFunc f vs).run P w = .ok (.enter f vs) w) {R : Ending → World → Prop} (hc : Calls P f vs w R)
    (h : ∀ e w', R e w' → ∃ v, e = .returned v ∧ K (a.put o.dst v) w') : if Region.wanted o (yielded ops a.tmps) = true then Oper.wp P o a w K Q else E := by
  rw [if_pos (by simp [Region.wanted, hgd])]
  have e1 : execOp a.eval o = callFunc f vs := by
    have ef : a.eval (.func f) = .func (.func f) #[] #[] := rfl
    rw [← hv]
    unfold execOp
    simp [ho, resolve, Deferred.ofValue, invoke, ef]
  unfold Oper.wp
  rw [e1, hf]
  refine hc.mono fun e w' hh => ?_
  obtain ⟨v, rfl, hk⟩ := h e w' hh
  exact hk
theorem wpAny_frame {md : Region.Mode} {ops : Array Oper} {Q : Exit → Act → World → Prop} {n : Nat} {listed : Array Bool} {a : Act} {w : World} (h : ∀ A, A = a → wpAny P md ops Q n listed A w) : wpAny P md ops Q n listed a w := h a rfl
theorem eval_put_ne (a : Act) (d t : Nat) (v : Value) (h : d ≠ t) : (a.put (some d) v).eval (.tmp t) = a.eval (.tmp t) := by
  simp [Act.eval, Act.put, Array.getElem?_setIfInBounds_ne h]
theorem eval_put_eq (a : Act) (d : Nat) (v : Value) (h : d < a.tmps.size) : (a.put (some d) v).eval (.tmp d) = v := by
  simp [Act.eval, Act.put, h]
theorem size_put (a : Act) (d : Nat) (v : Value) : (a.put (some d) v).tmps.size = a.tmps.size := by
  simp [Act.put]
end
set_option maxHeartbeats 1000000 in
theorem add_any (g : Nat) (v : USha.St) (rest : List (BitVec 8)) (held : Nat) (L : List (BitVec 8)) (p : ByteArray) (w : World) (hB : Blk w g 70 (hc v rest held (L.length : Int))) (hH : USha.Holds v rest held L) (hp : p.size ≤ maxLen) (hL : L.length + p.size < 9223372036854775808)
    (ht : U32Tab w 18 USha.round) (hg : g ≠ 18) :
    Calls Tryd.prog 29 #[.pointer (some ⟨g, 0, none⟩), .string p] w fun e w' => e = .returned (.tuple #[]) ∧ Aside g w w' ∧ ∃ v' rest' held', Blk w' g 70 (hc v' rest' (held' : Nat) ((L.length + p.size : Nat) : Int)) ∧ USha.Holds v' rest' held' (L ++ bytesOf p) := by
  unfold maxLen at hp
  have HT := Lib.hid ht
  clear ht
  have hlr := hH.len
  have c73 := hB.cell 73
  rw [hc_count _ _ _ _ hlr] at c73
  have f73 := hB.frozen 73
  have hs := hB.set 73 (.int .u64 ((L.length + p.size : Nat) : Int))
  rw [hc_set_count _ _ _ _ _ hlr] at hs
  have a0 := Aside.setCell w g 73 (.int .u64 ((L.length + p.size : Nat) : Int))
  have e0 : IntKind.u64.wrap ((L.length : Int) + (p.size : Int)) = ((L.length + p.size : Nat) : Int) := by rw [IntKind.wrap_u64]; omega
  have hsum := Lib.hid hL
  obtain ⟨N, hN⟩ : ∃ N, N = L.length + p.size := ⟨_, rfl⟩
  rw [← hN] at hs a0 e0
  have HS := Lib.hid hs
  have HN := Lib.hid hN
  have HH := Lib.hid hH
  clear hs hN hB hH hL
  have hl0 : (0 : Int) ≤ (L.length : Int) := by omega
  go_enter Tryd.func29, Tryd.ntmps29
  go_wp2
  go_loopw [1, 4] (fun s1 _ wr => ∃ (k : Nat) (s : ByteArray) (v : USha.St) (rest : List (BitVec 8)) (held : Nat), k ≤ p.size ∧ s1 = .string s ∧ bytesOf s = (bytesOf p).drop k ∧ Blk wr g 70 (hc v rest (held : Nat) (N : Nat)) ∧ USha.Holds v rest held (L ++ (bytesOf p).take k) ∧ Aside g w wr) (fun s1 _ _ => match s1 with | .string s => s.size | _ => 0)
  case atStart => exact ⟨0, p, v, rest, held, Nat.zero_le _, rfl, rfl, HS.out, by simpa using HH.out, a0⟩
  case round =>
    clear HS HH a0 hlr e0 c73 f73 hl0
    obtain ⟨k, s, v, rest, held, hk, rfl, hsk, hB, hH, ha⟩ := hrel
    have hsz : s.size = p.size - k := by rw [← bytesOf_length, hsk, List.length_drop, bytesOf_length]
    have hlr := hH.len
    have hlt := hH.lt
    have HSZ := Lib.hid hsz
    have HSK := Lib.hid hsk
    have HH := Lib.hid hH
    clear hsk hH hsz
    by_cases h0 : 0 < s.size
    · have c72 := hB.cell 72
      rw [hc_held _ _ _ _ hlr] at c72
      have h00 : (0 : Int) ≤ (held : Int) := by omega
      have h01 : (held : Int) ≤ 64 := by omega
      have hH64 : held ≤ 64 := by omega
      have hne : ¬ 64 = held := by omega
      obtain ⟨n, hn⟩ : ∃ n, n = min s.size (64 - held) := ⟨_, rfl⟩
      obtain ⟨x, hx⟩ : ∃ x, x = (bytesOf s).take n := ⟨_, rfl⟩
      have hxl : x.length = n := by rw [hx, List.length_take, bytesOf_length]; omega
      have hn0 : 0 < n := by omega
      have hns : n ≤ s.size := by omega
      have hn64 : held + n ≤ 64 := by omega
      have hN := hn
      have HX := Lib.hid hx
      have HNN := Lib.hid hn
      clear hN
      have hlen := hc_length v rest (held : Nat) (N : Nat) hlr
      have HFIT := Lib.hid (show 8 + held + min s.size (64 - held) ≤ (hc v rest (held : Nat) (N : Nat)).length by rw [hlen]; omega)
      have HOV := Lib.hid (hc_seg_over v rest held (held : Nat) (N : Nat) x hlr (by omega))
      have hol := USha.over_length rest held x (by omega)
      rw [hlr] at hol
      have HHP := Lib.hid (fun h => USha.holds_part HH.out (x := x) h)
      have HHW := Lib.hid (fun h => USha.holds_whole HH.out (x := x) h)
      have HK : Hid (L ++ (bytesOf p).take k ++ x = L ++ (bytesOf p).take (k + n)) := Lib.hid (by
        rw [List.append_assoc, hx, HSK.out, ← List.take_add])
      generalize USha.over rest held x = rest2 at *
      have HXL := Lib.hid hxl
      clear hx hn hlen hxl
      go_wp2
      refine wp_region_still_tail 9 (by kernel_rfl) (by kernel_rfl) ?_
      simp only [List.take_succ_cons, List.take_zero, List.drop_succ_cons, List.drop_zero]
      repeat still_step
      refine wpStill_nil ?_
      change wpList _ _ _ _ _ wr.drew
      have hBd := hB.drew
      have had := ha.drew
      generalize wr.drew = wd at *
      clear hB ha c72
      refine wpList_copy_str (by rfl) (.tmp 25) (.tmp 26) 53 9 (by rfl) 5 Tryd.underlying53 (by kernel_rfl) (off := 8 + held) (dLen := 64 - held) (dCap := 64 - held) (s := s) (by rfl) (by rfl) hBd HFIT.out ?_
      intro w1 hB1 ha1
      rw [← HNN.out, ← HX.out, HOV.out] at hB1
      rw [← HNN.out]
      have hB1' := hB1.out
      have c72 := hB1'.cell 72
      have f72 := hB1'.frozen 72
      rw [hc_held _ _ _ _ hol] at c72
      have hB2 := hB1'.set 72 (.int .i64 ((held : Int) + (n : Int)))
      rw [hc_set_held _ _ _ _ _ hol] at hB2
      have HB2 := Lib.hid hB2
      have HA2 := Lib.hid ((had.trans ha1).trans (Aside.setCell w1 g 72 (.int .i64 ((held : Int) + (n : Int)))))
      have c72b := hB2.cell 72
      have f72b := hB2.frozen 72
      rw [hc_held _ _ _ _ hol] at c72b
      clear hB1' hB2 hB1 hBd had ha1
      by_cases hfull : held + n = 64
      · have hq : (held : Int) + (n : Int) = 64 := by omega
        go_wp2
        have hB2 := HB2.out
        have ha2 := HA2.out
        rw [hq] at hB2 ha2
        clear c72 f72 c72b f72b
        generalize w1.setCell ⟨g, 72, none⟩ (.int .i64 64) = w2 at *
        have hB3 := hB2.drew
        have ht2 : U32Tab w2.drew 18 USha.round := HT.out.aside ha2.drew (Ne.symm hg)
        have TK := Lib.hid (take_any v rest2 w2.drew hol ht2)
        clear ht2
        refine wp_region_any (by kernel_rfl) ?_
        change wpAny _ _ _ _ _ _ _ w2.drew
        refine wpAny_take (i := 0) (oi := { dst := some 44, op := .move (.tmp 0), type := 47, pos := _, after := _, guard := none }) (v := .pointer (some ⟨g, 0, none⟩)) rfl (by kernel_rfl) (by kernel_rfl) (by kernel_rfl) (fun _ _ _ h => h) (Or.inl ⟨by rfl, by intro w; go_simp⟩) ?_
        refine wpAny_take (i := 1) (oi := { dst := some 45, op := .move (.tmp 0), type := 47, pos := _, after := _, guard := none }) (v := .pointer (some ⟨g, 0, none⟩)) rfl (by kernel_rfl) (by kernel_rfl) (by kernel_rfl) (fun _ _ _ h => h) (Or.inl ⟨by rfl, by intro w; go_simp⟩) ?_
        refine wpAny_take (i := 2) (oi := { dst := some 46, op := .nilCheck (.tmp 45), type := 0, pos := _, after := _, guard := none }) (v := .pointer (some ⟨g, 0, none⟩)) rfl (by kernel_rfl) (by kernel_rfl) (by kernel_rfl) (fun _ _ _ h => h) (Or.inl ⟨by rfl, by intro w; go_simp⟩) ?_
        refine wpAny_take (i := 3) (oi := { dst := some 47, op := .fieldAddr 70 (.tmp 46) 0, type := 0, pos := _, after := _, guard := none }) (v := .pointer (some ⟨g, 0, none⟩)) rfl (by kernel_rfl) (by kernel_rfl) (by kernel_rfl) (fun _ _ _ h => h) (Or.inl ⟨by rfl, by intro w; go_simp⟩) ?_
        refine wpAny_take (i := 5) (oi := { dst := some 49, op := .move (.tmp 0), type := 47, pos := _, after := _, guard := none }) (v := .pointer (some ⟨g, 0, none⟩)) rfl (by kernel_rfl) (by kernel_rfl) (by kernel_rfl) (fun _ _ _ h => h) (Or.inl ⟨by rfl, by intro w; go_simp⟩) ?_
        refine wpAny_take (i := 6) (oi := { dst := some 50, op := .nilCheck (.tmp 49), type := 0, pos := _, after := _, guard := none }) (v := .pointer (some ⟨g, 0, none⟩)) rfl (by kernel_rfl) (by kernel_rfl) (by kernel_rfl) (fun _ _ _ h => h) (Or.inl ⟨by rfl, by intro w; go_simp⟩) ?_
        refine wpAny_take (i := 7) (oi := { dst := some 51, op := .fieldAddr 70 (.tmp 50) 1, type := 0, pos := _, after := _, guard := none }) (v := .pointer (some ⟨g, 8, none⟩)) rfl (by kernel_rfl) (by kernel_rfl) (by kernel_rfl) (fun _ _ _ h => h) (Or.inl ⟨by rfl, by intro w; go_simp⟩) ?_
        refine wpAny_frame fun A hA => ?_
        have e47 : A.eval (.tmp 47) = .pointer (some ⟨g, 0, none⟩) := by rw [hA]; simp [Act.eval, Act.put]
        have e51 : A.eval (.tmp 51) = .pointer (some ⟨g, 8, none⟩) := by rw [hA]; simp [Act.eval, Act.put]
        have esz : A.tmps.size = 59 := by rw [hA]; simp [Act.put]
        have HA := Lib.hid hA
        clear hA
        refine wpAny_ready (rs := [4, 8]) (by kernel_rfl) (by simp) (AllReady.cons (o := { dst := some 48, op := .load 66 (.tmp 47), type := 66, pos := _, after := _, guard := none }) (by rfl) (fun K hK => ?o1) (AllReady.cons (o := { dst := some 52, op := .load 67 (.tmp 51), type := 67, pos := _, after := _, guard := none }) (by rfl) (fun K hK => ?o2) AllReady.nil))
        case o1 =>
          refine step_load_seg (by rfl) 66 (.tmp 47) (by rfl) (g := g) (off := 0) (n := 8) e47 hB3 _ Tryd.underlying66 rfl (by kernel_rfl) (by rw [hc_length _ _ _ _ hol]; omega) ?_; rw [hc_state]; refine hK _ _ ?_; clear hK K
          refine wpAny_ready (rs := [8]) (by kernel_rfl) (by simp) (AllReady.cons (o := { dst := some 52, op := .load 67 (.tmp 51), type := 67, pos := _, after := _, guard := none }) (by rfl) (fun K hK => ?_) AllReady.nil)
          refine step_load_seg (by rfl) 67 (.tmp 51) (by rfl) (g := g) (off := 8) (n := 64) (by rw [eval_put_ne _ _ _ _ (by decide)]; exact e51) hB3 _ Tryd.underlying67 rfl (by kernel_rfl) (by rw [hc_length _ _ _ _ hol]; omega) ?_; rw [hc_rest _ _ _ _ hol]; refine hK _ _ ?_; clear hK K
          refine wpAny_frame fun A2 hA2 => ?_
          refine wpAny_ready (rs := [9]) (by kernel_rfl) (by simp) (AllReady.cons (o := { dst := some 53, op := .call { callee := .value (.func 42), args := #[.tmp 48, .tmp 52], argTypes := #[66, 67] }, type := 66, pos := _, after := _, guard := none }) (by rfl) (fun K hK => ?_) AllReady.nil)
          have f48 : A2.eval (.tmp 48) = .agg (vl v).toArray := by rw [hA2]; first | rw [eval_put_ne _ _ _ _ (by decide), eval_put_eq _ _ _ (by omega)] | rw [eval_put_eq _ _ _ (by rw [size_put]; omega)]
          have f52 : A2.eval (.tmp 52) = .agg (u8s rest2).toArray := by rw [hA2]; first | rw [eval_put_ne _ _ _ _ (by decide), eval_put_eq _ _ _ (by omega)] | rw [eval_put_eq _ _ _ (by rw [size_put]; omega)]
          have fsz : A2.tmps.size = 59 := by rw [hA2, size_put, size_put]; exact esz
          have HA2' := Lib.hid hA2
          clear hA2
          refine step_call (by rfl) (by rfl) (vs := #[.agg (vl v).toArray, .agg (u8s rest2).toArray]) (by simp [f48, f52]) (by go_simp) TK.out ?_
          rintro e w3 ⟨rfl, hb3⟩
          refine ⟨_, rfl, hK _ _ ?_⟩
          clear hK K
          have hB4 := hB3.below hb3 hB3.lt
          have ha4 := ha2.drew.trans (Aside.of_below hb3)
          rw [HA2'.out, HA.out]
          refine wpAny_take (i := 10) (oi := { dst := some 54, op := .nilCheck (.tmp 44), type := 0, pos := _, after := _, guard := none }) (v := .pointer (some ⟨g, 0, none⟩)) rfl (by kernel_rfl) (by kernel_rfl) (by kernel_rfl) (fun _ _ _ h => h) (Or.inl ⟨by rfl, by intro w; go_simp⟩) ?_
          refine wpAny_take (i := 11) (oi := { dst := some 55, op := .fieldAddr 70 (.tmp 54) 0, type := 0, pos := _, after := _, guard := none }) (v := .pointer (some ⟨g, 0, none⟩)) rfl (by kernel_rfl) (by kernel_rfl) (by kernel_rfl) (fun _ _ _ h => h) (Or.inl ⟨by rfl, by intro w; go_simp⟩) ?_
          refine wpAny_frame fun A3 hA3 => ?_
          have f53 : A3.eval (.tmp 53) = .agg (vl (USha.compress v (USha.word (byteFn rest2)))).toArray := by rw [hA3]; simp [Act.eval, Act.put]
          have f55 : A3.eval (.tmp 55) = .pointer (some ⟨g, 0, none⟩) := by rw [hA3]; simp [Act.eval, Act.put]
          have HA3 := Lib.hid hA3
          clear hA3
          refine wpAny_ready (rs := [12]) (by kernel_rfl) (by simp) (AllReady.cons (o := { dst := none, op := .store 66 (.tmp 55) (.tmp 53), type := 0, pos := _, after := _, guard := none }) (by rfl) (fun K hK => ?_) AllReady.nil)
          refine step_store_seg (by rfl) 66 (.tmp 55) (.tmp 53) (by rfl) (g := g) (off := 0) (cs := vl (USha.compress v (USha.word (byteFn rest2)))) f55 f53 hB4 (by rw [vl_length]; kernel_rfl) (by rw [vl_length, hc_length _ _ _ _ hol]; omega) (vl_one _) ?_
          refine hK _ _ ?_
          clear hK K
          refine wpAny_done (by kernel_rfl) ?_ _
          rw [hc_seg_state]
          have hB5 := hB4.row (hc (USha.compress v (USha.word (byteFn rest2))) rest2 64 (N : Nat))
          have ha5 := ha4.trans (Aside.setRow w3 g (hc (USha.compress v (USha.word (byteFn rest2))) rest2 64 (N : Nat)).toArray)
          generalize w3.setRow g _ = w4 at *
          rw [HA3.out]
          clear e47 e51 esz f48 f52 f53 f55 fsz TK hB2 ha2 hB3 hB4 ha4 HB2 HA2 HA HA2' HA3 hb3
          have c72 := hB5.cell 72
          have f72 := hB5.frozen 72
          rw [hc_held _ _ _ _ hol] at c72
          have hB6 := hB5.set 72 (.int .i64 0)
          rw [hc_set_held _ _ _ _ _ hol] at hB6
          have HB6 := Lib.hid hB6
          have HA6 := Lib.hid (ha5.trans (Aside.setCell w4 g 72 (.int .i64 0)))
          clear hB5 hB6 ha5
          go_wp2
          go_roundw
          case rel =>
            have h1 := HHW.out (by rw [HXL.out]; exact hfull)
            rw [HK.out] at h1
            exact ⟨k + n, s.extract n s.size, _, rest2, 0, by have := HSZ.out; omega, rfl, by rw [bytesOf_drop, HSK.out, List.drop_drop], HB6.out, h1, HA6.out⟩
          case measure => simp; omega
        case o2 =>
          refine step_load_seg (by rfl) 67 (.tmp 51) (by rfl) (g := g) (off := 8) (n := 64) e51 hB3 _ Tryd.underlying67 rfl (by kernel_rfl) (by rw [hc_length _ _ _ _ hol]; omega) ?_; rw [hc_rest _ _ _ _ hol]; refine hK _ _ ?_; clear hK K
          refine wpAny_ready (rs := [4]) (by kernel_rfl) (by simp) (AllReady.cons (o := { dst := some 48, op := .load 66 (.tmp 47), type := 66, pos := _, after := _, guard := none }) (by rfl) (fun K hK => ?_) AllReady.nil)
          refine step_load_seg (by rfl) 66 (.tmp 47) (by rfl) (g := g) (off := 0) (n := 8) (by rw [eval_put_ne _ _ _ _ (by decide)]; exact e47) hB3 _ Tryd.underlying66 rfl (by kernel_rfl) (by rw [hc_length _ _ _ _ hol]; omega) ?_; rw [hc_state]; refine hK _ _ ?_; clear hK K
          refine wpAny_frame fun A2 hA2 => ?_
          refine wpAny_ready (rs := [9]) (by kernel_rfl) (by simp) (AllReady.cons (o := { dst := some 53, op := .call { callee := .value (.func 42), args := #[.tmp 48, .tmp 52], argTypes := #[66, 67] }, type := 66, pos := _, after := _, guard := none }) (by rfl) (fun K hK => ?_) AllReady.nil)
          have f48 : A2.eval (.tmp 48) = .agg (vl v).toArray := by rw [hA2]; first | rw [eval_put_ne _ _ _ _ (by decide), eval_put_eq _ _ _ (by omega)] | rw [eval_put_eq _ _ _ (by rw [size_put]; omega)]
          have f52 : A2.eval (.tmp 52) = .agg (u8s rest2).toArray := by rw [hA2]; first | rw [eval_put_ne _ _ _ _ (by decide), eval_put_eq _ _ _ (by omega)] | rw [eval_put_eq _ _ _ (by rw [size_put]; omega)]
          have fsz : A2.tmps.size = 59 := by rw [hA2, size_put, size_put]; exact esz
          have HA2' := Lib.hid hA2
          clear hA2
          refine step_call (by rfl) (by rfl) (vs := #[.agg (vl v).toArray, .agg (u8s rest2).toArray]) (by simp [f48, f52]) (by go_simp) TK.out ?_
          rintro e w3 ⟨rfl, hb3⟩
          refine ⟨_, rfl, hK _ _ ?_⟩
          clear hK K
          have hB4 := hB3.below hb3 hB3.lt
          have ha4 := ha2.drew.trans (Aside.of_below hb3)
          rw [HA2'.out, HA.out]
          refine wpAny_take (i := 10) (oi := { dst := some 54, op := .nilCheck (.tmp 44), type := 0, pos := _, after := _, guard := none }) (v := .pointer (some ⟨g, 0, none⟩)) rfl (by kernel_rfl) (by kernel_rfl) (by kernel_rfl) (fun _ _ _ h => h) (Or.inl ⟨by rfl, by intro w; go_simp⟩) ?_
          refine wpAny_take (i := 11) (oi := { dst := some 55, op := .fieldAddr 70 (.tmp 54) 0, type := 0, pos := _, after := _, guard := none }) (v := .pointer (some ⟨g, 0, none⟩)) rfl (by kernel_rfl) (by kernel_rfl) (by kernel_rfl) (fun _ _ _ h => h) (Or.inl ⟨by rfl, by intro w; go_simp⟩) ?_
          refine wpAny_frame fun A3 hA3 => ?_
          have f53 : A3.eval (.tmp 53) = .agg (vl (USha.compress v (USha.word (byteFn rest2)))).toArray := by rw [hA3]; simp [Act.eval, Act.put]
          have f55 : A3.eval (.tmp 55) = .pointer (some ⟨g, 0, none⟩) := by rw [hA3]; simp [Act.eval, Act.put]
          have HA3 := Lib.hid hA3
          clear hA3
          refine wpAny_ready (rs := [12]) (by kernel_rfl) (by simp) (AllReady.cons (o := { dst := none, op := .store 66 (.tmp 55) (.tmp 53), type := 0, pos := _, after := _, guard := none }) (by rfl) (fun K hK => ?_) AllReady.nil)
          refine step_store_seg (by rfl) 66 (.tmp 55) (.tmp 53) (by rfl) (g := g) (off := 0) (cs := vl (USha.compress v (USha.word (byteFn rest2)))) f55 f53 hB4 (by rw [vl_length]; kernel_rfl) (by rw [vl_length, hc_length _ _ _ _ hol]; omega) (vl_one _) ?_
          refine hK _ _ ?_
          clear hK K
          refine wpAny_done (by kernel_rfl) ?_ _
          rw [hc_seg_state]
          have hB5 := hB4.row (hc (USha.compress v (USha.word (byteFn rest2))) rest2 64 (N : Nat))
          have ha5 := ha4.trans (Aside.setRow w3 g (hc (USha.compress v (USha.word (byteFn rest2))) rest2 64 (N : Nat)).toArray)
          generalize w3.setRow g _ = w4 at *
          rw [HA3.out]
          clear e47 e51 esz f48 f52 f53 f55 fsz TK hB2 ha2 hB3 hB4 ha4 HB2 HA2 HA HA2' HA3 hb3
          have c72 := hB5.cell 72
          have f72 := hB5.frozen 72
          rw [hc_held _ _ _ _ hol] at c72
          have hB6 := hB5.set 72 (.int .i64 0)
          rw [hc_set_held _ _ _ _ _ hol] at hB6
          have HB6 := Lib.hid hB6
          have HA6 := Lib.hid (ha5.trans (Aside.setCell w4 g 72 (.int .i64 0)))
          clear hB5 hB6 ha5
          go_wp2
          go_roundw
          case rel =>
            have h1 := HHW.out (by rw [HXL.out]; exact hfull)
            rw [HK.out] at h1
            exact ⟨k + n, s.extract n s.size, _, rest2, 0, by have := HSZ.out; omega, rfl, by rw [bytesOf_drop, HSK.out, List.drop_drop], HB6.out, h1, HA6.out⟩
          case measure => simp; omega
      · have hfull2 : held + n < 64 := by omega
        go_wp2
        go_roundw
        case rel =>
          have h1 := HHP.out (by rw [HXL.out]; exact hfull2)
          rw [HXL.out, HK.out] at h1
          exact ⟨k + n, s.extract n s.size, v, rest2, held + n, by have := HSZ.out; omega, rfl, by rw [bytesOf_drop, HSK.out, List.drop_drop], HB2.out, h1, HA2.out⟩
        case measure => simp; omega
    · have hkk : k = p.size := by have := HSZ.out; omega
      have h2 := HH.out
      rw [hkk, List.take_of_length_le (by rw [bytesOf_length]; omega)] at h2
      have H2 := Lib.hid h2
      have HBF := Lib.hid hB
      have hz : s.size = 0 := by omega
      clear h2 hB HH HSK HSZ
      go_wp2
      go_end0
      exact ⟨rfl, ha, v, rest, held, by rw [← HN.out]; exact HBF.out, H2.out⟩
end Go.Proofs.YtmkifaddfnodhaaDoor
