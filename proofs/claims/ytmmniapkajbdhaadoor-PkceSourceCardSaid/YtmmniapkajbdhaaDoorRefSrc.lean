/- A source of the reference: the line of its draws as strings, cut from the head; NewSource, Left, Push, Peek, Drop. -/
import Derived.Test.YtmmniapkajbdhaaDoorOnceAsk
import Derived.Test.YtmmniapkajbdhaaDoorRadixRefWP
namespace Go.Proofs.YtmmniapkajbdhaaDoor
open Go.RowKit
theorem own_blocks {w w' : World} {B : Nat} {e : TypeId} {size n : Nat} {v : Value} {xs : List Value} (h : w.ownsRow B e size v n xs) (hb : ∀ k, v.ownBlock = some k → w'.heap[k]? = w.heap[k]?) : w'.ownsRow B e size v n xs := by
  refine ⟨h.1, ?_⟩
  rcases h.2 with h0 | ⟨g', cap', cur, hv, hle, hh, r⟩
  · exact .inl h0
  · exact .inr ⟨g', cap', cur, hv, hle, (hb g' (by rw [hv]; rfl)).trans hh, r⟩
theorem own_below2 {w w' : World} {B : Nat} {e : TypeId} {size n : Nat} {v : Value} {xs : List Value} (h : w.ownsRow B e size v n xs) (hb : Below w.heap.size w w') : w'.ownsRow B e size v n xs := own_blocks h fun k hk => hb.block k (h.lt k hk).2
theorem own_ne2 {w : World} {B k b : Nat} {e t : TypeId} {size n : Nat} {v : Value} {xs l : List Value} (h : w.ownsRow B e size v n xs) (hb : Blk w b t l) (hne : e ≠ t) (hk : v.ownBlock = some k) : k ≠ b := by
  rintro rfl
  rcases h.2 with ⟨rfl, _⟩ | ⟨g', cap', cur, rfl, _, hh, _⟩
  · cases hk
  · simp [Value.ownBlock] at hk
    subst hk
    unfold Blk at hb
    rw [hh] at hb
    simp at hb
    exact hne hb.2
theorem own_keep2 {w w' : World} {B g : Nat} {t : TypeId} {l : List Value} {n : Nat} {v : Value} {xs : List Value} (h : w.ownsRow B 9 1 v n xs) (hk : Keeps [g] w w') (hg : Blk w g t l) (ht : 9 ≠ t) : w'.ownsRow B 9 1 v n xs :=
  own_blocks h fun k e => hk.block k (h.lt k e).2 (by simpa using own_ne2 h hg ht e)
def strs (L : List ByteArray) : List Value := L.map Value.string
theorem strs_length (L : List ByteArray) : (strs L).length = L.length := by simp [strs]
/-- block g holds a source of the reference whose line is L; the line's row lies from B on -/
def RowOf (w : World) (B : Nat) (ba : Option Addr) (cap : Nat) (L : List ByteArray) : Prop :=
  (ba = none ∧ L = [] ∧ cap = 0) ∨ ∃ gr off cur, ba = some ⟨gr, off, none⟩ ∧ B ≤ gr ∧ w.heap[gr]? = some (.cells cur 9 (0, 0)) ∧ L.length ≤ cap ∧ cap ≤ maxLen ∧ off + cap ≤ cur.size ∧ (cur.toList.drop off).take L.length = strs L
structure RSrc (w : World) (B g : Nat) (ba : Option Addr) (cap : Nat) (L : List ByteArray) : Prop where
  blk : Blk w g 63 [.slice ba L.length cap]
  row : RowOf w B ba cap L
theorem RSrc.lt {w : World} {B g : Nat} {ba : Option Addr} {cap : Nat} {L : List ByteArray} (h : RSrc w B g ba cap L) : g < w.heap.size := h.blk.lt
theorem RSrc.rowAt {w : World} {B g : Nat} {ba : Option Addr} {cap : Nat} {L : List ByteArray} (h : RSrc w B g ba cap L) (k : Nat) (hk : ba.map (·.block) = some k) : B ≤ k ∧ ∃ cur, w.heap[k]? = some (.cells cur 9 (0, 0)) := by
  rcases h.row with ⟨rfl, _⟩ | ⟨gr, off, cur, rfl, hle, hh, _⟩
  · cases hk
  · simp at hk
    subst hk
    exact ⟨hle, cur, hh⟩
theorem RSrc.rowLt {w : World} {B g : Nat} {ba : Option Addr} {cap : Nat} {L : List ByteArray} (h : RSrc w B g ba cap L) (k : Nat) (hk : ba.map (·.block) = some k) : k < w.heap.size := by
  obtain ⟨_, cur, hh⟩ := h.rowAt k hk
  exact Blk.lt (w := w) (g := k) (t := 9) (l := cur.toList) (by unfold Blk; exact hh)
theorem RSrc.rowNe {w : World} {B g b : Nat} {ba : Option Addr} {cap : Nat} {L : List ByteArray} (h : RSrc w B g ba cap L) {t : TypeId} {l : List Value} (hb : Blk w b t l) (ht : 9 ≠ t) (k : Nat) (hk : ba.map (·.block) = some k) : k ≠ b := by
  rintro rfl
  obtain ⟨_, cur, hh⟩ := h.rowAt k hk
  unfold Blk at hb
  rw [hh] at hb
  simp at hb
  exact ht hb.2
theorem RSrc.keep {w w' : World} {B g : Nat} {ba : Option Addr} {cap : Nat} {L : List ByteArray} (h : RSrc w B g ba cap L) (hb : ∀ k, k = g ∨ ba.map (·.block) = some k → w'.heap[k]? = w.heap[k]?) : RSrc w' B g ba cap L := by
  refine ⟨(hb g (.inl rfl)).trans h.blk, ?_⟩
  rcases h.row with h0 | ⟨gr, off, cur, he, hle, hh, r⟩
  · exact .inl h0
  · exact .inr ⟨gr, off, cur, he, hle, (hb gr (.inr (by rw [he]; rfl))).trans hh, r⟩
theorem RSrc.below {w w' : World} {B g : Nat} {ba : Option Addr} {cap : Nat} {L : List ByteArray} (h : RSrc w B g ba cap L) (hb : Below w.heap.size w w') : RSrc w' B g ba cap L :=
  h.keep fun k hk => hb.block k (by
    rcases hk with rfl | hk
    · exact h.lt
    · exact h.rowLt k hk)
theorem rnew_any (w : World) (B : Nat) :
    Calls Tryd.prog 12 #[] w fun e w' => e = .returned (.pointer (some ⟨w.heap.size, 0, none⟩)) ∧ RSrc w' B w.heap.size none 0 [] ∧ Below w.heap.size w w' := by
  go_enter Tryd.func12, Tryd.ntmps12
  go_wp2
  go_ret
  exact ⟨rfl, ⟨Blk.new w _ _, .inl ⟨rfl, rfl, rfl⟩⟩, (Below.refl _ _).alloc (Nat.le_refl _) _⟩
theorem rleft_any {w : World} {B g : Nat} {ba : Option Addr} {cap : Nat} {L : List ByteArray} (h : RSrc w B g ba cap L) :
    Calls Tryd.prog 22 #[.pointer (some ⟨g, 0, none⟩)] w fun e w' => e = .returned (.int .i64 (L.length : Int)) ∧ w = w' := by
  have c0 : w.cell? ⟨g, 0, none⟩ = some (.slice ba L.length cap) := h.blk.cell 0
  clear h
  generalize L.length = n at *
  go_enter Tryd.func22, Tryd.ntmps22
  go_wp2
  go_ret
  exact ⟨rfl, rfl⟩
theorem rpush_len (p : ByteArray) (g : Nat) (w : World) (hp : p.size ≠ 32) :
    Calls Tryd.prog 16 #[.pointer (some ⟨g, 0, none⟩), .string p] w fun e w' => e = .returned (.int .i64 1) ∧ w = w' := by
  have q : ((p.size : Int) != 32) = true := by rw [bne_iff_ne]; omega
  clear hp
  go_enter Tryd.func16, Tryd.ntmps16
  go_wp2
  go_ret
  exact ⟨rfl, rfl⟩
theorem rpush_many (p : ByteArray) {w : World} {B g : Nat} {ba : Option Addr} {cap : Nat} {L : List ByteArray} (hS : RSrc w B g ba cap L) (hp : p.size = 32) (hL : 1024 ≤ L.length) :
    Calls Tryd.prog 16 #[.pointer (some ⟨g, 0, none⟩), .string p] w fun e w' => e = .returned (.int .i64 3) ∧ w = w' := by
  have q : ((p.size : Int) != 32) = false := by rw [hp]; rfl
  have c1 : w.cell? ⟨g, 0, none⟩ = some (.slice ba L.length cap) := hS.blk.cell 0
  clear hp hS
  generalize L.length = n at *
  have d : decide ((1024 : Int) ≤ (n : Int)) = true := decide_eq_true (by omega)
  have d2 : (1024 : Int) ≤ (n : Int) := by omega
  go_enter Tryd.func16, Tryd.ntmps16
  go_wp2
  go_ret
  exact ⟨rfl, rfl⟩
section
variable {P : Program} (w : World)
theorem run_append_room_off (t ty e : TypeId) (i : TypeInfo) (ht : P.underlying t = some (.slice e)) (hi : P.info? e = some i) (hz : i.size = 1)
    (g off sLen sCap : Nat) (cur : Array Value) (hg : w.heap[g]? = some (.cells cur e (0, 0))) (h c : Nat) (u : Value) (hu : w.cell? ⟨h, 0, none⟩ = some u) (h1 : u.oneCell' = true)
    (hroom : sLen + 1 ≤ sCap) (hfit : off + sLen + 1 ≤ cur.size) :
    (Builtin.append_ #[t, t] ty #[.slice (some ⟨g, off, none⟩) sLen sCap, .slice (some ⟨h, 0, none⟩) 1 c]).run P w =
      .ok (.slice (some ⟨g, off, none⟩) (sLen + 1) sCap) (w.setRow g (cur.toList.take (off + sLen) ++ [u] ++ cur.toList.drop (off + sLen + 1)).toArray) := by
  have hf := run_firstCells_some (P := P) w i.size 1 ⟨h, 0, none⟩ 1 c [u] (by simp [hz]) (fun j v hj => by
    match j, hj with
    | 0, hj => simp at hj; subst hj; simpa [Addr.add] using hu)
  have hst := run_storeCells_at P g (off + sLen) e [u] 0 cur w hg (by simpa using hfit) (by intro v hv; simp at hv; subst hv; exact h1)
  simp only [Nat.add_zero] at hst
  rw [hz] at hf
  have ha : (⟨g, off, none⟩ : Addr).add sLen = ⟨g, off + sLen, none⟩ := by unfold Addr.add; split <;> simp_all
  simp [Builtin.append_, run_underlying ht, sizeOf, typeInfo, hi, hz, Builtin.lenOf, hroom, hf, ha, hst]
theorem wpList_append_run {ops : Array Oper} {rest : List Oper} {o : Oper} {a : Act} {Q : Exit → Act → World → Prop} (hgd : o.guard = none) (s x : Operand) (t : TypeId)
    (ho : o.op = .call { callee := .builtin .append, args := #[s, x], argTypes := #[t, t] }) {v u r : Value} {w' : World} (hs : a.eval s = v) (hx : a.eval x = u) (hr : (Builtin.append_ #[t, t] o.type #[v, u]).run P w = .ok r w')
    (h : wpList P ops Q rest (a.put o.dst r) w') : wpList P ops Q (o :: rest) a w :=
  wpList_plain hgd fun _ hK => by
    unfold Oper.wp execOp
    simp only [ho, resolve, invoke, builtin, Sem.run_bind, Sem.run_pure, Result.andThen_ok, List.map_toArray, List.map_cons, List.map_nil, hs, hx, hr]
    exact hK _ _ h
end
theorem infoS' : (Tryd.prog.info? 9).map (fun i => (i.zero, i.size, i.bytes)) = some (some (.string { data := #[] }), 1, 16) := by kernel_rfl
theorem run_rappend (w : World) {B : Nat} {ba : Option Addr} {cap : Nat} {L : List ByteArray} (hR : RowOf w B ba cap L) (x : ByteArray) (h c : Nat) (hu : w.cell? ⟨h, 0, none⟩ = some (.string x)) (hL : L.length < 1024) (hB : B ≤ w.heap.size) :
    ∃ ba' cap' w', (∀ ty, (Builtin.append_ #[34, 34] ty #[.slice ba L.length cap, .slice (some ⟨h, 0, none⟩) 1 c]).run Tryd.prog w = .ok (.slice ba' (L.length + 1) cap') w') ∧ RowOf w' B ba' cap' (L ++ [x]) ∧ w.grownBy w' (ba.map (·.block)) ∧
      (∀ k, ba'.map (·.block) = some k → ba.map (·.block) = some k ∨ k = w.heap.size) := by
  obtain ⟨i0, hi, hz0, hz1, hz2⟩ := info_parts infoS'
  have hnews : ∀ j v, [Value.string x][j]? = some v → w.cell? ((⟨h, 0, none⟩ : Addr).add j) = some v := fun j v hj => by
    match j, hj with
    | 0, hj => simp at hj; subst hj; simpa [Addr.add] using hu
  rcases hR with ⟨rfl, rfl, rfl⟩ | ⟨gr, off, cur, rfl, hle, hh, hnc, hcm, hsz, htk⟩
  · refine ⟨_, _, _, fun ty => run_append_nil (P := Tryd.prog) w 34 ty 9 i0 _ Tryd.underlying34 hi hz0 ⟨h, 0, none⟩ 1 c [.string x] (by simp [hz1]) hnews (by omega) (by omega) (by rw [hz2]; omega), ?_, ⟨rfl, rfl, rfl, by simp, fun k hk _ => Below.heap_alloc w.drew _ k hk⟩, fun k hk => .inr (by simpa using hk.symm)⟩
    have hge := grownCap_ge w 1 0 9
    refine .inr ⟨w.heap.size, 0, _, rfl, hB, heap_alloc_new w.drew _, hge, grownCap_le_maxLen w 1 0 9 (by decide), ?_, ?_⟩
    · simp only [Array.size_append, List.size_toArray, size_zeroCells, List.length_singleton]
      have : (Value.string { data := #[] }).cells.size = 1 := rfl
      rw [this]
      omega
    · simp [strs]
  · by_cases hroom : L.length + 1 ≤ cap
    · refine ⟨_, _, _, fun ty => run_append_room_off (P := Tryd.prog) w 34 ty 9 i0 Tryd.underlying34 hi hz1 gr off L.length cap cur hh h c (.string x) hu rfl hroom (by omega), ?_, ⟨rfl, rfl, rfl, by simp, fun k _ hk => setRow_other w gr k _ (fun e => hk (by simp [e]))⟩, fun k hk => .inl hk⟩
      refine .inr ⟨gr, off, _, rfl, hle, setRow_heap w gr cur _ 9 _ hh, by rw [List.length_append]; simpa using hroom, hcm, ?_, ?_⟩
      · simp only [List.size_toArray, List.length_append, List.length_take, List.length_drop, Array.length_toList, List.length_singleton]
        omega
      · have hlen : (cur.toList.take off).length = off := by rw [List.length_take, Array.length_toList]; omega
        have e1 : cur.toList.take (off + L.length) = cur.toList.take off ++ strs L := by rw [← htk, List.take_add]
        simp only [e1, List.append_assoc]
        have h3 : (cur.toList.take off ++ (strs L ++ ([Value.string x] ++ cur.toList.drop (off + L.length + 1)))).drop off = strs L ++ ([Value.string x] ++ cur.toList.drop (off + L.length + 1)) := by
          have := List.drop_left (l₁ := cur.toList.take off) (l₂ := strs L ++ ([Value.string x] ++ cur.toList.drop (off + L.length + 1)))
          rwa [hlen] at this
        rw [h3, ← List.append_assoc]
        have h4 : (strs L ++ [Value.string x]).length = (L ++ [x]).length := by simp [strs]
        rw [← h4, List.take_left]
        simp [strs]
    · have holds : ∀ j v, (strs L)[j]? = some v → w.cell? ((⟨gr, off, none⟩ : Addr).add j) = some v := fun j v hj => by
        have ha : (⟨gr, off, none⟩ : Addr).add j = ⟨gr, off + j, none⟩ := by unfold Addr.add; split <;> simp_all
        rw [ha, cell_of_row w gr (off + j) cur 9 (0, 0) hh]
        rw [← htk, List.getElem?_take] at hj
        split at hj
        · rw [List.getElem?_drop, Array.getElem?_toList] at hj; exact hj
        · cases hj
      have hcap : cap = L.length := by omega
      refine ⟨_, _, _, fun ty => run_append_grow (P := Tryd.prog) w 34 ty 9 i0 _ Tryd.underlying34 hi hz0 ⟨gr, off, none⟩ L.length cap (strs L) (by simp [hz1, strs]) holds ⟨h, 0, none⟩ 1 c [.string x] (by simp [hz1]) hnews (by omega) (by omega) (growslice_fits (by omega) (by rw [hz2]; omega)), ?_, ⟨rfl, rfl, rfl, by simp, fun k hk _ => Below.heap_alloc w.drew _ k hk⟩, fun k hk => .inr (by simpa using hk.symm)⟩
      have hge := grownCap_ge w (L.length + 1) cap 9
      refine .inr ⟨w.heap.size, 0, _, rfl, hB, heap_alloc_new w.drew _, by rw [List.length_append]; simpa using hge, grownCap_le_maxLen w (L.length + 1) cap 9 (by unfold maxLen; omega), ?_, ?_⟩
      · simp only [Array.size_append, List.size_toArray, size_zeroCells, List.length_singleton, strs_length]
        have : (Value.string { data := #[] }).cells.size = 1 := rfl
        rw [this]
        omega
      · simp only [List.drop_zero, Array.toList_append]
        have h4 : (strs L ++ [Value.string x]).length = (L ++ [x]).length := by simp [strs]
        rw [← h4, List.take_left]
        simp [strs]
/-- the reference's source has turned to the line L', and nothing else -/
def RTurned (w w' : World) (B g : Nat) (ba : Option Addr) (L' : List ByteArray) : Prop := ∃ ba' cap', RSrc w' B g ba' cap' L' ∧ Touch g (ba.map (·.block)) w w' ∧ (∀ k, ba'.map (·.block) = some k → ba.map (·.block) = some k ∨ w.heap.size ≤ k)
set_option maxHeartbeats 1000000 in
theorem rpush_yes (p : ByteArray) {w : World} {B g : Nat} {ba : Option Addr} {cap : Nat} {L : List ByteArray} (hS : RSrc w B g ba cap L) (hp : p.size = 32) (hL : L.length < 1024) (hB : B ≤ w.heap.size) :
    Calls Tryd.prog 16 #[.pointer (some ⟨g, 0, none⟩), .string p] w fun e w' => e = .returned (.int .i64 0) ∧ RTurned w w' B g ba (L ++ [p]) := by
  have q : ((p.size : Int) != 32) = false := by rw [hp]; rfl
  have c1 : w.cell? ⟨g, 0, none⟩ = some (.slice ba L.length cap) := hS.blk.cell 0
  have hbA : Below w.heap.size w (w.alloc (.cells #[.string p] 9)) := (Below.refl _ _).alloc (Nat.le_refl _) _
  have hA := hS.below hbA
  have cA : (w.alloc (.cells #[.string p] 9)).cell? ⟨g, 0, none⟩ = some (.slice ba L.length cap) := hA.blk.cell 0
  obtain ⟨ba2, cap2, w2, hrun, hrow, hgrow, hat⟩ := run_rappend (w.alloc (.cells #[.string p] 9)) hA.row p w.heap.size 1 ((Blk.new w 9 [.string p]).cell 0) hL (by simp; omega)
  have glt := hS.lt
  have gne : ba.map (·.block) ≠ some g := fun e => hS.rowNe hS.blk (by decide) g e rfl
  have hsz : (w.alloc (.cells #[.string p] 9)).heap.size = w.heap.size + 1 := by simp
  have keep : ∀ k, k < w.heap.size → ba.map (·.block) ≠ some k → w2.heap[k]? = w.heap[k]? := fun k hk hne => (hgrow.block k (by rw [hsz]; omega) (fun e => hne e.symm)).trans (Below.heap_alloc w _ k hk)
  have hB2 : Blk w2 g 63 [.slice ba L.length cap] := by
    have hb := hS.blk
    have hk := keep g glt gne
    unfold Blk at *
    rw [hk]
    exact hb
  have c2 : w2.cell? ⟨g, 0, none⟩ = some (.slice ba L.length cap) := hB2.cell 0
  have f2 : w2.frozen? ⟨g, 0, none⟩ = false := hB2.frozen 0
  have hend : RTurned w (w2.setCell ⟨g, 0, none⟩ (.slice ba2 (L.length + 1) cap2)) B g ba (L ++ [p]) := by
    have hrl : ∀ k, ba2.map (·.block) = some k → k ≠ g := fun k hk => by
      rcases hat k hk with h | h
      · exact fun e => gne (by rw [h, e])
      · rw [hsz] at h; omega
    refine ⟨ba2, cap2, ⟨?_, ?_⟩, ⟨hgrow.os, hgrow.tape, hgrow.output, ?_, ?_⟩, ?_⟩
    · have := hB2.set 0 (.slice ba2 (L.length + 1) cap2)
      simpa using this
    · rcases hrow with h0 | ⟨gr, off, cur, he, hle, hh, r⟩
      · exact .inl h0
      · refine .inr ⟨gr, off, cur, he, hle, ?_, r⟩
        rw [Below.heap_setCell w2 ⟨g, 0, none⟩ _ gr (hrl gr (by rw [he]; rfl))]
        exact hh
    · have := hgrow.size
      rw [hsz] at this
      simp [World.setCell]
      omega
    · intro k hk hkg hkr
      rw [Below.heap_setCell w2 ⟨g, 0, none⟩ _ k hkg]
      exact keep k hk hkr
    · intro k hk
      rcases hat k hk with h | h
      · exact .inl h
      · rw [hsz] at h; exact .inr (by omega)
  have HE := Lib.hid hend
  have HR := Lib.hid hrun
  clear hS hp hA hrow hgrow hat keep hB2 hend hrun gne hsz hbA
  generalize L ++ [p] = L2 at *
  generalize L.length = n at *
  have d : decide ((1024 : Int) ≤ (n : Int)) = false := decide_eq_false (by omega)
  have d2 : ¬ (1024 : Int) ≤ (n : Int) := by omega
  go_enter Tryd.func16, Tryd.ntmps16
  go_wp2_with (at_builtin; refine wpList_append_run _ (by rfl) (.tmp 18) (.tmp 20) 34 (by rfl) (by rfl) (by rfl) (HR.out _) ?_)
  go_ret
  exact ⟨rfl, HE.out⟩
theorem rpeek_dry {w : World} {B g : Nat} {ba : Option Addr} {cap : Nat} (hS : RSrc w B g ba cap []) :
    Calls Tryd.prog 28 #[.pointer (some ⟨g, 0, none⟩)] w fun e w' => e = .returned (.tuple #[.string { data := #[] }, .int .i64 7]) ∧ w = w' := by
  have c1 : w.cell? ⟨g, 0, none⟩ = some (.slice ba 0 cap) := hS.blk.cell 0
  clear hS
  go_enter Tryd.func28, Tryd.ntmps28
  go_wp2
  go_ret2
  exact ⟨rfl, rfl⟩
theorem RowOf.first {w : World} {B : Nat} {ba : Option Addr} {cap : Nat} {x : ByteArray} {L : List ByteArray} (h : RowOf w B ba cap (x :: L)) : ∃ gr off, ba = some ⟨gr, off, none⟩ ∧ w.cell? ⟨gr, off, none⟩ = some (.string x) ∧ L.length + 1 ≤ cap := by
  rcases h with ⟨_, h, _⟩ | ⟨gr, off, cur, rfl, _, hh, hn, _, _, ht⟩
  · cases h
  · refine ⟨gr, off, rfl, ?_, by simpa using hn⟩
    rw [cell_of_row w gr off cur 9 (0, 0) hh]
    have := congrArg (fun l => l[0]?) ht
    simp [strs] at this
    exact this
theorem rpeek_yes {w : World} {B g : Nat} {ba : Option Addr} {cap : Nat} {x : ByteArray} {L : List ByteArray} (hS : RSrc w B g ba cap (x :: L)) (hx : x.size = 32) (hL : L.length < 1024) :
    Calls Tryd.prog 28 #[.pointer (some ⟨g, 0, none⟩)] w fun e w' => e = .returned (.tuple #[.string (idOf (bytesOf x)), .int .i64 0]) ∧ Below w.heap.size w w' := by
  have c1 : w.cell? ⟨g, 0, none⟩ = some (.slice ba (L.length + 1) cap) := hS.blk.cell 0
  obtain ⟨gr, off, rfl, c2, hn⟩ := hS.row.first
  have HU := Lib.hid fun w' => refUrl_any x w' (by omega)
  have HI : Hid (strOf (URadix.wr URadix.urlA (bytesOf x)) = idOf (bytesOf x)) := Lib.hid rfl
  rw [HI.out] at HU
  clear hS hx
  generalize idOf (bytesOf x) = d at *
  clear HI
  generalize L.length = n at *
  have j0 : (0 : Int) < (n : Int) + 1 := by omega
  have jd : ((n : Int) + 1 == 0) = false := by rw [beq_eq_false_iff_ne]; omega
  go_enter Tryd.func28, Tryd.ntmps28
  go_wp2_with (go_at_call 23; (with_reducible refine (HU.out _).mono ?_); rintro e w2 ⟨rfl, hb2⟩)
  go_ret2
  exact ⟨rfl, hb2⟩
/-- the first draw is gone -/
def Dropped (w w' : World) (B g : Nat) (ba : Option Addr) (L : List ByteArray) : Prop := ∃ ba' cap', RSrc w' B g ba' cap' L ∧ Keeps [g] w w' ∧ ba'.map (·.block) = ba.map (·.block)
theorem rdrop_yes {w : World} {B g : Nat} {ba : Option Addr} {cap : Nat} {x : ByteArray} {L : List ByteArray} (hS : RSrc w B g ba cap (x :: L)) (hL : L.length < 1024) :
    Calls Tryd.prog 29 #[.pointer (some ⟨g, 0, none⟩)] w fun e w' => e = .returned (.tuple #[]) ∧ Dropped w w' B g ba L := by
  have c1 : w.cell? ⟨g, 0, none⟩ = some (.slice ba (L.length + 1) cap) := hS.blk.cell 0
  have f1 : w.frozen? ⟨g, 0, none⟩ = false := hS.blk.frozen 0
  have gne : ∀ k, ba.map (·.block) = some k → k ≠ g := fun k e => hS.rowNe hS.blk (by decide) k e
  rcases hS.row with ⟨_, h, _⟩ | ⟨gr, off, cur, rfl, hle, hh, hn, hcm, hsz, ht⟩
  · cases h
  have hn' : L.length + 1 ≤ cap := by simpa using hn
  have hgr : gr ≠ g := gne gr rfl
  have fin : ∀ off' cap', ((off' = off ∧ cap' = 0 ∧ cap = 1) ∨ (off' = off + 1 ∧ cap' = cap - 1)) → Dropped w (w.setCell ⟨g, 0, none⟩ (.slice (some ⟨gr, off', none⟩) L.length cap')) B g (some ⟨gr, off, none⟩) L := by
    intro off' cap' hc
    refine ⟨some ⟨gr, off', none⟩, cap', ⟨hS.blk.set 0 _, .inr ⟨gr, off', cur, rfl, hle, ?_, ?_, ?_, ?_, ?_⟩⟩, Keeps.setCell w 0 _ (by simp), rfl⟩
    · rw [Below.heap_setCell w ⟨g, 0, none⟩ _ gr hgr]
      exact hh
    · omega
    · omega
    · omega
    · rcases hc with ⟨_, _, hc⟩ | ⟨rfl, _⟩
      · have h0 : L = [] := List.eq_nil_of_length_eq_zero (by omega)
        subst h0
        simp [strs]
      · have h2 := congrArg (List.drop 1) ht
        rw [List.drop_take, List.drop_drop] at h2
        simpa [strs] using h2
  have HF := Lib.hid fin
  clear fin hS hh hn hcm hsz ht gne hgr hle
  have j0 : (1 : Int) ≤ (cap : Int) := by omega
  by_cases hcap : cap = 1
  · have h0 : L.length = 0 := by omega
    subst hcap
    have hf := HF.out off 0 (.inl ⟨rfl, rfl, rfl⟩)
    rw [h0] at c1 hf
    have HF2 := Lib.hid hf
    clear HF hf hn' hL h0
    go_enter Tryd.func29, Tryd.ntmps29
    go_wp2
    go_end0
    exact ⟨rfl, HF2.out⟩
  · have HF2 := Lib.hid (HF.out (off + 1) (cap - 1) (.inr ⟨rfl, rfl⟩))
    clear HF
    obtain ⟨n, hn⟩ : ∃ n, n = L.length := ⟨_, rfl⟩
    rw [← hn] at c1 hn' hL HF2
    clear hn
    have j1 : (0 : Int) < (n : Int) + 1 := by omega
    go_enter Tryd.func29, Tryd.ntmps29
    go_wp2
    go_end0
    exact ⟨rfl, HF2.out⟩
end Go.Proofs.YtmmniapkajbdhaaDoor
