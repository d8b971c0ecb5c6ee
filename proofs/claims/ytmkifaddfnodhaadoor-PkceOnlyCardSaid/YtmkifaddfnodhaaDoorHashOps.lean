/- The digest's cells, and the laws on them: a text copied into them, a part of them cleared; 'all but one block is as it was'. -/
import Derived.Test.YtmkifaddfnodhaaDoorHashPure
import Derived.Test.YtmkifaddfnodhaaDoorTake
import Derived.Lib.SliceRun
namespace Go.Proofs.YtmkifaddfnodhaaDoor
open Go.RowKit
/-- all blocks but g are as they were; new ones may be there -/
structure Aside (g : Nat) (w w' : World) : Prop where
  os : w'.os = w.os
  tape : w'.tape = w.tape
  output : w'.output = w.output
  size : w.heap.size ≤ w'.heap.size
  block : ∀ k, k < w.heap.size → k ≠ g → w'.heap[k]? = w.heap[k]?
theorem Aside.refl (g : Nat) (w : World) : Aside g w w := ⟨rfl, rfl, rfl, Nat.le_refl _, fun _ _ _ => rfl⟩
theorem Aside.trans {g : Nat} {a b c : World} (h : Aside g a b) (k : Aside g b c) : Aside g a c :=
  ⟨k.os.trans h.os, k.tape.trans h.tape, k.output.trans h.output, Nat.le_trans h.size k.size, fun i hi hg => (k.block i (Nat.lt_of_lt_of_le hi h.size) hg).trans (h.block i hi hg)⟩
theorem Aside.drew {g : Nat} {a w : World} (h : Aside g a w) : Aside g a w.drew := ⟨h.os, h.tape, h.output, h.size, h.block⟩
theorem Aside.of_below {g : Nat} {w w' : World} (h : Below w.heap.size w w') : Aside g w w' := ⟨h.os, h.tape, h.output, h.size, fun k hk _ => h.block k hk⟩
theorem Aside.setCell (w : World) (g i : Nat) (v : Value) : Aside g w (w.setCell ⟨g, i, none⟩ v) :=
  ⟨rfl, rfl, rfl, by simp [World.setCell], fun k _ hg => Below.heap_setCell w ⟨g, i, none⟩ v k hg⟩
theorem Aside.setRow (w : World) (g : Nat) (cs : Array Value) : Aside g w (w.setRow g cs) :=
  ⟨rfl, rfl, rfl, by simp [World.setRow], fun k _ hg => by simp [World.setRow, Array.getElem?_modify, Ne.symm hg]⟩
theorem Aside.below {g B : Nat} {w w' : World} (h : Aside g w w') (hB : B ≤ w.heap.size) (hg : B ≤ g) : Below B w w' :=
  ⟨h.os, h.tape, h.output, h.size, fun k hk => h.block k (by omega) (by omega)⟩
theorem Aside.blk {g k : Nat} {w w' : World} {t : TypeId} {l : List Value} (h : Aside g w w') (hb : Blk w k t l) (hk : k ≠ g) : Blk w' k t l := by
  have := hb.lt
  unfold Blk at *
  rw [h.block k this hk]; exact hb
theorem Aside.cell {g : Nat} {w w' : World} (h : Aside g w w') {p : Addr} {v : Value} (hc : w.cell? p = some v) (hk : p.block ≠ g) : w'.cell? p = some v := by
  rw [World.cell?_of_block (w := w) (h.block p.block (lt_of_cell hc) hk)]; exact hc
theorem U32Tab.aside {w w' : World} {g k : Nat} {a : Array (BitVec 32)} (h : U32Tab w k a) (hb : Aside g w w') (hk : k ≠ g) : U32Tab w' k a := fun i hi => hb.cell (h i hi) hk
/-- the digest's 74 cells -/
def hc (v : USha.St) (rest : List (BitVec 8)) (held count : Int) : List Value := vl v ++ (u8s rest ++ [.int .i64 held, .int .u64 count])
theorem hc_length (v : USha.St) (rest : List (BitVec 8)) (held count : Int) (h : rest.length = 64) : (hc v rest held count).length = 74 := by
  unfold hc; simp [vl_length, u8s_length, h]
theorem hc_held (v : USha.St) (rest : List (BitVec 8)) (held count : Int) (h : rest.length = 64) : (hc v rest held count)[72]? = some (.int .i64 held) := by
  unfold hc
  rw [List.getElem?_append_right (by rw [vl_length]; omega), vl_length, List.getElem?_append_right (by rw [u8s_length]; omega), u8s_length, h]; rfl
theorem hc_count (v : USha.St) (rest : List (BitVec 8)) (held count : Int) (h : rest.length = 64) : (hc v rest held count)[73]? = some (.int .u64 count) := by
  unfold hc
  rw [List.getElem?_append_right (by rw [vl_length]; omega), vl_length, List.getElem?_append_right (by rw [u8s_length]; omega), u8s_length, h]; rfl
theorem hc_set_held (v : USha.St) (rest : List (BitVec 8)) (held held' count : Int) (h : rest.length = 64) : (hc v rest held count).set 72 (.int .i64 held') = hc v rest held' count := by
  unfold hc
  rw [List.set_append_right _ _ (by rw [vl_length]; omega), vl_length, List.set_append_right _ _ (by rw [u8s_length]; omega), u8s_length, h]; rfl
theorem hc_set_count (v : USha.St) (rest : List (BitVec 8)) (held count count' : Int) (h : rest.length = 64) : (hc v rest held count).set 73 (.int .u64 count') = hc v rest held count' := by
  unfold hc
  rw [List.set_append_right _ _ (by rw [vl_length]; omega), vl_length, List.set_append_right _ _ (by rw [u8s_length]; omega), u8s_length, h]; rfl
theorem hc_state (v : USha.St) (rest : List (BitVec 8)) (held count : Int) : ((hc v rest held count).drop 0).take 8 = vl v := by
  unfold hc
  rw [List.drop_zero, List.take_append_of_le_length (by rw [vl_length]; omega)]; rfl
theorem hc_rest (v : USha.St) (rest : List (BitVec 8)) (held count : Int) (h : rest.length = 64) : ((hc v rest held count).drop 8).take 64 = u8s rest := by
  unfold hc
  rw [List.drop_append_of_le_length (by rw [vl_length]; omega), List.drop_of_length_le (by rw [vl_length]; omega), List.nil_append, List.take_append_of_le_length (by rw [u8s_length]; omega)]
  exact List.take_of_length_le (by rw [u8s_length]; omega)
theorem hc_seg_state (v v' : USha.St) (rest : List (BitVec 8)) (held count : Int) : seg (hc v rest held count) 0 (vl v') = hc v' rest held count := by
  unfold seg hc
  rw [List.take_zero, List.nil_append, Nat.zero_add, vl_length, List.drop_append_of_le_length (by rw [vl_length]; omega), List.drop_of_length_le (by rw [vl_length]; omega), List.nil_append]
theorem hc_seg_over (v : USha.St) (rest : List (BitVec 8)) (held : Nat) (held2 count : Int) (x : List (BitVec 8)) (h : rest.length = 64) (hx : held + x.length ≤ 64) : seg (hc v rest held2 count) (8 + held) (u8s x) = hc v (USha.over rest held x) held2 count := by
  unfold seg hc USha.over
  have e1 : List.take (8 + held) (vl v ++ (u8s rest ++ [.int .i64 held2, .int .u64 count])) = vl v ++ u8s (rest.take held) := by
    rw [List.take_append, vl_length, List.take_of_length_le (by rw [vl_length]; omega), show 8 + held - 8 = held by omega, List.take_append_of_le_length (by rw [u8s_length]; omega)]
    simp [u8s]
  have e2 : List.drop (8 + held + (u8s x).length) (vl v ++ (u8s rest ++ [.int .i64 held2, .int .u64 count])) = u8s (rest.drop (held + x.length)) ++ [.int .i64 held2, .int .u64 count] := by
    rw [List.drop_append, vl_length, List.drop_of_length_le (by rw [vl_length]; omega), List.nil_append, u8s_length, show 8 + held + x.length - 8 = held + x.length by omega, List.drop_append_of_le_length (by rw [u8s_length]; omega)]
    simp [u8s]
  rw [e1, e2, u8s_append, u8s_append]
  simp
theorem hc_one (v : USha.St) (rest : List (BitVec 8)) (held count : Int) : ∀ x ∈ hc v rest held count, x.oneCell' = true := by
  intro x hx
  unfold hc at hx
  rcases List.mem_append.1 hx with h | h
  · exact vl_one v x h
  · rcases List.mem_append.1 h with h | h
    · exact u8s_one rest x h
    · simp at h
      rcases h with rfl | rfl <;> rfl
section
variable {P : Program}
/-- copy of a text into a segment of a block -/
theorem run_copy_str_seg {w : World} {g : Nat} {t : TypeId} {l : List Value} (hb : Blk w g t l) (dT sT ty elem : TypeId) (o dLen dCap : Nat) (s : ByteArray)
    (hu : P.underlying dT = some (.slice elem)) (hs : (P.info? elem).map (·.size) = some 1) (hfit : o + min s.size dLen ≤ l.length) :
    (Builtin.copy_ #[dT, sT] ty #[.slice (some ⟨g, o, none⟩) dLen dCap, .string s]).run P w =
      .ok (goInt ((min s.size dLen : Nat) : Int)) (w.setRow g (seg l o (u8s ((bytesOf s).take (min s.size dLen)))).toArray) := by
  have hlen : (u8s ((bytesOf s).take (min s.size dLen))).length = min s.size dLen := by rw [u8s_length, List.length_take, bytesOf_length]; omega
  have hst := run_storeCells_at P g o t (u8s ((bytesOf s).take (min s.size dLen))) 0 l.toArray w hb (by rw [hlen]; simpa using hfit) (u8s_one _)
  have htk : List.take (min s.size dLen) (List.map (fun b : UInt8 => Value.int IntKind.u8 (b.toNat : Int)) s.data.toList) = u8s ((bytesOf s).take (min s.size dLen)) := by
    simp [u8s, bytesOf, List.map_take, Function.comp_def]
  simp only [Nat.add_zero] at hst
  cases hq : P.info? elem with
  | none => simp [hq] at hs
  | some i =>
    simp [Builtin.copy_, run_underlying hu, Builtin.lenOf, Builtin.firstCells, sizeOf, typeInfo, hq]
    rw [htk, hst]
    simp [Result.andThen, seg]
theorem wpList_copy_str {w : World} {ops : Array Oper} {rest : List Oper} {o : Oper} {a : Act} {Q : Exit → Act → World → Prop} (hgd : o.guard = none) (d x : Operand) (dT sT : TypeId)
    (ho : o.op = .call { callee := .builtin .copy, args := #[d, x], argTypes := #[dT, sT] }) (elem : TypeId) (hu : P.underlying dT = some (.slice elem)) (hsz : (P.info? elem).map (·.size) = some 1)
    {g off dLen dCap : Nat} {s : ByteArray} (hd : a.eval d = .slice (some ⟨g, off, none⟩) dLen dCap) (hs : a.eval x = .string s) {t : TypeId} {l : List Value} (hb : Blk w g t l) (hfit : off + min s.size dLen ≤ l.length)
    (h : ∀ w', Hid (Blk w' g t (seg l off (u8s ((bytesOf s).take (min s.size dLen))))) → Aside g w w' → wpList P ops Q rest (a.put o.dst (goInt ((min s.size dLen : Nat) : Int))) w') : wpList P ops Q (o :: rest) a w := by
  refine wpList_plain hgd fun K hK => ?_
  have hrun := run_copy_str_seg (P := P) hb dT sT o.type elem off dLen dCap s hu hsz hfit
  unfold Oper.wp
  simp [execOp, ho, resolve, invoke, builtin, hd, hs, hrun, Result.andThen]
  exact hK _ _ (h _ (Lib.hid (hb.row _)) (Aside.setRow w g _))
/-- clear of a segment of a block -/
theorem wpList_clear_seg {w : World} {ops : Array Oper} {rest : List Oper} {o : Oper} {a : Act} {Q : Exit → Act → World → Prop} (hgd : o.guard = none) (d : Operand) (dT : TypeId)
    (ho : o.op = .call { callee := .builtin .clear, args := #[d], argTypes := #[dT] }) (elem : TypeId) (hu : P.underlying dT = some (.slice elem)) (z : Value) (hv : ∀ w, (zeroValue elem).run P w = .ok z w) (hz : z.cells = #[z]) (h1 : z.oneCell' = true)
    {g off n c : Nat} {p : Option Addr} (hd : a.eval d = .slice p n c) (hp : 0 < n → p = some ⟨g, off, none⟩) {t : TypeId} {l : List Value} (hb : Blk w g t l) (hfit : off + n ≤ l.length)
    (h : ∀ w', Hid (Blk w' g t (seg l off (List.replicate n z))) → Aside g w w' → wpList P ops Q rest (a.put o.dst (.tuple #[])) w') : wpList P ops Q (o :: rest) a w := by
  refine wpList_plain hgd fun K hK => ?_
  by_cases hn : n = 0
  · subst hn
    have hrun : (Builtin.clear_ #[dT] o.type #[.slice p 0 c]).run P w = .ok (.tuple #[]) w := by
      cases p <;> simp [Builtin.clear_, run_underlying hu]
    unfold Oper.wp
    simp [execOp, ho, resolve, invoke, builtin, hd, hrun, Result.andThen]
    refine hK _ _ (h _ (Lib.hid ?_) (Aside.refl _ _))
    simpa [seg] using hb
  · have hp' := hp (by omega)
    subst hp'
    have hzc : (Builtin.zeroCells z.cells n).toList = List.replicate n z := by
      rw [hz]
      simp [Builtin.zeroCells]
      apply List.ext_getElem
      · simp
      · intro i h1 h2
        simp [Nat.mod_one]
    have hst := run_storeCells_at P g off t (List.replicate n z) 0 l.toArray w hb (by simpa using hfit) (by intro v hv'; rw [List.eq_of_mem_replicate hv']; exact h1)
    simp only [Nat.add_zero] at hst
    obtain ⟨m, rfl⟩ : ∃ m, n = m + 1 := ⟨n - 1, by omega⟩
    have hrun : (Builtin.clear_ #[dT] o.type #[.slice (some ⟨g, off, none⟩) (m + 1) c]).run P w = .ok (.tuple #[]) (w.setRow g (seg l off (List.replicate (m + 1) z)).toArray) := by
      simp [Builtin.clear_, run_underlying hu, hv, hzc, hst, seg]
    unfold Oper.wp
    simp [execOp, ho, resolve, invoke, builtin, hd, hrun, Result.andThen]
    exact hK _ _ (h _ (Lib.hid (hb.row _)) (Aside.setRow w g _))
end
end Go.Proofs.YtmkifaddfnodhaaDoor
