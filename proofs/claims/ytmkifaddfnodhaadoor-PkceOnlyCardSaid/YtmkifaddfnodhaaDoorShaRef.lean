/- The reference's digest, walked. -/
import Derived.Test.YtmkifaddfnodhaaDoorStep
import Derived.Test.YtmkifaddfnodhaaDoorConv
import Derived.Deep.AppendLies
namespace Go.Proofs.YtmkifaddfnodhaaDoor
open Go.RowKit
def vl (v : USha.St) : List Value := v.list.map u32v
theorem vl_length (v : USha.St) : (vl v).length = 8 := rfl
theorem vl_one (v : USha.St) : ∀ x ∈ vl v, x.oneCell' = true := by
  intro x hx
  simp only [vl, List.mem_map] at hx
  obtain ⟨y, _, rfl⟩ := hx
  rfl
/-- a package's table of words -/
def U32Tab (w : World) (g : Nat) (a : Array (BitVec 32)) : Prop := ∀ i, i < a.size → w.cell? ⟨g, i, none⟩ = some (.int .u32 ((a.toList.getD i 0#32).toNat : Int))
theorem U32Tab.below {w w' : World} {g : Nat} {a : Array (BitVec 32)} (h : U32Tab w g a) (hb : Below w.heap.size w w') : U32Tab w' g a := fun i hi => cell_below (h i hi) hb
theorem take_getD {α : Type} (l : List α) (i : Nat) (d : α) (h : i < l.length) : l.take (i + 1) = l.take i ++ [l.getD i d] := by
  rw [take_snoc l i l[i] (List.getElem?_eq_getElem h), List.getD_eq_getElem?_getD, List.getElem?_eq_getElem h]; rfl
theorem seg_all (z l : List Value) (h : z.length = l.length) : seg z 0 l = l := by
  unfold seg
  rw [List.take_zero, List.nil_append, List.drop_of_length_le (by omega), List.append_nil]
theorem zeros64_length : zeros64.length = 64 := arrW_length [] 64 (by simp)
/-- the first k of one list, the rest of another -/
def mix (a b : List Value) (k : Nat) : List Value := a.take k ++ b.drop k
theorem mix_get (a b : List Value) (k : Nat) (h : a.length = b.length) (hk : k < a.length) : (mix a b k)[k]? = b[k]? := by
  unfold mix
  rw [List.getElem?_append_right (by simp; omega), List.length_take, Nat.min_eq_left (by omega), Nat.sub_self, List.getElem?_drop]; rfl
theorem mix_set (a b : List Value) (k : Nat) (v : Value) (h : a.length = b.length) (hv : a[k]? = some v) : (mix a b k).set k v = mix a b (k + 1) := by
  have hk : k < a.length := (List.getElem?_eq_some_iff.1 hv).1
  unfold mix
  rw [List.set_append_right _ _ (by simp; omega), List.length_take, Nat.min_eq_left (by omega), Nat.sub_self, take_snoc a k v hv, List.append_assoc]
  congr 1
  rw [List.drop_eq_getElem_cons (by omega : k < b.length), List.set_cons_zero]; rfl
theorem add_at (u v : USha.St) (k : Nat) (hk : k < 8) : ∃ x y : BitVec 32, (vl u)[k]? = some (.int .u32 (x.toNat : Int)) ∧ (vl v)[k]? = some (.int .u32 (y.toNat : Int)) ∧ (vl (USha.add u v))[k]? = some (.int .u32 ((x + y).toNat : Int)) := by
  match k, hk with
  | 0, _ => exact ⟨_, _, rfl, rfl, rfl⟩
  | 1, _ => exact ⟨_, _, rfl, rfl, rfl⟩
  | 2, _ => exact ⟨_, _, rfl, rfl, rfl⟩
  | 3, _ => exact ⟨_, _, rfl, rfl, rfl⟩
  | 4, _ => exact ⟨_, _, rfl, rfl, rfl⟩
  | 5, _ => exact ⟨_, _, rfl, rfl, rfl⟩
  | 6, _ => exact ⟨_, _, rfl, rfl, rfl⟩
  | 7, _ => exact ⟨_, _, rfl, rfl, rfl⟩
theorem out_at (v : USha.St) (k : Nat) (hk : k < 8) : ∃ x : BitVec 32, (vl v)[k]? = some (.int .u32 (x.toNat : Int)) ∧ (v.list.take (k + 1)).flatMap USha.bytesW = (v.list.take k).flatMap USha.bytesW ++ USha.bytesW x := by
  match k, hk with
  | 0, _ => exact ⟨_, rfl, rfl⟩
  | 1, _ => exact ⟨_, rfl, rfl⟩
  | 2, _ => exact ⟨_, rfl, rfl⟩
  | 3, _ => exact ⟨_, rfl, rfl⟩
  | 4, _ => exact ⟨_, rfl, rfl⟩
  | 5, _ => exact ⟨_, rfl, rfl⟩
  | 6, _ => exact ⟨_, rfl, rfl⟩
  | 7, _ => exact ⟨_, rfl, rfl⟩
theorem bytes_ref (x : BitVec 32) : u8s (USha.bytesW x) = [.int .u8 ((x.toNat : Int) / 16777216), .int .u8 (bits BinOp.and IntKind.u32 ((x.toNat : Int) / 65536) 255 % 256), .int .u8 (bits BinOp.and IntKind.u32 ((x.toNat : Int) / 256) 255 % 256), .int .u8 (bits BinOp.and IntKind.u32 (x.toNat : Int) 255 % 256)] := by
  have hx := x.isLt
  have key : ∀ y : Nat, y < 4294967296 → bits BinOp.and IntKind.u32 (y : Int) 255 % 256 = ((y % 256 : Nat) : Int) := by
    intro y hy
    rw [show (255 : Int) = ((255 : Nat) : Int) from rfl, u32_and_nat _ _ hy (by omega), show (255 : Nat) = 2 ^ 8 - 1 from rfl, Nat.and_two_pow_sub_one_eq_mod]
    omega
  have e1 : (x.toNat : Int) / 65536 = ((x.toNat / 65536 : Nat) : Int) := by omega
  have e2 : (x.toNat : Int) / 256 = ((x.toNat / 256 : Nat) : Int) := by omega
  rw [e1, e2, key _ (by omega), key _ (by omega), key _ (by omega)]
  simp only [u8s, USha.bytesW, List.map_cons, List.map_nil, BitVec.toNat_setWidth, BitVec.toNat_ushiftRight, Nat.shiftRight_eq_div_pow]
  have e3 : ((x.toNat / 2 ^ 24 % 2 ^ 8 : Nat) : Int) = (x.toNat : Int) / 16777216 := by omega
  rw [e3]
def zeros8 : List Value := arrW [] 8
theorem Below.row {B g : Nat} {w0 w : World} (hb : Below B w0 w) (hg : B ≤ g) (cs : Array Value) : Below B w0 (w.setRow g cs) := below_setRow hb hg cs
set_option maxRecDepth 100000 in
set_option maxHeartbeats 8000000 in
theorem sha_ref (s : ByteArray) (w : World) (hs : s.size ≤ 281474976710656) (hf : U32Tab w 16 USha.first) (hr : U32Tab w 17 USha.round) :
    Calls Tryd.prog 36 #[.string s] w fun e w' => e = .returned (.string (strOf (USha.sha (bytesOf s)))) ∧ Below w.heap.size w w' := by
  have hs' := hs
  have hwd : ((s.size : Int) + 8) / 64 + 1 = (((s.size + 8) / 64 + 1 : Nat) : Int) := by omega
  have hwe : (((s.size : Int) + 8) / 64 + 1) * 64 = ((USha.whole s.size : Nat) : Int) := by unfold USha.whole; omega
  have hw1 : USha.whole s.size ≤ s.size + 128 := by unfold USha.whole; omega
  obtain ⟨m, hm1, hm2, hm3⟩ : ∃ m, USha.whole s.size ≤ 64 * m ∧ 64 * m ≤ USha.whole s.size ∧ m = USha.whole s.size / 64 := ⟨_, by unfold USha.whole; omega, by unfold USha.whole; omega, rfl⟩
  have HM := Lib.hid hm3
  have HF := Lib.hid hf
  have HR := Lib.hid hr
  clear hf hr hwd hm3
  go_enter Tryd.func36, Tryd.ntmps36
  go_wp2
  clear hwe
  go_loopw [5] (fun i wr => ∃ k : Nat, k ≤ 8 ∧ i = .int .i64 k ∧ Blk wr w.heap.size 75 (arrW (USha.first.toList.take k) 8) ∧ Below w.heap.size w wr) (fun i _ => 8 - (intOf i).toNat)
  case atStart => exact ⟨0, by omega, rfl, heap_alloc_new w _, (Below.refl _ _).alloc (Nat.le_refl _) _⟩
  case round =>
    obtain ⟨k, hk, rfl, hB, hb⟩ := hrel
    by_cases hlt : k < 8
    · have hct := HF.out.below hb k hlt
      have hcell := hB.cell k
      have hlen : (USha.first.toList.take k).length = k := by rw [List.length_take]; show min k 8 = k; omega
      rw [show (arrW (USha.first.toList.take k) 8)[k]? = some (.int .u32 0) from by
        unfold arrW
        rw [List.getElem?_append_right (by simp only [List.length_map]; omega), List.getElem?_replicate]
        simp only [List.length_map]; rw [if_pos (by omega)]] at hcell
      have hfz := hB.frozen k
      have hset := hB.set k (.int .u32 ((USha.first.toList.getD k 0#32).toNat : Int))
      have e := arrW_snoc (USha.first.toList.take k) 8 (USha.first.toList.getD k 0#32) (by omega)
      rw [hlen, ← take_getD _ _ _ (by show k < 8; omega)] at e
      rw [e] at hset
      generalize USha.first.toList.getD k 0#32 = x at *
      have HS := Lib.hid hset
      clear hset e hlen
      go_wp2
      go_roundw
      case rel => exact ⟨k + 1, by omega, by go_num, HS.out, hb.setCell (Nat.le_refl _) _⟩
      case measure => simp [intOf]; omega
    · obtain rfl : k = 8 := by omega
      have hB1 : Blk wr w.heap.size 75 (vl (USha.hashN USha.init (USha.padAt (bytesOf s)) 0)) := hB
      rw [show (((8 : Nat) : Int)) = (8 : Int) from rfl]
      clear hB
      go_wp2
      go_loopw [6] (fun i wr => ∃ n : Nat, n ≤ m ∧ i = .int .i64 (64 * (n : Int)) ∧ Blk wr w.heap.size 75 (vl (USha.hashN USha.init (USha.padAt (bytesOf s)) n)) ∧ Below w.heap.size w wr) (fun i _ => USha.whole s.size - (intOf i).toNat)
      case atStart => exact ⟨0, by omega, rfl, hB1, hb⟩
      case round =>
        rename World => wr2
        obtain ⟨n, hn, rfl, hB, hb⟩ := hrel
        by_cases hlt : 64 * n < USha.whole s.size
        · have hcp := plan_any s (64 * n) wr2 hs' (by omega)
          rw [show (((64 * n : Nat)) : Int) = 64 * (n : Int) from by simp] at hcp
          have CP := Lib.hid hcp
          clear hcp
          have hlW : (USha.sched (USha.word (pieceAt s (64 * n))) 64).length = 64 := USha.sched_length _ _
          have hstep : USha.hashN USha.init (USha.padAt (bytesOf s)) (n + 1) = USha.add (USha.hashN USha.init (USha.padAt (bytesOf s)) n) (USha.rnds (USha.hashN USha.init (USha.padAt (bytesOf s)) n) (USha.sched (USha.word (pieceAt s (64 * n))) 64) 64) := rfl
          have HST := Lib.hid hstep
          clear hstep
          generalize USha.hashN USha.init (USha.padAt (bytesOf s)) n = H at *
          generalize USha.sched (USha.word (pieceAt s (64 * n))) 64 = ws at *
          have hlM : (ws.map u32v).length = 64 := by rw [List.length_map, hlW]
          have HlW := Lib.hid hlM
          have Hlw := Lib.hid hlW
          clear hlM hlW
          have hlt0 := hB.lt
          go_wp2_with (first
            | (go_at_call 45; (with_reducible refine CP.out.mono ?_); rintro e w3 ⟨rfl, hb3⟩; have hB3 := hB.below hb3 hlt0; have hb4 := hb.trans (hb3.mono hb.size); have hlt3 := hB3.lt; clear hB hb)
            | (refine wpList_store_new 77 (.tmp 7) (.tmp 37) (ws.map u32v) (by rfl) (by rfl) (by rfl) (by rfl) (by rw [HlW.out]; kernel_rfl) (by rw [HlW.out]; rfl) (by intro v hv; simp only [List.mem_map] at hv; obtain ⟨y, _, rfl⟩ := hv; rfl) ?_; have hB4 := hB3.alloc (.cells (ws.map u32v).toArray 77); have hW4 := Blk.new w3 77 (ws.map u32v); have hb5 := hb4.alloc hb4.size (.cells (ws.map u32v).toArray 77); generalize hw4 : w3.alloc (.cells (ws.map u32v).toArray 77) = w4 at *; have hz4 : w3.heap.size + 1 = w4.heap.size := (by rw [← hw4]; simp))
            | (refine wpList_load_seg (off := 0) (n := 8) (by rfl) 75 (.tmp 4) (by rfl) (by rfl) hB4 _ Tryd.underlying75 rfl (by kernel_rfl) (Nat.le_refl 8) ?_; rw [show (List.take 8 (List.drop 0 (vl H))) = vl H from rfl])
            | (refine wpList_store_new 75 (.tmp 8) (.tmp 38) (vl H) (by rfl) (by rfl) (by rfl) (by rfl) (by rw [vl_length]; kernel_rfl) (by rfl) (vl_one H) ?_))
          have hB5 : Blk (w4.alloc (.cells (vl H).toArray 75)) w.heap.size 75 (vl H) := hB4.alloc _
          have hW5 : Blk (w4.alloc (.cells (vl H).toArray 75)) w3.heap.size 77 (ws.map u32v) := hW4.alloc _
          have hV5 : Blk (w4.alloc (.cells (vl H).toArray 75)) w4.heap.size 75 (vl (USha.rnds H ws 0)) := Blk.new w4 _ _
          have hb6 := hb5.alloc hb5.size (.cells (vl H).toArray 75)
          have hsz5 : w4.heap.size < (w4.alloc (.cells (vl H).toArray 75)).heap.size := by simp
          generalize w4.alloc (.cells (vl H).toArray 75) = w5 at *
          clear hw4 hB4 hW4 hb5 hB3 hb3 hb4 hlt0
          obtain ⟨g7, hg7⟩ : ∃ g7, w3.heap.size = g7 := ⟨_, rfl⟩
          obtain ⟨g8, hg8⟩ : ∃ g8, w4.heap.size = g8 := ⟨_, rfl⟩
          rw [hg7] at hz4 hlt3 hW5 ⊢
          rw [hg8] at hz4 hV5 hsz5 ⊢
          clear hg7 hg8
          have hg78 : g7 < g8 := by omega
          clear hz4
          go_loopw [9] (fun i wr => ∃ t : Nat, t ≤ 64 ∧ i = .int .i64 t ∧ Blk wr g8 75 (vl (USha.rnds H ws t)) ∧ Blk wr g7 77 (ws.map u32v) ∧ Blk wr w.heap.size 75 (vl H) ∧ Below w.heap.size w wr) (fun i _ => 64 - (intOf i).toNat)
          case atStart => exact ⟨0, by omega, rfl, hV5, hW5, hB5, hb6⟩
          case round =>
            rename World => wr3
            obtain ⟨t, ht, rfl, hV, hW, hB, hb⟩ := hrel
            clear hV5 hW5 hB5 hb6
            by_cases hlt4 : t < 64
            · have hst : USha.rnds H ws (t + 1) = USha.rnd (USha.rnds H ws t) (USha.round.toList.getD t 0#32) (ws.getD t 0#32) := rfl
              have HNX := Lib.hid hst
              clear hst
              have hk := HR.out.below hb t hlt4
              have hx := hW.cell t
              rw [List.getElem?_map, show ws[t]? = some (ws.getD t 0#32) from by rw [List.getD_eq_getElem?_getD, List.getElem?_eq_getElem (by rw [Hlw.out]; exact hlt4)]; rfl] at hx
              simp only [Option.map_some, u32v] at hx
              generalize USha.round.toList.getD t 0#32 = kt at *
              generalize ws.getD t 0#32 = xt at *
              generalize hV0 : USha.rnds H ws t = V at *
              have HV0 := Lib.hid hV0
              clear hV0
              obtain ⟨a, b, c, d, e, f, g, h⟩ := V
              have c0 := hV.cell 0
              have c1 := hV.cell 1
              have c2 := hV.cell 2
              have c3 := hV.cell 3
              have c4 := hV.cell 4
              have c5 := hV.cell 5
              have c6 := hV.cell 6
              have c7 := hV.cell 7
              change _ = some (Value.int .u32 (a.toNat : Int)) at c0
              change _ = some (Value.int .u32 (b.toNat : Int)) at c1
              change _ = some (Value.int .u32 (c.toNat : Int)) at c2
              change _ = some (Value.int .u32 (d.toNat : Int)) at c3
              change _ = some (Value.int .u32 (e.toNat : Int)) at c4
              change _ = some (Value.int .u32 (f.toNat : Int)) at c5
              change _ = some (Value.int .u32 (g.toNat : Int)) at c6
              change _ = some (Value.int .u32 (h.toNat : Int)) at c7
              have hT := step_any ⟨a, b, c, d, e, f, g, h⟩ kt xt wr3.drew
              change Calls _ _ #[.agg #[.int .u32 a.toNat, .int .u32 b.toNat, .int .u32 c.toNat, .int .u32 d.toNat, .int .u32 e.toNat, .int .u32 f.toNat, .int .u32 g.toNat, .int .u32 h.toNat], .int .u32 kt.toNat, .int .u32 xt.toNat] _ _ at hT
              have HT := Lib.hid hT
              clear hT
              have l0 : (0 : Int) ≤ (t : Int) := by omega
              have l1 : (t : Int) < 64 := by omega
              go_wp2
              refine wp_region_still_tail 7 (by kernel_rfl) (by kernel_rfl) ?_
              simp only [List.take_succ_cons, List.take_zero, List.drop_succ_cons, List.drop_zero]
              repeat still_step
              refine wpStill_nil ?_
              change wpList _ _ _ _ _ wr3.drew
              clear c0 c1 c2 c3 c4 c5 c6 c7 hk hx
              have hVd := hV.drew
              have hWd := hW.drew
              have hBd := hB.drew
              have hbd := hb.drew
              have lt8 := hVd.lt
              have lt7 := hWd.lt
              have lt0 := hBd.lt
              clear hV hW hB hb
              go_wp2_with (first
                | (go_at_call 46; (with_reducible refine HT.out.mono ?_); rintro e' w6 ⟨rfl, hb6⟩; have hV6 := hVd.below hb6 lt8; have hW6 := hWd.below hb6 lt7; have hB6 := hBd.below hb6 lt0; have hb7 := hbd.trans (hb6.mono hbd.size); clear hVd hWd hBd)
                | (refine wpList_store_seg (off := 0) (cs := vl (USha.rnd ⟨a, b, c, d, e, f, g, h⟩ kt xt)) (by rfl) 75 (.tmp 8) (.tmp 50) (by rfl) (by rfl) (by rfl) hV6 (by rw [vl_length]; kernel_rfl) (Nat.le_refl 8) (vl_one _) ?_; rw [seg_all (vl ⟨a, b, c, d, e, f, g, h⟩) (vl (USha.rnd ⟨a, b, c, d, e, f, g, h⟩ kt xt)) rfl]))
              go_roundw
              case rel =>
                refine ⟨t + 1, by omega, by go_num, ?_, hW6.row_far _ (by omega), hB6.row_far _ (by omega), below_setRow hb7 (by omega) _⟩
                rw [HNX.out]
                exact hV6.row _
              case measure => simp [intOf]; omega
            · obtain rfl : t = 64 := by omega
              rw [show (((64 : Nat) : Int)) = (64 : Int) from rfl]
              generalize USha.rnds H ws 64 = V at *
              clear hW HR
              have hM : Blk wr3 w.heap.size 75 (mix (vl (USha.add H V)) (vl H) 0) := hB
              clear hB
              go_wp2
              go_loopw [10] (fun i wr => ∃ k : Nat, k ≤ 8 ∧ i = .int .i64 k ∧ Blk wr w.heap.size 75 (mix (vl (USha.add H V)) (vl H) k) ∧ Blk wr g8 75 (vl V) ∧ Below w.heap.size w wr) (fun i _ => 8 - (intOf i).toNat)
              case atStart => exact ⟨0, by omega, rfl, hM, hV, hb⟩
              case round =>
                rename World => wr4
                clear hM hV hb
                obtain ⟨k, hk, rfl, hM, hV, hb⟩ := hrel
                by_cases hlt5 : k < 8
                · obtain ⟨x, y, hx, hy, hxy⟩ := add_at H V k hlt5
                  have cx := hM.cell k
                  rw [mix_get _ _ _ (by rw [vl_length, vl_length]) (by rw [vl_length]; exact hlt5), hx] at cx
                  have cy := hV.cell k
                  rw [hy] at cy
                  have hfz := hM.frozen k
                  have hset := hM.set k (.int .u32 ((x + y).toNat : Int))
                  rw [mix_set _ _ _ _ (by rw [vl_length, vl_length]) hxy] at hset
                  have e1 := Bv.add32 x y
                  generalize x + y = z at *
                  have HSET := Lib.hid hset
                  clear hset hx hy hxy
                  have l0 : (0 : Int) ≤ (k : Int) := by omega
                  have l1 : (k : Int) < 8 := by omega
                  go_wp2
                  refine wp_region_still_tail 9 (by kernel_rfl) (by kernel_rfl) ?_
                  simp only [List.take_succ_cons, List.take_zero, List.drop_succ_cons, List.drop_zero]
                  repeat still_step
                  refine wpStill_nil ?_
                  change wpList _ _ _ _ _ wr4.drew
                  clear e1
                  go_wp2
                  go_roundw
                  case rel => exact ⟨k + 1, by omega, by go_num, HSET.out, hV.drew.far _ _ (by simp; omega), hb.drew.setCell (Nat.le_refl _) _⟩
                  case measure => simp [intOf]; omega
                · obtain rfl : k = 8 := by omega
                  have hM2 : Blk wr4 w.heap.size 75 (vl (USha.add H V)) := hM
                  clear hM
                  go_wp2
                  go_roundw
                  case rel => exact ⟨n + 1, by omega, by go_num, by rw [HST.out]; exact hM2, hb⟩
                  case measure => simp [intOf]; omega
        · obtain rfl : n = m := by omega
          have hfin : USha.sha (bytesOf s) = USha.out (USha.hashN USha.init (USha.padAt (bytesOf s)) n) := by unfold USha.sha; rw [bytesOf_length, ← HM.out]
          have HFIN := Lib.hid hfin
          clear hfin
          generalize USha.hashN USha.init (USha.padAt (bytesOf s)) n = V at *
          obtain ⟨i0, hi, hz0, hz1, hz2⟩ := info_parts info8
          have hlt0 := hB.lt
          have hn0 : ¬ (64 * (n : Int) < (USha.whole s.size : Int)) := by omega
          go_wp2
          go_loopw [11, 12] (fun v i wr => ∃ k : Nat, k ≤ 8 ∧ i = .int .i64 k ∧ wr.ownsRow (w.heap.size + 1) 5 1 v (4 * k) (u8s ((V.list.take k).flatMap USha.bytesW)) ∧ Blk wr w.heap.size 75 (vl V) ∧ Below w.heap.size w wr) (fun _ i _ => 8 - (intOf i).toNat)
          case atStart => exact ⟨0, by omega, rfl, World.ownsRow_nil _ _ _ _, hB, hb⟩
          case round =>
            rename World => wr3
            clear hB hb
            obtain ⟨k, hk, rfl, hown, hB, hb⟩ := hrel
            by_cases hlt5 : k < 8
            · obtain ⟨x, hx, hsn⟩ := out_at V k hlt5
              have cx := hB.cell k
              rw [hx] at cx
              have HSN := Lib.hid hsn
              clear hsn hx
              have hbs := bytes_ref x
              have HBS := Lib.hid hbs
              clear hbs
              have hsz := hb.size
              have hszw : w.heap.size + 1 ≤ wr3.heap.size := hB.lt
              go_wp2_with (at_builtin; refine wpList_append_own _ rfl _ _ 53 rfl (w.heap.size + 1) 5 i0 (.int .u8 0) 1 1 Tryd.underlying53 hi hz0 hz1 hz2 rfl (by decide) _ _ _ rfl (hown.alloc _) ⟨wr3.heap.size, 0, none⟩ 4 4 [.int .u8 ((x.toNat : Int) / 16777216), .int .u8 (bits BinOp.and IntKind.u32 ((x.toNat : Int) / 65536) 255 % 256), .int .u8 (bits BinOp.and IntKind.u32 ((x.toNat : Int) / 256) 255 % 256), .int .u8 (bits BinOp.and IntKind.u32 (x.toNat : Int) 255 % 256)] rfl rfl (World.news_of_block (heap_alloc_new wr3 _)) ?c2 ?c3 ?c4 ?c5 ?_)
              case c2 => intro u hu; rw [← HBS.out] at hu; exact u8s_one _ u hu
              case c3 => unfold maxLen; omega
              case c4 => omega
              case c5 => simp; omega
              intro v' w1 hown' hgrow _
              have hb1 : Below w.heap.size w w1 := (hb.alloc hsz _).grown hgrow (by simp; omega) (fun g hg => by have := (hown.lt g hg).1; omega)
              have hB1' : Blk w1 w.heap.size 75 (vl V) := by
                have hh := hB.alloc (.cells #[.int .u8 ((x.toNat : Int) / 16777216), .int .u8 (bits BinOp.and IntKind.u32 ((x.toNat : Int) / 65536) 255 % 256), .int .u8 (bits BinOp.and IntKind.u32 ((x.toNat : Int) / 256) 255 % 256), .int .u8 (bits BinOp.and IntKind.u32 (x.toNat : Int) 255 % 256)] 5)
                unfold Blk at hh ⊢
                rw [hgrow.block _ (by simp; omega) (fun e => by have := (hown.lt _ e.symm).1; omega)]
                exact hh
              rw [← HBS.out, ← u8s_append, ← HSN.out] at hown'
              clear hgrow hb hown hB
              go_wp2
              go_roundw
              case rel => exact ⟨k + 1, by omega, by go_num, hown', hB1', hb1⟩
              case measure => simp [intOf]; omega
            · obtain rfl : k = 8 := by omega
              have hcv := conv_own hown
              have hS : strOf ((V.list.take 8).flatMap USha.bytesW) = strOf (USha.sha (bytesOf s)) := by rw [HFIN.out]; rfl
              rw [hS] at hcv
              clear hS
              generalize hS2 : strOf (USha.sha (bytesOf s)) = S at *
              have HS2 := Lib.hid hS2
              clear hS2
              go_wp2
              go_ret
              exact ⟨congrArg (fun z => Ending.returned (Value.string z)) HS2.out.symm, hb⟩
end Go.Proofs.YtmkifaddfnodhaaDoor
