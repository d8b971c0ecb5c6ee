/- P10.8 and P10.9: identifiers in the order of their draws, each draw once, walked. -/
import Derived.Test.YtmmniapkajbdhaaDoorOnceAsk
import Derived.Test.YtmmniapkajbdhaaDoorRadixRefWP
import Derived.BigQuiet
import Derived.StillTailTactics
import Derived.Deep.RegionHeld3
namespace Go.Proofs.YtmmniapkajbdhaaDoor
open Go.RowKit
/-- the identifiers, as cells -/
def ids (L : List (List (BitVec 8))) : List Value := L.map fun d => .string (idOf d)
theorem ids_snoc (L : List (List (BitVec 8))) (d : List (BitVec 8)) : ids (L ++ [d]) = ids L ++ [.string (idOf d)] := by simp [ids]
theorem refUrl_draw (s : ByteArray) (hs : s.size = 32) (w : World) : Calls Tryd.prog 23 #[.string s] w fun e w' => e = .returned (.string (idOf (bytesOf s))) ∧ Below w.heap.size w w' :=
  refUrl_any s w (by omega)
theorem infoS : (Tryd.prog.info? 9).map (fun i => (i.zero, i.size, i.bytes)) = some (some (.string { data := #[] }), 1, 16) := by kernel_rfl
theorem own_keep {w w' : World} {B : Nat} {e : TypeId} {size n : Nat} {v : Value} {xs : List Value} (h : w.ownsRow B e size v n xs) (hb : ∀ k, v.ownBlock = some k → w'.heap[k]? = w.heap[k]?) : w'.ownsRow B e size v n xs := by
  refine ⟨h.1, ?_⟩
  rcases h.2 with h0 | ⟨g', cap', cur, hv, hle, hh, r⟩
  · exact .inl h0
  · exact .inr ⟨g', cap', cur, hv, hle, (hb g' (by rw [hv]; rfl)).trans hh, r⟩
theorem own_below {w w' : World} {B : Nat} {e : TypeId} {size n : Nat} {v : Value} {xs : List Value} (h : w.ownsRow B e size v n xs) (hb : Below w.heap.size w w') : w'.ownsRow B e size v n xs := own_keep h fun k hk => hb.block k (h.lt k hk).2
theorem own_ne {w : World} {B k b : Nat} {e t : TypeId} {size n : Nat} {v : Value} {xs l : List Value} (h : w.ownsRow B e size v n xs) (hb : Blk w b t l) (hne : e ≠ t) (hk : v.ownBlock = some k) : k ≠ b := by
  rintro rfl
  rcases h.2 with ⟨rfl, _⟩ | ⟨g', cap', cur, rfl, _, hh, _⟩
  · cases hk
  · simp [Value.ownBlock] at hk
    subst hk
    unfold Blk at hb
    rw [hh] at hb
    simp at hb
    exact hne hb.2
theorem own_own_ne {w : World} {B k b : Nat} {e t : TypeId} {size size' n m : Nat} {v u : Value} {xs l : List Value} (h : w.ownsRow B e size v n xs) (hb : w.ownsRow B t size' u m l) (hne : e ≠ t) (hk : v.ownBlock = some k) (hk2 : u.ownBlock = some b) : k ≠ b := by
  rintro rfl
  rcases hb.2 with ⟨rfl, _⟩ | ⟨g', cap', cur, rfl, _, hh, _⟩
  · cases hk2
  · simp [Value.ownBlock] at hk2
    subst hk2
    exact own_ne (b := g') (t := t) (l := cur.toList) h (by unfold Blk; exact hh) hne hk rfl
/-- what the first part keeps: the source, the variable that holds it, the identifiers that are wanted -/
structure OnceA (w : World) (B g gS : Nat) (ba : Option Addr) (cap : Nat) (L : List (List (BitVec 8))) (v : Value) : Prop where
  src : Src w B g ba cap L
  ps : Blk w gS 28 [.pointer (some ⟨g, 0, none⟩)]
  own : w.ownsRow B 9 1 v L.length (ids L)
theorem OnceA.below {w w' : World} {B g gS : Nat} {ba : Option Addr} {cap : Nat} {L : List (List (BitVec 8))} {v : Value} (h : OnceA w B g gS ba cap L v) (hb : Below w.heap.size w w') : OnceA w' B g gS ba cap L v :=
  ⟨h.src.below hb, h.ps.below hb h.ps.lt, own_below h.own hb⟩
/-- behind a Push: the source has turned; the other two are as they were -/
theorem OnceA.pushed {w w' : World} {B g gS : Nat} {ba : Option Addr} {cap : Nat} {L L' : List (List (BitVec 8))} {v : Value} (h : OnceA w B g gS ba cap L v) (ht : Turned w w' B g ba L') :
    ∃ ba' cap', Src w' B g ba' cap' L' ∧ Blk w' gS 28 [.pointer (some ⟨g, 0, none⟩)] ∧ w'.ownsRow B 9 1 v L.length (ids L) := by
  obtain ⟨ba', cap', hS, hT, _⟩ := ht
  have n1 : gS ≠ g := blk_ne h.ps h.src.blk (by decide)
  have n2 : ba.map (·.block) ≠ some gS := fun e => (own_ne h.src.own h.ps (by decide) (by rw [own_block]; exact e)) rfl
  refine ⟨ba', cap', hS, ?_, own_keep h.own fun k hk => hT.block k (h.own.lt k hk).2 ?_ ?_⟩
  · have hb := h.ps
    unfold Blk at *
    rw [hT.block gS h.ps.lt n1 n2]
    exact hb
  · exact own_ne h.own h.src.blk (by decide) hk
  · intro e
    exact own_own_ne h.own h.src.own (by decide) hk (by rw [own_block]; exact e) rfl
theorem touch_fin {w w' : World} {W0 : World} {B g : Nat} {ba : Option Addr} {cap : Nat} {L L' : List (List (BitVec 8))} (hS : Src w B g ba cap L) (hB : B = W0.heap.size) (hg : B ≤ g) (hb : Below W0.heap.size W0 w) (ht : Turned w w' B g ba L') : Below W0.heap.size W0 w' := by
  obtain ⟨ba', cap', _, hT, _⟩ := ht
  refine hb.trans (hT.below hb.size (by omega) fun k hk => ?_)
  have := (hS.row k hk).1
  omega
/-- behind the append of an identifier -/
theorem once_app {w w2 : World} {B g gS n : Nat} {ba : Option Addr} {cap : Nat} {L : List (List (BitVec 8))} {v : Value} {xs : List Value} {o : Obj} (hS : Src w B g ba cap L) (hp : Blk w gS 28 [.pointer (some ⟨g, 0, none⟩)]) (ho : w.ownsRow B 9 1 v n xs)
    (hgrow : (w.alloc o).grownBy w2 v.ownBlock) : Src w2 B g ba cap L ∧ Blk w2 gS 28 [.pointer (some ⟨g, 0, none⟩)] := by
  have hal : ∀ k, k < w.heap.size → (w.alloc o).heap[k]? = w.heap[k]? := fun k hk => Below.heap_alloc w _ k hk
  have hsz : (w.alloc o).heap.size = w.heap.size + 1 := by simp
  have keep : ∀ k, k < w.heap.size → v.ownBlock ≠ some k → w2.heap[k]? = w.heap[k]? := fun k hk hne => (hgrow.block k (by rw [hsz]; omega) (fun e => hne e.symm)).trans (hal k hk)
  refine ⟨hS.keep fun k hk => keep k ?_ ?_, ?_⟩
  · rcases hk with rfl | hk
    · exact hS.lt
    · exact (hS.row k hk).2.1
  · intro e
    rcases hk with rfl | hk
    · exact own_ne ho hS.blk (by decide) e rfl
    · exact own_own_ne ho hS.own (by decide) e (by rw [own_block]; exact hk) rfl
  · have hb := hp
    have hk := keep gS hp.lt (fun e => own_ne ho hp (by decide) e rfl)
    unfold Blk at *
    rw [hk]
    exact hb
/-- what the second part keeps -/
structure OnceB (w : World) (B g gS gA gL gF gY : Nat) (ba : Option Addr) (cap : Nat) (R : List (List (BitVec 8))) (n : Nat) (s : ByteArray) (f : Int) (y : Bool) (v : Value) (N : Nat) (xs : List Value) : Prop where
  src : Src w B g ba cap R
  ps : Blk w gS 28 [.pointer (some ⟨g, 0, none⟩)]
  own : w.ownsRow B 9 1 v N xs
  a : Blk w gA 3 [.int .i64 (n : Int)]
  l : Blk w gL 9 [.string s]
  f : Blk w gF 3 [.int .i64 f]
  y : Blk w gY 4 [.bool y]
  al : gA ≠ gF
  vl : v.ownBlock ≠ some gL
theorem OnceB.below {w w' : World} {B g gS gA gL gF gY : Nat} {ba : Option Addr} {cap : Nat} {R : List (List (BitVec 8))} {n : Nat} {s : ByteArray} {f : Int} {y : Bool} {v : Value} {N : Nat} {xs : List Value} (h : OnceB w B g gS gA gL gF gY ba cap R n s f y v N xs) (hb : Below w.heap.size w w') :
    OnceB w' B g gS gA gL gF gY ba cap R n s f y v N xs :=
  ⟨h.src.below hb, h.ps.below hb h.ps.lt, own_below h.own hb, h.a.below hb h.a.lt, h.l.below hb h.l.lt, h.f.below hb h.f.lt, h.y.below hb h.y.lt, h.al, h.vl⟩
theorem OnceB.yes {w : World} {B g gS gA gL gF gY : Nat} {ba : Option Addr} {cap : Nat} {R : List (List (BitVec 8))} {n : Nat} {s : ByteArray} {f : Int} {y : Bool} {v : Value} {N : Nat} {xs : List Value} (h : OnceB w B g gS gA gL gF gY ba cap R n s f y v N xs) (y' : Bool) :
    OnceB (w.setCell ⟨gY, 0, none⟩ (.bool y')) B g gS gA gL gF gY ba cap R n s f y' v N xs :=
  ⟨src_far h.src h.y (by decide) (by decide) 0 _, h.ps.far _ _ (blk_ne h.ps h.y (by decide)), ownsRow_setCell_other h.own (fun e => own_ne h.own h.y (by decide) e rfl) _, h.a.far _ _ (blk_ne h.a h.y (by decide)), h.l.far _ _ (blk_ne h.l h.y (by decide)), h.f.far _ _ (blk_ne h.f h.y (by decide)), h.y.set 0 _, h.al, h.vl⟩
theorem OnceB.ask {w w5 : World} {B g gS gA gL gF gY : Nat} {ba ba' : Option Addr} {cap cap' : Nat} {R : List (List (BitVec 8))} {d : List (BitVec 8)} {n : Nat} {s : ByteArray} {f : Int} {y : Bool} {v : Value} {N : Nat} {xs : List Value} (h : OnceB w B g gS gA gL gF gY ba cap (d :: R) n s f y v N xs)
    (hS : Src w5 B g ba' cap' R) (hk : Keeps [g] w w5) : OnceB w5 B g gS gA gL gF gY ba' cap' R n s f y v N xs :=
  ⟨hS, hk.blk h.ps (by simpa using blk_ne h.ps h.src.blk (by decide)), own_keep h.own (fun k e => hk.block k (h.own.lt k e).2 (by simpa using own_ne h.own h.src.blk (by decide) e)), hk.blk h.a (by simpa using blk_ne h.a h.src.blk (by decide)), hk.blk h.l (by simpa using blk_ne h.l h.src.blk (by decide)), hk.blk h.f (by simpa using blk_ne h.f h.src.blk (by decide)), hk.blk h.y (by simpa using blk_ne h.y h.src.blk (by decide)), h.al, h.vl⟩
theorem OnceB.asked {w w' : World} {B g gS gA gL gF gY : Nat} {ba : Option Addr} {cap : Nat} {R : List (List (BitVec 8))} {n : Nat} {s : ByteArray} {f : Int} {y : Bool} {v : Value} {N : Nat} {xs : List Value} (h : OnceB w B g gS gA gL gF gY ba cap R n s f y v N xs)
    (id : ByteArray) (m : Nat) (ha : askedAt gA gL gF n id m w w') : OnceB w' B g gS gA gL gF gY ba cap R (n + 1) id (m : Int) y v N xs := by
  unfold askedAt at ha
  subst ha
  have nAL := blk_ne h.a h.l (by decide)
  have nLF := blk_ne h.l h.f (by decide)
  have hS1 := src_far h.src h.a (by decide) (by decide) 0 (.int .i64 ((n : Int) + 1))
  have hl1 := h.l.far ⟨gA, 0, none⟩ (.int .i64 ((n : Int) + 1)) (Ne.symm nAL)
  have hS2 := src_far hS1 hl1 (by decide) (by decide) 0 (.string id)
  have hf2 := (h.f.far ⟨gA, 0, none⟩ (.int .i64 ((n : Int) + 1)) (Ne.symm h.al)).far ⟨gL, 0, none⟩ (.string id) (Ne.symm nLF)
  have hS3 := src_far hS2 hf2 (by decide) (by decide) 0 (.int .i64 (m : Int))
  have ho1 := ownsRow_setCell_other h.own (a := ⟨gA, 0, none⟩) (fun e => own_ne h.own h.a (by decide) e rfl) (.int .i64 ((n : Int) + 1))
  have ho2 := ownsRow_setCell_other ho1 (a := ⟨gL, 0, none⟩) h.vl (.string id)
  have ho3 := ownsRow_setCell_other ho2 (a := ⟨gF, 0, none⟩) (fun e => own_ne ho2 hf2 (by decide) e rfl) (.int .i64 (m : Int))
  have ha1 := ((h.a.set 0 (.int .i64 ((n : Int) + 1))).far ⟨gL, 0, none⟩ (.string id) nAL).far ⟨gF, 0, none⟩ (.int .i64 (m : Int)) h.al
  refine ⟨hS3, ?_, ho3, ?_, ?_, hf2.set 0 _, ?_, h.al, h.vl⟩
  · exact ((h.ps.far ⟨gA, 0, none⟩ _ (blk_ne h.ps h.a (by decide))).far ⟨gL, 0, none⟩ _ (blk_ne h.ps h.l (by decide))).far ⟨gF, 0, none⟩ _ (blk_ne h.ps h.f (by decide))
  · simpa using ha1
  · exact (hl1.set 0 (.string id)).far ⟨gF, 0, none⟩ _ nLF
  · exact ((h.y.far ⟨gA, 0, none⟩ _ (blk_ne h.y h.a (by decide))).far ⟨gL, 0, none⟩ _ (blk_ne h.y h.l (by decide))).far ⟨gF, 0, none⟩ _ (blk_ne h.y h.f (by decide))
theorem askedAt_below {W0 w w' : World} {gA gL gF n m : Nat} {id : ByteArray} {B : Nat} (hb : Below B W0 w) (h : askedAt gA gL gF n id m w w') (hA : B ≤ gA) (hL : B ≤ gL) (hF : B ≤ gF) : Below B W0 w' := by
  unfold askedAt at h
  subst h
  exact ((hb.setCell (p := ⟨gA, 0, none⟩) hA _).setCell (p := ⟨gL, 0, none⟩) hL _).setCell (p := ⟨gF, 0, none⟩) hF _
theorem below_dn {B : Nat} {a w : World} (h : Below B a w) (n : Nat) : Below B a (w.drewN n) := ⟨h.os, h.tape, h.output, h.size, h.block⟩
set_option maxHeartbeats 8000000 in
set_option maxRecDepth 100000 in
theorem pkceOnce_walk {E : Nat → Addr} (dA yA : Option Addr) (dn dcap yn ycap : Nat) (W : World) (hdn : dn ≤ 140737488351232) (hyn : yn ≤ 140737488351232) (dr : Nat → ByteArray) (ys : Nat → Bool)
    (hdr : ∀ i, i < dn → ∃ sb so, dA = some ⟨sb, so, none⟩ ∧ W.cell? ⟨sb, so + i, none⟩ = some (.string (dr i)))
    (hys : ∀ i, i < yn → ∃ sb so, yA = some ⟨sb, so, none⟩ ∧ W.cell? ⟨sb, so + i, none⟩ = some (.bool (ys i))) (hE : Errs W E) :
    Calls Tryd.prog 6 #[.agg #[.slice dA dn dcap, .slice yA yn ycap]] W fun e w' => e = .returned (.bool true) ∧ Below W.heap.size W w' := by
  have HDR := Lib.hid hdr
  have HYS := Lib.hid hys
  have HE := Lib.hid hE
  clear hdr hys hE
  obtain ⟨W0, hW0⟩ : ∃ W0, W0 = W.alloc (.cells #[.slice dA dn dcap, .slice yA yn ycap] 52) := ⟨_, rfl⟩
  have z0 : W.heap.size < W0.heap.size := by rw [hW0]; simp
  have bW : Below W.heap.size W W0 := by rw [hW0]; exact (Below.refl _ _).alloc (Nat.le_refl _) _
  have hBX : Blk W0 W.heap.size 52 [.slice dA dn dcap, .slice yA yn ycap] := by rw [hW0]; exact Blk.new W _ _
  have HBX := Lib.hid hBX
  have HW0 := Lib.hid hW0
  clear hBX hW0
  have b0 := Below.refl W0.heap.size W0
  go_enter Tryd.func6, Tryd.ntmps6
  go_wp2_with fail
  rw [← HW0.out]
  go_at_call 11
  (with_reducible refine (newSource_any W0 W0.heap.size).mono ?_); rintro e w1 ⟨rfl, hS1, hb1⟩
  have hgl := hS1.lt
  have b1a := hb1.alloc hb1.size (.cells #[.pointer (some ⟨W0.heap.size, 0, none⟩)] 28)
  have HA : Hid (OnceA (w1.alloc (.cells #[.pointer (some ⟨W0.heap.size, 0, none⟩)] 28)) W0.heap.size W0.heap.size w1.heap.size none 0 [] (.slice none 0 0)) :=
    Lib.hid ⟨hS1.below ((Below.refl _ _).alloc (Nat.le_refl _) _), Blk.new w1 _ _, World.ownsRow_nil _ _ _ _⟩
  clear hS1 hb1
  go_wp2
  go_loopw [4, 5, 6] (fun v i _ wr => ∃ (k : Nat) (ba : Option Addr) (cap : Nat) (L : List (List (BitVec 8))), k ≤ dn ∧ i = .int .i64 k ∧ L.length ≤ 1024 ∧ Below W0.heap.size W0 wr ∧ Hid (OnceA wr W0.heap.size W0.heap.size w1.heap.size ba cap L v)) (fun _ i _ _ => dn - (intOf i).toNat)
  case atStart => exact ⟨0, none, 0, [], Nat.zero_le _, rfl, by decide, b1a, HA⟩
  case round =>
    clear HA b1a
    obtain ⟨k, ba, cap, L, hk, rfl, hL, hb, HA⟩ := hrel
    have x0 : wr.cell? ⟨W.heap.size, 0, none⟩ = some (.slice dA dn dcap) := cell_below (HBX.out.cell 0) hb
    have x1 : wr.cell? ⟨W.heap.size, 1, none⟩ = some (.slice yA yn ycap) := cell_below (HBX.out.cell 1) hb
    have x2 : wr.cell? ⟨w1.heap.size, 0, none⟩ = some (.pointer (some ⟨W0.heap.size, 0, none⟩)) := HA.out.ps.cell 0
    obtain ⟨vb, vc, rfl⟩ := own_form HA.out.own
    by_cases hlt : k < dn
    · obtain ⟨sb, so, rfl, e0⟩ := HDR.out k hlt
      have j0 : (0 : Int) ≤ (k : Int) := by omega
      have j1 : (k : Int) < (dn : Int) := by omega
      have E0 := Lib.hid (cell_below e0 bW)
      have e1 := cell_below E0.out hb
      clear e0
      generalize dr k = x at *
      have S0 : wr.drew.cell? ⟨w1.heap.size, 0, none⟩ = some (.pointer (some ⟨W0.heap.size, 0, none⟩)) ∧ wr.drew.cell? ⟨W.heap.size, 0, none⟩ = some (.slice (some ⟨sb, so, none⟩) dn dcap) ∧ wr.drew.cell? ⟨sb, so + k, none⟩ = some (.string x) := ⟨x2, x0, e1⟩
      by_cases h32 : x.size = 32
      · have q : ((x.size : Int) == 32) = true := by rw [h32]; rfl
        by_cases hmany : L.length < 1024
        · -- the draw is pushed
          have q2 : decide (((L.length : Nat) : Int) < 1024) = true := decide_eq_true (by omega)
          have q3 : ((L.length : Nat) : Int) < 1024 := by omega
          have HPU := Lib.hid (push_yes x HA.out.src.drew h32 hmany hb.size)
          have H32 := Lib.hid h32
          obtain ⟨i0, hi, hz0, hz1, hz2⟩ := info_parts infoS
          clear h32
          go_wp2
          go_region_held3 (fun w' => w'.cell? ⟨w1.heap.size, 0, none⟩ = some (.pointer (some ⟨W0.heap.size, 0, none⟩)) ∧ w'.cell? ⟨W.heap.size, 0, none⟩ = some (.slice (some ⟨sb, so, none⟩) dn dcap) ∧ w'.cell? ⟨sb, so + k, none⟩ = some (.string x)) (first | exact S0 | exact S1)
            ((go_at_call 14; (with_reducible refine HPU.out.mono ?_); rintro e w2 ⟨rfl, ht2⟩
              have hb2 := touch_fin HA.out.src.drew rfl (Nat.le_refl _) hb.drew ht2
              obtain ⟨ba2, cap2, hS2, hp2, ho2⟩ := (HA.out.below (Below.refl _ _).drew).pushed ht2
              have y0 : w2.cell? ⟨W.heap.size, 0, none⟩ = some (.slice (some ⟨sb, so, none⟩) dn dcap) := cell_below (HBX.out.cell 0) hb2
              have y1 := cell_below E0.out hb2
              have S1 : w2.cell? ⟨w1.heap.size, 0, none⟩ = some (.pointer (some ⟨W0.heap.size, 0, none⟩)) ∧ w2.cell? ⟨W.heap.size, 0, none⟩ = some (.slice (some ⟨sb, so, none⟩) dn dcap) ∧ w2.cell? ⟨sb, so + k, none⟩ = some (.string x) := ⟨hp2.cell 0, y0, y1⟩))
          have HS2 := Lib.hid hS2
          have HP2 := Lib.hid hp2
          have HO2 := Lib.hid ho2
          clear hS2 hp2 ho2 S0 S1 x0 x1 x2 e1 HA HPU hb ht2
          go_wp2_with (first
            | (go_at_call 23; (with_reducible refine (refUrl_draw x H32.out _).mono ?_); rintro e w3 ⟨rfl, hb3⟩; have b3 := hb2.trans (hb3.mono hb2.size); have ho3 := own_below HO2.out hb3; have HS3 := Lib.hid (HS2.out.below hb3); have HP3 := Lib.hid (HP2.out.below hb3 HP2.out.lt); clear y0 y1)
            | (at_builtin; refine wpList_append_own _ rfl _ _ 34 rfl W0.heap.size 9 i0 _ 1 16 Tryd.underlying34 hi hz0 hz1 hz2 rfl (by decide) _ _ _ rfl (ho3.alloc _) ⟨w3.heap.size, 0, none⟩ 1 1 [.string (idOf (bytesOf x))] rfl rfl (cell_one_new' _ _ _) ?c2 ?c3 ?c4 ?c5 ?_))
          case c2 => intro u hu; simp at hu; subst hu; rfl
          case c3 => unfold maxLen; omega
          case c4 => omega
          case c5 => have := b3.size; simp; omega
          intro v' w4 hown' hgrow _
          have b4 : Below W0.heap.size W0 w4 := (b3.alloc b3.size _).grown hgrow (by have := b3.size; simp; omega) (fun g hg => (ho3.lt g hg).1)
          obtain ⟨hS4, hp4⟩ := once_app HS3.out HP3.out ho3 hgrow
          have HA4 : Hid (OnceA w4 W0.heap.size W0.heap.size w1.heap.size ba2 cap2 (L ++ [bytesOf x]) v') := Lib.hid ⟨hS4, hp4, by rw [List.length_append, ids_snoc]; exact hown'⟩
          clear hown' hgrow hS4 hp4 ho3 b3 hb2 hb3 HS2 HP2 HO2 HS3 HP3
          go_wp2
          go_roundw
          case rel => exact ⟨k + 1, ba2, cap2, L ++ [bytesOf x], by omega, by go_num, by rw [List.length_append]; simp; omega, b4, HA4⟩
          case measure => simp [intOf]; omega
        · -- too many wait
          have q2 : decide (((L.length : Nat) : Int) < 1024) = false := decide_eq_false (by omega)
          have q3 : ¬ ((L.length : Nat) : Int) < 1024 := by omega
          have HPU := Lib.hid (push_many x HA.out.src.drew (HE.out.below (bW.trans (hb.drew.mono bW.size))) h32 (by omega))
          have hbd := hb.drew
          have HAD := Lib.hid (HA.out.below (Below.refl _ _).drew)
          clear h32
          go_wp2
          go_region_held3 (fun w' => w'.cell? ⟨w1.heap.size, 0, none⟩ = some (.pointer (some ⟨W0.heap.size, 0, none⟩)) ∧ w'.cell? ⟨W.heap.size, 0, none⟩ = some (.slice (some ⟨sb, so, none⟩) dn dcap) ∧ w'.cell? ⟨sb, so + k, none⟩ = some (.string x)) (first | exact S0 | exact S1)
            ((go_at_call 14; (with_reducible refine HPU.out.mono ?_); rintro e w2 ⟨rfl, rfl⟩; have S1 := S0))
          obtain ⟨s0, s1, s2⟩ := S1
          clear S0 hb HA HPU x0 x1 x2 e1
          generalize wr.drew = wd at *
          go_wp2
          go_roundw
          case rel => exact ⟨k + 1, ba, cap, L, by omega, by go_num, hL, hbd, HAD⟩
          case measure => simp [intOf]; omega
      · -- no draw
        have q : ((x.size : Int) == 32) = false := by rw [beq_eq_false_iff_ne]; omega
        have HPU := Lib.hid (push_len x W0.heap.size wr.drew (HE.out.below (bW.trans (hb.drew.mono bW.size))) h32)
        have hbd := hb.drew
        have HAD := Lib.hid (HA.out.below (Below.refl _ _).drew)
        clear h32
        go_wp2
        go_region_held3 (fun w' => w'.cell? ⟨w1.heap.size, 0, none⟩ = some (.pointer (some ⟨W0.heap.size, 0, none⟩)) ∧ w'.cell? ⟨W.heap.size, 0, none⟩ = some (.slice (some ⟨sb, so, none⟩) dn dcap) ∧ w'.cell? ⟨sb, so + k, none⟩ = some (.string x)) (first | exact S0 | exact S1)
          ((go_at_call 14; (with_reducible refine HPU.out.mono ?_); rintro e w2 ⟨rfl, rfl⟩; have S1 := S0))
        obtain ⟨s0, s1, s2⟩ := S1
        clear S0 hb HA HPU x0 x1 x2 e1
        generalize wr.drew = wd at *
        go_wp2
        go_roundw
        case rel => exact ⟨k + 1, ba, cap, L, by omega, by go_num, hL, hbd, HAD⟩
        case measure => simp [intOf]; omega
    · obtain ⟨wo, rfl⟩ : ∃ wo : World, wo = wr := ⟨_, rfl⟩
      have bs := hb.size
      have b4 := (((hb.alloc bs (.cells #[.int .i64 0] 3)).alloc (by simp; omega) (.cells #[.string { data := #[] }] 9)).alloc (by simp; omega) (.cells #[.int .i64 0] 3)).alloc (by simp; omega) (.cells #[.bool false] 4)
      have HB : Hid (OnceB ((((wo.alloc (.cells #[.int .i64 0] 3)).alloc (.cells #[.string { data := #[] }] 9)).alloc (.cells #[.int .i64 0] 3)).alloc (.cells #[.bool false] 4)) W0.heap.size W0.heap.size w1.heap.size wo.heap.size (wo.heap.size + 1) (wo.heap.size + 1 + 1) (wo.heap.size + 1 + 1 + 1) ba cap (L.drop 0) 0 { data := #[] } 0 false (.slice vb L.length vc) L.length (ids L)) := by
        have hal := ((((Below.refl wo.heap.size wo).alloc (Nat.le_refl _) (.cells #[.int .i64 0] 3)).alloc (by simp <;> omega) (.cells #[.string { data := #[] }] 9)).alloc (by simp <;> omega) (.cells #[.int .i64 0] 3)).alloc (by simp <;> omega) (.cells #[.bool false] 4)
        have b1 := Blk.new wo 3 [.int .i64 0]
        have b2 := Blk.new (wo.alloc (.cells #[.int .i64 0] 3)) 9 [.string { data := #[] }]
        have b3 := Blk.new ((wo.alloc (.cells #[.int .i64 0] 3)).alloc (.cells #[.string { data := #[] }] 9)) 3 [.int .i64 0]
        have b4 := Blk.new (((wo.alloc (.cells #[.int .i64 0] 3)).alloc (.cells #[.string { data := #[] }] 9)).alloc (.cells #[.int .i64 0] 3)) 4 [.bool false]
        simp only [World.size_alloc] at b1 b2 b3 b4
        rw [List.drop_zero]
        exact Lib.hid ⟨HA.out.src.below hal, HA.out.ps.below hal HA.out.ps.lt, own_below HA.out.own hal, ((b1.alloc _).alloc _).alloc _, (b2.alloc _).alloc _, b3.alloc _, b4, by omega, fun e => by have := (HA.out.own.lt _ e).2; omega⟩
      clear HA hb
      go_wp2
      generalize wo.heap.size = gA at *
      clear x0 x1 x2 HDR
      go_loopw [12, 13, 14] (fun i _ _ wr => ∃ (k : Nat) (ba : Option Addr) (cap : Nat) (s : ByteArray) (f : Int) (y : Bool), k ≤ L.length ∧ i = .int .i64 k ∧ Below W0.heap.size W0 wr ∧ Hid (OnceB wr W0.heap.size W0.heap.size w1.heap.size gA (gA + 1) (gA + 1 + 1) (gA + 1 + 1 + 1) ba cap (L.drop k) k s f y (.slice vb L.length vc) L.length (ids L))) (fun i _ _ _ => L.length - (intOf i).toNat)
      case atStart => exact ⟨0, ba, cap, _, _, _, Nat.zero_le _, rfl, b4, HB⟩
      case round =>
        clear HB b4
        obtain ⟨k, ba, cap, s, f, y, hk, rfl, hb, HB⟩ := hrel
        have x1 : wr.cell? ⟨W.heap.size, 1, none⟩ = some (.slice yA yn ycap) := cell_below (HBX.out.cell 1) hb
        by_cases hlt : k < L.length
        · obtain ⟨D, hD⟩ : ∃ D, D = L[k] := ⟨_, rfl⟩
          obtain ⟨R, hR⟩ : ∃ R, R = L.drop (k + 1) := ⟨_, rfl⟩
          have hd : L.drop k = D :: R := by rw [hD, hR]; exact List.drop_eq_getElem_cons hlt
          have hid : (ids L)[k]? = some (.string (idOf D)) := by rw [hD]; simp [ids, hlt]
          have hrl : R.length = L.length - (k + 1) := by rw [hR, List.length_drop]
          have HD := Lib.hid hd
          have HID := Lib.hid hid
          have HRL := Lib.hid hrl
          have HR := Lib.hid hR
          have hrl2 : R.length ≤ 1023 := by omega
          obtain ⟨gw, capw, hvw, hgw, hgl⟩ := HB.out.own.form (by omega)
          injection hvw with hvw hvn hvc
          subst hvw hvc
          have j0 : (0 : Int) ≤ (k : Int) := by omega
          have j1 : (k : Int) < (L.length : Int) := by omega
          have c3 : wr.cell? ⟨gA + 1 + 1 + 1, 0, none⟩ = some (.bool y) := HB.out.y.cell 0
          have c4 : wr.frozen? ⟨gA + 1 + 1 + 1, 0, none⟩ = false := HB.out.y.frozen 0
          clear hD hd hid hrl hR
          by_cases hy : k < yn
          · obtain ⟨yb, yo, rfl, e0⟩ := HYS.out k hy
            have j2 : (k : Int) < (yn : Int) := by omega
            have j3 : decide ((k : Int) < (yn : Int)) = true := decide_eq_true j2
            have e5 := cell_below (cell_below e0 bW) hb
            clear e0
            cases hyk : ys k <;> rw [hyk] at e5
            · clear hyk
              have hy5 := HB.out.yes false
              rw [HD.out] at hy5
              have HB5 := Lib.hid hy5
              have hb5 : Below W0.heap.size W0 (wr.setCell ⟨gA + 1 + 1 + 1, 0, none⟩ (.bool false)) := hb.setCell (by simp; omega) _
              have x5 : (wr.setCell ⟨gA + 1 + 1 + 1, 0, none⟩ (.bool false)).cell? ⟨w1.heap.size, 0, none⟩ = some (.pointer (some ⟨W0.heap.size, 0, none⟩)) := HB5.out.ps.cell 0
              clear hy5
              go_wp2_with fail
              clear HB hb c3 c4 e5 x1
              generalize wr.setCell ⟨gA + 1 + 1 + 1, 0, none⟩ (.bool false) = w5 at *
              have HFR := Lib.hid (fresh_ask (E := E) (R := (askedAt gA (gA + 1) (gA + 1 + 1) k (idOf D) R.length)) ⟨gA, 0, none⟩ ⟨gA + 1, 0, none⟩ ⟨w1.heap.size, 0, none⟩ ⟨gA + 1 + 1, 0, none⟩ ⟨gA + 1 + 1 + 1, 0, none⟩ false HB5.out.src (by omega) hb5.size
                (Lib.hid fun w' ba' cap' hS' hk' => ask_any (idOf D) hS' (HB5.out.ask hS' hk').a (HB5.out.ask hS' hk').l (HB5.out.ask hS' hk').ps (HB5.out.ask hS' hk').f (HB5.out.ask hS' hk').y (by omega))
                (Lib.hid fun w6 w7 hk' ha' => HE.out.below (bW.trans ((askedAt_below (hb5.trans (hk'.below hb5.size (by simp))) ha' (by omega) (by omega) (by omega)).mono bW.size))))
              go_at_call 19
              (with_reducible refine HFR.out.mono ?_); rintro e w7 ⟨rfl, ha7⟩
              have hb7 : Below W0.heap.size W0 w7 ∧ ∃ ba7 cap7, OnceB w7 W0.heap.size W0.heap.size w1.heap.size gA (gA + 1) (gA + 1 + 1) (gA + 1 + 1 + 1) ba7 cap7 R (k + 1) (idOf D) (R.length : Int) false (.slice (some ⟨gw, 0, none⟩) L.length vc) L.length (ids L) := by
                obtain ⟨w6, w8, ba', cap', hS', hk', ha', hw⟩ := ha7
                have hq := (HB5.out.ask hS' hk').asked (idOf D) R.length ha'
                have hbb := askedAt_below (hb5.trans (hk'.below hb5.size (by simp))) ha' (by omega) (by omega) (by omega)
                rcases hw with rfl | rfl
                · exact ⟨hbb, ba', cap', hq⟩
                · exact ⟨hbb.drew, ba', cap', hq.below (Below.refl _ _).drew⟩
              obtain ⟨hb7, ba7, cap7, hB7⟩ := hb7
              have HB7 := Lib.hid hB7
              clear hB7 ha7 HFR HB5 hb5 x5
              have f0 : w7.cell? ⟨gA, 0, none⟩ = some (.int .i64 ((k : Int) + 1)) := by
                have := HB7.out.a.cell 0
                simpa using this
              have f1 : w7.cell? ⟨gA + 1, 0, none⟩ = some (.string (idOf D)) := HB7.out.l.cell 0
              have f2 : w7.cell? ⟨gA + 1 + 1, 0, none⟩ = some (.int .i64 (R.length : Int)) := HB7.out.f.cell 0
              have f3 : w7.cell? ⟨gA + 1 + 1 + 1, 0, none⟩ = some (.bool false) := HB7.out.y.cell 0
              have f4 : w7.cell? ⟨gw, k, none⟩ = some (.string (idOf D)) := by
                have h := HB7.out.own.cells (g := gw) rfl k _ HID.out
                have hadd : (⟨gw, 0, none⟩ : Addr).add k = ⟨gw, k, none⟩ := by unfold Addr.add; split <;> simp_all
                rwa [hadd] at h
              have hw0 : IntKind.i64.wrap ((k : Int) + 1) = (k : Int) + 1 := IntWalk.i64_in _ (by omega)
              have hw1 : IntKind.i64.wrap ((L.length : Int) - (k : Int)) = (L.length : Int) - (k : Int) := IntWalk.i64_in _ (by omega)
              have hw2 : IntKind.i64.wrap ((L.length : Int) - (k : Int) - 1) = (L.length : Int) - (k : Int) - 1 := IntWalk.i64_in _ (by omega)
              have hq3 : (((R.length : Nat) : Int) != (L.length : Int) - (k : Int) - 1) = false := by rw [bne_eq_false_iff_eq]; have := HRL.out; omega
              go_wp2
              go_quiet (fail)
              clear hw0 hw1 hw2 hq3 f0 f1 f2
              have hb8 : Below W0.heap.size W0 (w7.drewN nq) := below_dn hb7 nq
              have HB8 := Lib.hid (HB7.out.below (below_dn (Below.refl _ _) nq))
              clear f3 f4 HB7 hb7
              generalize w7.drewN nq = w8 at *
              have HE8 := Lib.hid (HE.out.below (bW.trans (hb8.mono bW.size)))
              have f3 : w8.cell? ⟨gA + 1 + 1 + 1, 0, none⟩ = some (.bool false) := HB8.out.y.cell 0
              have f4 : w8.cell? ⟨gw, k, none⟩ = some (.string (idOf D)) := by
                have h := HB8.out.own.cells (g := gw) rfl k _ HID.out
                have hadd : (⟨gw, 0, none⟩ : Addr).add k = ⟨gw, k, none⟩ := by unfold Addr.add; split <;> simp_all
                rwa [hadd] at h
              go_wp2_with (go_at_call 15; (with_reducible refine (num_7 HE8.out).mono ?_); rintro e w9 ⟨rfl, rfl⟩)
              go_roundw
              case rel => exact ⟨k + 1, ba7, cap7, _, _, _, by omega, by go_num, hb8, by rw [← HR.out]; exact HB8⟩
              case measure => simp [intOf]; omega
            · clear hyk
              have hy5 := HB.out.yes true
              rw [HD.out] at hy5
              have HB5 := Lib.hid hy5
              have hb5 : Below W0.heap.size W0 (wr.setCell ⟨gA + 1 + 1 + 1, 0, none⟩ (.bool true)) := hb.setCell (by simp; omega) _
              have x5 : (wr.setCell ⟨gA + 1 + 1 + 1, 0, none⟩ (.bool true)).cell? ⟨w1.heap.size, 0, none⟩ = some (.pointer (some ⟨W0.heap.size, 0, none⟩)) := HB5.out.ps.cell 0
              clear hy5
              go_wp2_with fail
              clear HB hb c3 c4 e5 x1
              generalize wr.setCell ⟨gA + 1 + 1 + 1, 0, none⟩ (.bool true) = w5 at *
              have HFR := Lib.hid (fresh_ask (E := E) (R := (askedAt gA (gA + 1) (gA + 1 + 1) k (idOf D) R.length)) ⟨gA, 0, none⟩ ⟨gA + 1, 0, none⟩ ⟨w1.heap.size, 0, none⟩ ⟨gA + 1 + 1, 0, none⟩ ⟨gA + 1 + 1 + 1, 0, none⟩ true HB5.out.src (by omega) hb5.size
                (Lib.hid fun w' ba' cap' hS' hk' => ask_any (idOf D) hS' (HB5.out.ask hS' hk').a (HB5.out.ask hS' hk').l (HB5.out.ask hS' hk').ps (HB5.out.ask hS' hk').f (HB5.out.ask hS' hk').y (by omega))
                (Lib.hid fun w6 w7 hk' ha' => HE.out.below (bW.trans ((askedAt_below (hb5.trans (hk'.below hb5.size (by simp))) ha' (by omega) (by omega) (by omega)).mono bW.size))))
              go_at_call 19
              (with_reducible refine HFR.out.mono ?_); rintro e w7 ⟨rfl, ha7⟩
              have hb7 : Below W0.heap.size W0 w7 ∧ ∃ ba7 cap7, OnceB w7 W0.heap.size W0.heap.size w1.heap.size gA (gA + 1) (gA + 1 + 1) (gA + 1 + 1 + 1) ba7 cap7 R (k + 1) (idOf D) (R.length : Int) true (.slice (some ⟨gw, 0, none⟩) L.length vc) L.length (ids L) := by
                obtain ⟨w6, w8, ba', cap', hS', hk', ha', hw⟩ := ha7
                have hq := (HB5.out.ask hS' hk').asked (idOf D) R.length ha'
                have hbb := askedAt_below (hb5.trans (hk'.below hb5.size (by simp))) ha' (by omega) (by omega) (by omega)
                rcases hw with rfl | rfl
                · exact ⟨hbb, ba', cap', hq⟩
                · exact ⟨hbb.drew, ba', cap', hq.below (Below.refl _ _).drew⟩
              obtain ⟨hb7, ba7, cap7, hB7⟩ := hb7
              have HB7 := Lib.hid hB7
              clear hB7 ha7 HFR HB5 hb5 x5
              have f0 : w7.cell? ⟨gA, 0, none⟩ = some (.int .i64 ((k : Int) + 1)) := by
                have := HB7.out.a.cell 0
                simpa using this
              have f1 : w7.cell? ⟨gA + 1, 0, none⟩ = some (.string (idOf D)) := HB7.out.l.cell 0
              have f2 : w7.cell? ⟨gA + 1 + 1, 0, none⟩ = some (.int .i64 (R.length : Int)) := HB7.out.f.cell 0
              have f3 : w7.cell? ⟨gA + 1 + 1 + 1, 0, none⟩ = some (.bool true) := HB7.out.y.cell 0
              have f4 : w7.cell? ⟨gw, k, none⟩ = some (.string (idOf D)) := by
                have h := HB7.out.own.cells (g := gw) rfl k _ HID.out
                have hadd : (⟨gw, 0, none⟩ : Addr).add k = ⟨gw, k, none⟩ := by unfold Addr.add; split <;> simp_all
                rwa [hadd] at h
              have hw0 : IntKind.i64.wrap ((k : Int) + 1) = (k : Int) + 1 := IntWalk.i64_in _ (by omega)
              have hw1 : IntKind.i64.wrap ((L.length : Int) - (k : Int)) = (L.length : Int) - (k : Int) := IntWalk.i64_in _ (by omega)
              have hw2 : IntKind.i64.wrap ((L.length : Int) - (k : Int) - 1) = (L.length : Int) - (k : Int) - 1 := IntWalk.i64_in _ (by omega)
              have hq3 : (((R.length : Nat) : Int) != (L.length : Int) - (k : Int) - 1) = false := by rw [bne_eq_false_iff_eq]; have := HRL.out; omega
              go_wp2
              go_quiet (fail)
              clear hw0 hw1 hw2 hq3 f0 f1 f2
              have hb8 : Below W0.heap.size W0 (w7.drewN nq) := below_dn hb7 nq
              have HB8 := Lib.hid (HB7.out.below (below_dn (Below.refl _ _) nq))
              clear f3 f4 HB7 hb7
              generalize w7.drewN nq = w8 at *
              have HE8 := Lib.hid (HE.out.below (bW.trans (hb8.mono bW.size)))
              have f3 : w8.cell? ⟨gA + 1 + 1 + 1, 0, none⟩ = some (.bool true) := HB8.out.y.cell 0
              have f4 : w8.cell? ⟨gw, k, none⟩ = some (.string (idOf D)) := by
                have h := HB8.out.own.cells (g := gw) rfl k _ HID.out
                have hadd : (⟨gw, 0, none⟩ : Addr).add k = ⟨gw, k, none⟩ := by unfold Addr.add; split <;> simp_all
                rwa [hadd] at h
              go_wp2_with (go_at_call 15; (with_reducible refine (num_7 HE8.out).mono ?_); rintro e w9 ⟨rfl, rfl⟩)
              go_roundw
              case rel => exact ⟨k + 1, ba7, cap7, _, _, _, by omega, by go_num, hb8, by rw [← HR.out]; exact HB8⟩
              case measure => simp [intOf]; omega
          · have j2 : ¬ (k : Int) < (yn : Int) := by omega
            have j3 : decide ((k : Int) < (yn : Int)) = false := decide_eq_false j2
            have e5 : True := trivial
            have hy5 := HB.out.yes false
            rw [HD.out] at hy5
            have HB5 := Lib.hid hy5
            have hb5 : Below W0.heap.size W0 (wr.setCell ⟨gA + 1 + 1 + 1, 0, none⟩ (.bool false)) := hb.setCell (by simp; omega) _
            have x5 : (wr.setCell ⟨gA + 1 + 1 + 1, 0, none⟩ (.bool false)).cell? ⟨w1.heap.size, 0, none⟩ = some (.pointer (some ⟨W0.heap.size, 0, none⟩)) := HB5.out.ps.cell 0
            clear hy5
            go_wp2_with fail
            clear HB hb c3 c4 e5 x1
            generalize wr.setCell ⟨gA + 1 + 1 + 1, 0, none⟩ (.bool false) = w5 at *
            have HFR := Lib.hid (fresh_ask (E := E) (R := (askedAt gA (gA + 1) (gA + 1 + 1) k (idOf D) R.length)) ⟨gA, 0, none⟩ ⟨gA + 1, 0, none⟩ ⟨w1.heap.size, 0, none⟩ ⟨gA + 1 + 1, 0, none⟩ ⟨gA + 1 + 1 + 1, 0, none⟩ false HB5.out.src (by omega) hb5.size
              (Lib.hid fun w' ba' cap' hS' hk' => ask_any (idOf D) hS' (HB5.out.ask hS' hk').a (HB5.out.ask hS' hk').l (HB5.out.ask hS' hk').ps (HB5.out.ask hS' hk').f (HB5.out.ask hS' hk').y (by omega))
              (Lib.hid fun w6 w7 hk' ha' => HE.out.below (bW.trans ((askedAt_below (hb5.trans (hk'.below hb5.size (by simp))) ha' (by omega) (by omega) (by omega)).mono bW.size))))
            go_at_call 19
            (with_reducible refine HFR.out.mono ?_); rintro e w7 ⟨rfl, ha7⟩
            have hb7 : Below W0.heap.size W0 w7 ∧ ∃ ba7 cap7, OnceB w7 W0.heap.size W0.heap.size w1.heap.size gA (gA + 1) (gA + 1 + 1) (gA + 1 + 1 + 1) ba7 cap7 R (k + 1) (idOf D) (R.length : Int) false (.slice (some ⟨gw, 0, none⟩) L.length vc) L.length (ids L) := by
              obtain ⟨w6, w8, ba', cap', hS', hk', ha', hw⟩ := ha7
              have hq := (HB5.out.ask hS' hk').asked (idOf D) R.length ha'
              have hbb := askedAt_below (hb5.trans (hk'.below hb5.size (by simp))) ha' (by omega) (by omega) (by omega)
              rcases hw with rfl | rfl
              · exact ⟨hbb, ba', cap', hq⟩
              · exact ⟨hbb.drew, ba', cap', hq.below (Below.refl _ _).drew⟩
            obtain ⟨hb7, ba7, cap7, hB7⟩ := hb7
            have HB7 := Lib.hid hB7
            clear hB7 ha7 HFR HB5 hb5 x5
            have f0 : w7.cell? ⟨gA, 0, none⟩ = some (.int .i64 ((k : Int) + 1)) := by
              have := HB7.out.a.cell 0
              simpa using this
            have f1 : w7.cell? ⟨gA + 1, 0, none⟩ = some (.string (idOf D)) := HB7.out.l.cell 0
            have f2 : w7.cell? ⟨gA + 1 + 1, 0, none⟩ = some (.int .i64 (R.length : Int)) := HB7.out.f.cell 0
            have f3 : w7.cell? ⟨gA + 1 + 1 + 1, 0, none⟩ = some (.bool false) := HB7.out.y.cell 0
            have f4 : w7.cell? ⟨gw, k, none⟩ = some (.string (idOf D)) := by
              have h := HB7.out.own.cells (g := gw) rfl k _ HID.out
              have hadd : (⟨gw, 0, none⟩ : Addr).add k = ⟨gw, k, none⟩ := by unfold Addr.add; split <;> simp_all
              rwa [hadd] at h
            have hw0 : IntKind.i64.wrap ((k : Int) + 1) = (k : Int) + 1 := IntWalk.i64_in _ (by omega)
            have hw1 : IntKind.i64.wrap ((L.length : Int) - (k : Int)) = (L.length : Int) - (k : Int) := IntWalk.i64_in _ (by omega)
            have hw2 : IntKind.i64.wrap ((L.length : Int) - (k : Int) - 1) = (L.length : Int) - (k : Int) - 1 := IntWalk.i64_in _ (by omega)
            have hq3 : (((R.length : Nat) : Int) != (L.length : Int) - (k : Int) - 1) = false := by rw [bne_eq_false_iff_eq]; have := HRL.out; omega
            go_wp2
            go_quiet (fail)
            clear hw0 hw1 hw2 hq3 f0 f1 f2
            have hb8 : Below W0.heap.size W0 (w7.drewN nq) := below_dn hb7 nq
            have HB8 := Lib.hid (HB7.out.below (below_dn (Below.refl _ _) nq))
            clear f3 f4 HB7 hb7
            generalize w7.drewN nq = w8 at *
            have HE8 := Lib.hid (HE.out.below (bW.trans (hb8.mono bW.size)))
            have f3 : w8.cell? ⟨gA + 1 + 1 + 1, 0, none⟩ = some (.bool false) := HB8.out.y.cell 0
            have f4 : w8.cell? ⟨gw, k, none⟩ = some (.string (idOf D)) := by
              have h := HB8.out.own.cells (g := gw) rfl k _ HID.out
              have hadd : (⟨gw, 0, none⟩ : Addr).add k = ⟨gw, k, none⟩ := by unfold Addr.add; split <;> simp_all
              rwa [hadd] at h
            go_wp2_with (go_at_call 15; (with_reducible refine (num_7 HE8.out).mono ?_); rintro e w9 ⟨rfl, rfl⟩)
            go_roundw
            case rel => exact ⟨k + 1, ba7, cap7, _, _, _, by omega, by go_num, hb8, by rw [← HR.out]; exact HB8⟩
            case measure => simp [intOf]; omega
        · obtain rfl : k = L.length := by omega
          have hS : Src wr W0.heap.size W0.heap.size ba cap [] := by
            have := HB.out.src
            rwa [List.drop_length] at this
          have x5 : wr.cell? ⟨w1.heap.size, 0, none⟩ = some (.pointer (some ⟨W0.heap.size, 0, none⟩)) := HB.out.ps.cell 0
          have HFD := Lib.hid (fresh_dry (.func (.func 24) #[] #[.pointer (some ⟨gA, 0, none⟩), .pointer (some ⟨gA + 1, 0, none⟩), .pointer (some ⟨w1.heap.size, 0, none⟩), .pointer (some ⟨gA + 1 + 1, 0, none⟩), .pointer (some ⟨gA + 1 + 1 + 1, 0, none⟩)]) hS (HE.out.below (bW.trans (hb.mono bW.size))))
          have HLF : Hid (∀ w', Below wr.heap.size wr w' → Calls Tryd.prog 21 #[.pointer (some ⟨W0.heap.size, 0, none⟩)] w' fun e w2 => e = .returned (.int .i64 0) ∧ w' = w2) := Lib.hid fun w' h' => left_any (hS.below h')
          clear hS
          go_wp2_with (first
            | (go_at_call 19; (with_reducible refine HFD.out.mono ?_); rintro e w7 ⟨rfl, hb7⟩; have HB7 := Lib.hid (HB.out.below hb7); have b7 := hb.trans (hb7.mono hb.size); have f0 : w7.cell? ⟨gA, 0, none⟩ = some (.int .i64 (L.length : Int)) := HB7.out.a.cell 0; have x7 : w7.cell? ⟨w1.heap.size, 0, none⟩ = some (.pointer (some ⟨W0.heap.size, 0, none⟩)) := HB7.out.ps.cell 0; have HE7 := Lib.hid (HE.out.below (bW.trans (b7.mono bW.size))))
            | (go_at_call 15; (with_reducible refine (num_6 HE7.out).mono ?_); rintro e w8 ⟨rfl, rfl⟩)
            | (go_at_call 21; (with_reducible refine (HLF.out _ hb7).mono ?_); rintro e w8 ⟨rfl, rfl⟩))
          go_ret
          exact ⟨by simp, bW.trans (b7.mono bW.size)⟩
end Go.Proofs.YtmmniapkajbdhaaDoor
