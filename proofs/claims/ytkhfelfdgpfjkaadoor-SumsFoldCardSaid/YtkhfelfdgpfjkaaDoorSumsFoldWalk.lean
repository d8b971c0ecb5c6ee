/- P1.6 by the package's own Macs, walked. -/
import Derived.Test.YtkhfelfdgpfjkaaDoorStretch
import Derived.Test.YtkhfelfdgpfjkaaDoorStretchBox
import Derived.Test.YtkhfelfdgpfjkaaDoorKit
import Derived.Deep.AppendLies
import Derived.Laws.OwnMore
import Derived.Deep.Cut
import Derived.StillTailTactics
namespace Go.Proofs.YtkhfelfdgpfjkaaDoor
open Go.RowKit
namespace USha
theorem xorL_assoc (a b c : List B8) (h1 : a.length = b.length) (h2 : b.length = c.length) : xorL (xorL a b) c = xorL a (xorL b c) := by
  unfold xorL
  induction a generalizing b c with
  | nil => simp
  | cons x a ih =>
    cases b with
    | nil => simp at h1
    | cons y b =>
      cases c with
      | nil => simp at h2
      | cons z c =>
        simp only [List.zipWith_cons_cons, List.cons.injEq]
        exact ⟨BitVec.xor_assoc x y z, ih b c (by simpa using h1) (by simpa using h2)⟩
theorem xorL_self (a : List B8) : xorL a a = List.replicate a.length 0#8 := by
  unfold xorL
  induction a with
  | nil => rfl
  | cons x a ih => simp only [List.zipWith_cons_cons, BitVec.xor_self, ih, List.length_cons, List.replicate_succ]
/-- what is left behind i rounds -/
def fold (p s : List B8) (n : Nat) : Nat → List B8
  | 0 => stT p s n
  | i + 1 => xorL (stT p s n) (stT p s i)
theorem fold_len (p s : List B8) (n i : Nat) : (fold p s n i).length = 32 := by
  cases i with
  | zero => exact stT_len p s n
  | succ i => exact (xorL_length _ _ (by rw [stT_len, stT_len])).trans (stT_len p s n)
theorem fold_step (p s : List B8) (n i : Nat) : xorL (fold p s n i) (stU p s i) = fold p s n (i + 1) := by
  cases i with
  | zero => rfl
  | succ i => exact xorL_assoc _ _ _ (by rw [stT_len, stT_len]) (by rw [stT_len, stU_len])
theorem fold_end (p s : List B8) (n : Nat) : fold p s n (n + 1) = List.replicate 32 0#8 := by
  show xorL (stT p s n) (stT p s n) = _
  rw [xorL_self, stT_len]
end USha
theorem row_below {w w' : World} {B base size n : Nat} {e : TypeId} {v : Value} {xs : List Value} (h : w.ownsRow base e size v n xs) (hb : Below B w w') (hB : w.heap.size ≤ B) : w'.ownsRow base e size v n xs := by
  have hl := h.lt
  refine ⟨h.1, ?_⟩
  rcases h.2 with h0 | ⟨g, cap, cur, hv, hbg, hg, r⟩
  · exact .inl h0
  · exact .inr ⟨g, cap, cur, hv, hbg, (hb.block g (by have := (hl g (by rw [hv]; rfl)).2; omega)).trans hg, r⟩
set_option maxHeartbeats 400000 in
theorem sumsFold_no {E : Nat → Addr} (a b : ByteArray) (r : Int) (W : World) (hE : Errs W E) (hr : r < 1 ∨ 1000 < r) :
    Calls Tryd.prog 13 #[.agg #[.string a, .string b, .int .i64 r]] W fun e w' => e = .returned (.bool true) ∧ Below W.heap.size W w' := by
  have b0 : Below (W.alloc (.cells #[.string a, .string b, .int .i64 r] 55)).heap.size (W.alloc (.cells #[.string a, .string b, .int .i64 r] 55)) (W.alloc (.cells #[.string a, .string b, .int .i64 r] 55)) := Below.refl _ _
  have HM : Hid (∀ w', Below (W.alloc (.cells #[.string a, .string b, .int .i64 r] 55)).heap.size (W.alloc (.cells #[.string a, .string b, .int .i64 r] 55)) w' → Calls Tryd.prog 28 #[.string a, .string b, .int .i64 r] w' fun e w2 => e = .returned (.tuple #[.string { data := #[] }, .iface 86 (.pointer (some (E 0)))]) ∧ Below w'.heap.size w' w2) :=
    Lib.hid fun w' h => stretch_no a b r w' _ (E 0) (hE.below (st_fin h)).v0 hr
  have HN : Hid (∀ w', Below (W.alloc (.cells #[.string a, .string b, .int .i64 r] 55)).heap.size (W.alloc (.cells #[.string a, .string b, .int .i64 r] 55)) w' → Calls Tryd.prog 30 #[.iface 86 (.pointer (some (E 0)))] w' fun e w2 => e = .returned (.int .i64 1) ∧ w' = w2) :=
    Lib.hid fun w' h => num_0 (hE.below (st_fin h))
  obtain ⟨d0, d1, d2⟩ := st_below b0
  generalize E 0 = e0 at *
  clear hE
  rcases hr with hr | hr
  · have q1 : decide (r < 1) = true := decide_eq_true hr
    go_enter Tryd.func13, Tryd.ntmps13
    go_wp2_with (first
      | (go_at_call 28; (with_reducible refine (HM.out _ b0).mono ?_); rintro e w1 ⟨rfl, hb1⟩; have b1 := b0.trans (hb1.mono b0.size); obtain ⟨x0, x1, x2⟩ := st_below b1; have HN2 := Lib.hid (HN.out _ b1))
      | (go_at_call 30; (with_reducible refine HN2.out.mono ?_); rintro e w3 ⟨rfl, rfl⟩))
    go_ret
    exact ⟨rfl, st_fin b1⟩
  · have hr2 : ¬ r < 1 := by omega
    have q1 : decide (r < 1) = false := decide_eq_false hr2
    have q2 : decide (1000 < r) = true := decide_eq_true hr
    go_enter Tryd.func13, Tryd.ntmps13
    go_wp2_with (first
      | (go_at_call 28; (with_reducible refine (HM.out _ b0).mono ?_); rintro e w1 ⟨rfl, hb1⟩; have b1 := b0.trans (hb1.mono b0.size); obtain ⟨x0, x1, x2⟩ := st_below b1; have HN2 := Lib.hid (HN.out _ b1))
      | (go_at_call 30; (with_reducible refine HN2.out.mono ?_); rintro e w3 ⟨rfl, rfl⟩))
    go_ret
    exact ⟨rfl, st_fin b1⟩
set_option maxHeartbeats 2000000 in
theorem sumsFold_yes (a b : ByteArray) (n : Nat) (W : World) (ha : a.size ≤ 140737488351232) (hb : b.size ≤ 140737488351232) (hn : n < 1000) (ht : PTabs W) :
    Calls Tryd.prog 13 #[.agg #[.string a, .string b, .int .i64 ((n : Int) + 1)]] W fun e w' => e = .returned (.bool true) ∧ Below W.heap.size W w' := by
  obtain ⟨m, hm⟩ : ∃ m : Int, m = (n : Int) + 1 := ⟨_, rfl⟩
  have b0 : Below (W.alloc (.cells #[.string a, .string b, .int .i64 m] 55)).heap.size (W.alloc (.cells #[.string a, .string b, .int .i64 m] 55)) (W.alloc (.cells #[.string a, .string b, .int .i64 m] 55)) := Below.refl _ _
  have HT := Lib.hid ht
  obtain ⟨G, hG⟩ : ∃ G, G = strOf (USha.stT (bytesOf a) (bytesOf b) n) := ⟨_, rfl⟩
  have HGB : Hid (bytesOf G = USha.stT (bytesOf a) (bytesOf b) n) := Lib.hid (by rw [hG, bytesOf_strOf])
  have g32 : G.size = 32 := by rw [hG, strOf_size, USha.stT_len]
  have HS : Hid (∀ w', Below (W.alloc (.cells #[.string a, .string b, .int .i64 m] 55)).heap.size (W.alloc (.cells #[.string a, .string b, .int .i64 m] 55)) w' → Calls Tryd.prog 28 #[.string a, .string b, .int .i64 m] w' fun e w2 => e = .returned (.tuple #[.string G, .nilIface]) ∧ Below w'.heap.size w' w2) :=
    Lib.hid fun w' h => by
      have hc := stretch_yes a b n w' (by omega) (by omega) hn (HT.out.below (st_fin h))
      rw [← hm, ← hG] at hc
      exact hc
  have HM : Hid (∀ w' msg, Below (W.alloc (.cells #[.string a, .string b, .int .i64 m] 55)).heap.size (W.alloc (.cells #[.string a, .string b, .int .i64 m] 55)) w' → msg.size ≤ 140737488355328 → Calls Tryd.prog 25 #[.string a, .string msg] w' fun e w2 => e = .returned (.string (strOf (USha.hmac (bytesOf a) (bytesOf msg)))) ∧ Below w'.heap.size w' w2) :=
    Lib.hid fun w' msg h hmsg => mac_any a msg w' (by omega) (by omega) (HT.out.below (st_fin h))
  obtain ⟨u0, hu0⟩ : ∃ u, u = strOf (USha.stU (bytesOf a) (bytesOf b) 0) := ⟨_, rfl⟩
  have HU0 : Hid (bytesOf u0 = USha.stU (bytesOf a) (bytesOf b) 0) := Lib.hid (by rw [hu0, bytesOf_strOf])
  have HM0 : Hid (∀ w', Below (W.alloc (.cells #[.string a, .string b, .int .i64 m] 55)).heap.size (W.alloc (.cells #[.string a, .string b, .int .i64 m] 55)) w' → Calls Tryd.prog 25 #[.string a, .string (b ++ { data := #[0, 0, 0, 1] })] w' fun e w2 => e = .returned (.string u0) ∧ Below w'.heap.size w' w2) :=
    Lib.hid fun w' h => by
      have hc := HM.out w' (b ++ { data := #[0, 0, 0, 1] }) h (by rw [ByteArray.size_append]; show b.size + 4 ≤ _; omega)
      rw [show USha.hmac (bytesOf a) (bytesOf (b ++ { data := #[0, 0, 0, 1] })) = USha.stU (bytesOf a) (bytesOf b) 0 by rw [bytesOf_append]; rfl, ← hu0] at hc
      exact hc
  have hbs : b.size + 4 ≤ 140737488355328 := by omega
  have m1 : ¬ m < 1 := by omega
  have m2 : ¬ 1000 < m := by omega
  have q1 : decide (m < 1) = false := decide_eq_false m1
  have q2 : decide (1000 < m) = false := decide_eq_false m2
  have g1 : ((G.size : Int) != 32) = false := by rw [g32]; rfl
  have gr : G.size ≤ reachBytes := by rw [g32]; unfold reachBytes; omega
  obtain ⟨d0, d1, d2⟩ := st_below b0
  rw [← hm]
  have HMN := Lib.hid hm
  clear hm hG hu0 ht
  go_enter Tryd.func13, Tryd.ntmps13
  go_wp2_with (first
    | (go_at_call 28; (with_reducible refine (HS.out _ b0).mono ?_); rintro e w1 ⟨rfl, hb1⟩; have b1 := b0.trans (hb1.mono b0.size); obtain ⟨x0, x1, x2⟩ := st_below b1)
    | (go_at_call 31; (with_reducible refine (kit_bytes G w1 gr).mono ?_); rintro e w2 ⟨v, rfl, hown, hb2⟩; have b2 := b1.trans (hb2.mono b1.size); obtain ⟨g, cap, rfl, hg1, hg2⟩ := hown.form (by omega); obtain ⟨y0, y1, y2⟩ := st_below b2)
    | (go_at_call 25; (with_reducible refine (HM0.out _ b2).mono ?_); rintro e w3 ⟨rfl, hb3⟩; have hown3 := row_below hown hb3 (Nat.le_refl _); have b3 := b2.trans (hb3.mono b2.size)))
  rw [g32, HGB.out] at hown3
  have hbase := b1.size
  obtain ⟨B, hB⟩ : ∃ B, B = w1.heap.size := ⟨_, rfl⟩
  rw [← hB] at hown3 hbase hg1
  clear hown HS HM0 HGB g1 gr q1 q2 m1 m2 d0 d1 d2 x0 x1 x2 y0 y1 y2 hb1 hb2 hb3 b1 b2 hB b0 hg2
  clear g32
  go_loopw [6, 7, 8] (fun u i _ wr => ∃ (j : Nat) (uS : ByteArray), j ≤ n + 1 ∧ i = .int .i64 j ∧ u = .string uS ∧ Hid (bytesOf uS = USha.stU (bytesOf a) (bytesOf b) j) ∧ wr.ownsRow B 5 1 (.slice (some ⟨g, 0, none⟩) 32 cap) 32 (u8s (USha.fold (bytesOf a) (bytesOf b) n j)) ∧ Below (W.alloc (.cells #[.string a, .string b, .int .i64 m] 55)).heap.size (W.alloc (.cells #[.string a, .string b, .int .i64 m] 55)) wr) (fun _ i _ _ => n + 1 - (intOf i).toNat)
  case atStart => exact ⟨0, u0, Nat.zero_le _, rfl, rfl, HU0, hown3, b3⟩
  case round =>
    rename World => wr
    clear hown3 b3 HU0
    obtain ⟨j, uS, hj, rfl, rfl, HU, hown, hbw⟩ := hrel
    obtain ⟨z0, z1, z2⟩ := st_below hbw
    by_cases hlt : j < n + 1
    · have hjm : (j : Int) < m := by have := HMN.out; omega
      have dj : decide ((j : Int) < m) = true := decide_eq_true hjm
      have u32 : uS.size = 32 := by rw [← bytesOf_length, HU.out, USha.stU_len]
      have hq : ((uS.size : Int) != 32) = false := by rw [u32]; rfl
      have HF : Hid (USha.xorL (USha.fold (bytesOf a) (bytesOf b) n j) (USha.stU (bytesOf a) (bytesOf b) j) = USha.fold (bytesOf a) (bytesOf b) n (j + 1)) := Lib.hid (USha.fold_step _ _ _ _)
      have HLT := Lib.hid (USha.fold_len (bytesOf a) (bytesOf b) n j)
      have HLU := Lib.hid (USha.stU_len (bytesOf a) (bytesOf b) j)
      rw [← USha.xmix_zero (USha.fold (bytesOf a) (bytesOf b) n j) (USha.stU (bytesOf a) (bytesOf b) j)] at hown
      generalize USha.fold (bytesOf a) (bytesOf b) n j = T at *
      have HMj : Hid (∀ w', Below (W.alloc (.cells #[.string a, .string b, .int .i64 m] 55)).heap.size (W.alloc (.cells #[.string a, .string b, .int .i64 m] 55)) w' → Calls Tryd.prog 25 #[.string a, .string uS] w' fun e w2 => e = .returned (.string (strOf (USha.stU (bytesOf a) (bytesOf b) (j + 1)))) ∧ Below w'.heap.size w' w2) :=
        Lib.hid fun w' h => by
          have hc := HM.out w' uS h (by omega)
          rw [HU.out, show USha.hmac (bytesOf a) (USha.stU (bytesOf a) (bytesOf b) j) = USha.stU (bytesOf a) (bytesOf b) (j + 1) from rfl] at hc
          exact hc
      obtain ⟨u1, hu1⟩ : ∃ u, u = strOf (USha.stU (bytesOf a) (bytesOf b) (j + 1)) := ⟨_, rfl⟩
      have HU1 : Hid (bytesOf u1 = USha.stU (bytesOf a) (bytesOf b) (j + 1)) := Lib.hid (by rw [hu1, bytesOf_strOf])
      rw [← hu1] at HMj
      clear hu1
      generalize USha.stU (bytesOf a) (bytesOf b) j = U at *
      go_wp2
      go_loopw [8] (fun k wr2 => ∃ q : Nat, q ≤ 32 ∧ k = .int .i64 q ∧ wr2.ownsRow B 5 1 (.slice (some ⟨g, 0, none⟩) 32 cap) 32 (u8s (USha.xmix T U q)) ∧ Below (W.alloc (.cells #[.string a, .string b, .int .i64 m] 55)).heap.size (W.alloc (.cells #[.string a, .string b, .int .i64 m] 55)) wr2) (fun k _ => 32 - (intOf k).toNat)
      case atStart => exact ⟨0, Nat.zero_le _, rfl, hown, hbw⟩
      case round =>
        rename World => wr2
        clear hown hbw z0 z1 z2 hq
        obtain ⟨q, hq32, rfl, hown, hbw⟩ := hrel
        obtain ⟨z0, z1, z2⟩ := st_below hbw
        by_cases hql : q < 32
        · have hTU : T.length = U.length := by rw [HLT.out, HLU.out]
          have hqT : q < T.length := by rw [HLT.out]; exact hql
          have cT := hown.drew.cellAt q (by omega)
          rw [xmix_get _ _ _ hTU hqT] at cT
          have fT := hown.drew.frozenAt q
          obtain ⟨sT, _⟩ := hown.drew.stored q (.int .u8 ((T.getD q 0#8 ^^^ U.getD q 0#8).toNat : Int))
          rw [xmix_set _ _ _ hTU hqT] at sT
          have hqu : q < uS.size := by omega
          have hub : uS[q].toBitVec = U.getD q 0#8 := by
            have h := bytesOf_get uS q hqu
            rw [HU.out] at h
            rw [List.getD_eq_getElem?_getD, h]; rfl
          have ex : bits .xor .u8 ((T.getD q 0#8).toNat : Int) (uS[q].toNat : Int) = ((T.getD q 0#8 ^^^ U.getD q 0#8).toNat : Int) := by
            have e2 : (uS[q].toNat : Int) = ((U.getD q 0#8).toNat : Int) := by rw [← hub]; rfl
            rw [e2]
            have h := Bv.xor8 (T.getD q 0#8) ((U.getD q 0#8).toNat : Int)
            rw [Bv.ofInt_toNat] at h
            exact h
          generalize T.getD q 0#8 ^^^ U.getD q 0#8 = z at *
          generalize T.getD q 0#8 = tb at *
          have HSET := Lib.hid sT
          have hgB := (hown.lt g rfl).1
          have q0 : (0 : Int) ≤ (q : Int) := by omega
          have q1 : (q : Int) < 32 := by omega
          have q2 : (q : Int) < (uS.size : Int) := by omega
          clear sT hub hTU hown
          go_wp2
          refine wp_region_still_tail 11 (by kernel_rfl) (by kernel_rfl) ?_
          simp only [List.take_succ_cons, List.take_zero, List.drop_succ_cons, List.drop_zero]
          repeat still_step
          refine wpStill_nil ?_
          change wpList _ _ _ _ _ wr2.drew
          clear ex
          go_wp2
          go_roundw
          case rel => exact ⟨q + 1, by omega, by go_num, HSET.out, hbw.drew.setCell (Nat.le_trans hbase hgB) _⟩
          case measure => simp [intOf]; omega
        · obtain rfl : q = 32 := by omega
          rw [USha.xmix_full _ _ _ (by rw [HLT.out, HLU.out]) (by rw [HLT.out]; omega), HF.out] at hown
          rw [show (((32 : Nat)) : Int) = (32 : Int) from rfl]
          go_wp2_with (go_at_call 25; (with_reducible refine (HMj.out _ hbw).mono ?_); rintro e w5 ⟨rfl, hb5⟩; have hown5 := row_below hown hb5 (Nat.le_refl _); have b5 := hbw.trans (hb5.mono hbw.size))
          go_roundw
          case rel => exact ⟨j + 1, u1, by omega, by go_num, rfl, HU1, hown5, b5⟩
          case measure => simp [intOf]; omega
    · obtain rfl : j = n + 1 := by omega
      have hjm : ¬ (((n + 1 : Nat) : Int)) < m := by have := HMN.out; omega
      have dj : decide ((((n + 1 : Nat) : Int)) < m) = false := decide_eq_false hjm
      rw [USha.fold_end] at hown
      generalize (((n + 1 : Nat)) : Int) = jj at *
      go_wp2
      go_loopw [9] (fun k wr2 => ∃ q : Nat, q ≤ 32 ∧ k = .int .i64 q ∧ wr2.ownsRow B 5 1 (.slice (some ⟨g, 0, none⟩) 32 cap) 32 (u8s (List.replicate 32 0#8)) ∧ Below (W.alloc (.cells #[.string a, .string b, .int .i64 m] 55)).heap.size (W.alloc (.cells #[.string a, .string b, .int .i64 m] 55)) wr2) (fun k _ => 32 - (intOf k).toNat)
      case atStart => exact ⟨0, Nat.zero_le _, rfl, hown, hbw⟩
      case round =>
        rename World => wr2
        clear hown hbw z0 z1 z2
        obtain ⟨q, hq32, rfl, hown, hbw⟩ := hrel
        by_cases hql : q < 32
        · have cT := hown.cellAt q (by omega)
          rw [show (u8s (List.replicate 32 0#8))[q]? = some (.int .u8 0) by unfold u8s; rw [List.getElem?_map, List.getElem?_replicate, if_pos hql]; rfl] at cT
          have q0 : (0 : Int) ≤ (q : Int) := by omega
          have q1 : (q : Int) < 32 := by omega
          go_wp2
          go_roundw
          case rel => exact ⟨q + 1, by omega, by go_num, hown, hbw⟩
          case measure => simp [intOf]; omega
        · obtain rfl : q = 32 := by omega
          rw [show (((32 : Nat)) : Int) = (32 : Int) from rfl]
          go_wp2
          go_ret
          exact ⟨rfl, st_fin hbw⟩
theorem sumsFold_walk {E : Nat → Addr} (a b : ByteArray) (r : Int) (W : World) (ha : a.size ≤ reachBytes) (hb : b.size ≤ reachBytes) (hE : Errs W E) (ht : PTabs W) :
    Calls Tryd.prog 13 #[.agg #[.string a, .string b, .int .i64 r]] W fun e w' => e = .returned (.bool true) ∧ Below W.heap.size W w' := by
  unfold reachBytes at ha hb
  by_cases hr : r < 1 ∨ 1000 < r
  · exact sumsFold_no a b r W hE hr
  · obtain ⟨n, rfl⟩ : ∃ n : Nat, r = (n : Int) + 1 := ⟨(r - 1).toNat, by omega⟩
    exact sumsFold_yes a b n W (by omega) (by omega) (by omega) ht
end Go.Proofs.YtkhfelfdgpfjkaaDoor
