/- A digest in a block of its own, by the text that it holds; its calls; 'sumIs'. -/
import Derived.Test.YtkhfelfdgpfjkaaDoorShaRef
import Derived.Test.YtkhfelfdgpfjkaaDoorShaTabs
import Derived.Test.YtkhfelfdgpfjkaaDoorKit
namespace Go.Proofs.YtkhfelfdgpfjkaaDoor
open Go.RowKit
/-- block g holds the digest of a -/
def Dig (w : World) (g : Nat) (a : ByteArray) : Prop := ∃ (v : USha.St) (rest : List (BitVec 8)) (held : Nat), Blk w g 71 (hc v rest (held : Nat) ((bytesOf a).length : Int)) ∧ USha.Holds v rest held (bytesOf a)
theorem Dig.lt {w : World} {g : Nat} {a : ByteArray} (h : Dig w g a) : g < w.heap.size := by
  obtain ⟨_, _, _, h, _⟩ := h
  exact h.lt
theorem Dig.aside {w w' : World} {g k : Nat} {a : ByteArray} (h : Dig w g a) (hb : Aside k w w') (hk : g ≠ k) : Dig w' g a := by
  obtain ⟨v, r, n, h, h2⟩ := h
  exact ⟨v, r, n, hb.blk h hk, h2⟩
theorem Dig.below {w w' : World} {g : Nat} {a : ByteArray} (h : Dig w g a) (hb : Below w.heap.size w w') : Dig w' g a := by
  obtain ⟨v, r, n, h, h2⟩ := h
  exact ⟨v, r, n, h.below hb h.lt, h2⟩
theorem dig_new (w : World) (ht : PTabs w) :
    Calls Tryd.prog 20 #[] w fun e w' => e = .returned (.pointer (some ⟨w.heap.size, 0, none⟩)) ∧ Dig w' w.heap.size { data := #[] } ∧ Below w.heap.size w w' :=
  (newHash_any w ht.pf).mono fun _ _ ⟨he, hB, hb⟩ => ⟨he, ⟨USha.init, List.replicate 64 0#8, 0, hB, USha.holds_new⟩, hb⟩
theorem dig_add (g : Nat) (a p : ByteArray) (w : World) (hD : Dig w g a) (hL : a.size + p.size < 9223372036854775808) (ht : PTabs w) (hg : 11 < g) :
    Calls Tryd.prog 21 #[.pointer (some ⟨g, 0, none⟩), .string p] w fun e w' => e = .returned (.tuple #[]) ∧ Aside g w w' ∧ Dig w' g (a ++ p) := by
  obtain ⟨v, r, n, hB, hH⟩ := hD
  refine (add_any g v r n (bytesOf a) p w hB hH (by unfold maxLen; omega) (by rw [bytesOf_length]; exact hL) ht.pr (by omega)).mono ?_
  rintro e w' ⟨he, ha, v', r', n', hB', hH'⟩
  refine ⟨he, ha, v', r', n', ?_, ?_⟩
  · rw [bytesOf_append, List.length_append, bytesOf_length p]; exact hB'
  · rw [bytesOf_append]; exact hH'
set_option maxHeartbeats 1000000 in
theorem sumIs_any (g : Nat) (a : ByteArray) (n : Int) (w : World) (hD : Dig w g a) (hs : a.size ≤ 281474976710656) (hn : 0 ≤ n) (hn2 : n ≤ 3) (ht : ShaTabs w) :
    Calls Tryd.prog 22 #[.pointer (some ⟨g, 0, none⟩), .string a, .int .i64 n] w fun e w' => e = .returned (.bool true) ∧ Below w.heap.size w w' := by
  obtain ⟨m, rfl⟩ := Int.eq_ofNat_of_zero_le hn
  obtain ⟨v, r, k0, hB, hH⟩ := hD
  have HR : Hid (Calls Tryd.prog 24 #[.string a] w fun e w' => e = .returned (.string (strOf (USha.sha (bytesOf a)))) ∧ Below w.heap.size w w') := Lib.hid (sha_ref a w hs ht.rf ht.rr)
  have HS : Hid (∀ w', Below w.heap.size w w' → Calls Tryd.prog 34 #[.pointer (some ⟨g, 0, none⟩)] w' fun e w2 => e = .returned (.string (strOf (USha.sha (bytesOf a)))) ∧ Below w'.heap.size w' w2) :=
    Lib.hid fun w' h' => sum_any g v r k0 (bytesOf a) w' (hB.below h' hB.lt) hH (by rw [bytesOf_length]; omega) (ht.below h').pr
  generalize strOf (USha.sha (bytesOf a)) = d at *
  clear ht hB hH hs
  go_enter Tryd.func22, Tryd.ntmps22
  go_wp2_with (go_at_call 24; (with_reducible refine HR.out.mono ?_); rintro e w1 ⟨rfl, hb1⟩)
  clear HR
  go_loopw [8, 9] (fun i _ wr => ∃ k : Nat, k ≤ m ∧ i = .int .i64 k ∧ Below w.heap.size w wr) (fun i _ _ => m - (intOf i).toNat)
  case atStart => exact ⟨0, Nat.zero_le _, rfl, hb1⟩
  case round =>
    obtain ⟨k, hk, rfl, hb⟩ := hrel
    by_cases hlt : k < m
    · go_wp2_with (go_at_call 34; (with_reducible refine (HS.out _ hb).mono ?_); rintro e w2 ⟨rfl, hb2⟩; have b2 := hb.trans (hb2.mono hb.size))
      go_roundw
      case rel => exact ⟨k + 1, by omega, by go_num, b2⟩
      case measure => simp [intOf]; omega
    · go_wp2
      go_ret
      exact ⟨rfl, hb⟩
end Go.Proofs.YtkhfelfdgpfjkaaDoor
