/- A Fresh of the document; the function that P10.7's statement hands to Fresh: walked. -/
import Derived.Test.YtmmniapkajbdhaaDoorKnown
namespace Go.Proofs.YtmmniapkajbdhaaDoor
open Go.RowKit
/-- what the function of the statement says, of an identifier -/
def saysB (kd : Int) (S : List ByteArray) (id : ByteArray) : Bool := (kd == 2) || ((kd == 1) && holdsB S id)
theorem drawn_dry {w : World} {B g : Nat} {ba : Option Addr} {cap : Nat} (kd : Int) (v : Value) (hS : RSrc w B g ba cap []) :
    Calls Tryd.prog 20 #[.pointer (some ⟨g, 0, none⟩), .int .i64 kd, v] w fun e w' => e = .returned (.tuple #[.string { data := #[] }, .int .i64 7]) ∧ w = w' := by
  have HP := Lib.hid (rpeek_dry hS)
  clear hS
  go_enter Tryd.func20, Tryd.ntmps20
  go_wp2_with (go_at_call 28; (with_reducible refine HP.out.mono ?_); rintro e w2 ⟨rfl, rfl⟩)
  go_ret2
  exact ⟨rfl, rfl⟩
set_option maxHeartbeats 2000000 in
theorem drawn_yes {w : World} {B g : Nat} {ba : Option Addr} {cap : Nat} {x : ByteArray} {L : List ByteArray} (kd : Int) (S : List ByteArray) (vb : Option Addr) (vc : Nat) (hS : RSrc w B g ba cap (x :: L)) (hx : x.size = 32) (hL : L.length < 1024)
    (hO : w.ownsRow B 9 1 (.slice vb S.length vc) S.length (strs S)) (hn : S.length ≤ 140737488351232) :
    Calls Tryd.prog 20 #[.pointer (some ⟨g, 0, none⟩), .int .i64 kd, .slice vb S.length vc] w fun e w' =>
      e = .returned (if saysB kd S (idOf (bytesOf x)) then .tuple #[.string { data := #[] }, .int .i64 8] else .tuple #[.string (idOf (bytesOf x)), .int .i64 0]) ∧ Dropped w w' B g ba L := by
  have HP := Lib.hid (rpeek_yes hS hx hL)
  have HD : Hid (∀ w', Below w.heap.size w w' → Calls Tryd.prog 29 #[.pointer (some ⟨g, 0, none⟩)] w' fun e w2 => e = .returned (.tuple #[]) ∧ Dropped w w2 B g ba L ∧ w2.ownsRow B 9 1 (.slice vb S.length vc) S.length (strs S)) := Lib.hid fun w' h' =>
    (rdrop_yes (hS.below h') hL).mono fun e w2 ⟨he, ba', cap', h1, h2, h3⟩ => ⟨he, ⟨ba', cap', h1, (Keeps.of_below h').trans h2, h3⟩, own_keep2 (own_below2 hO h') h2 (hS.below h').blk (by decide)⟩
  have HK := Lib.hid fun (w' : World) (h' : w'.ownsRow B 9 1 (.slice vb S.length vc) S.length (strs S)) => known_any S (idOf (bytesOf x)) vb vc w' B h' hn
  clear hS hO hx
  generalize idOf (bytesOf x) = id at *
  by_cases h2 : kd = 2
  · subst h2
    rw [show saysB 2 S id = true from rfl]
    generalize holdsB S id = q at *
    go_enter Tryd.func20, Tryd.ntmps20
    go_wp2_with (first
      | (go_at_call 28; (with_reducible refine HP.out.mono ?_); rintro e w2 ⟨rfl, hb2⟩)
      | (go_at_call 29; (with_reducible refine (HD.out _ hb2).mono ?_); rintro e w3 ⟨rfl, hd3, ho3⟩; have HD3 := Lib.hid hd3; have HO3 := Lib.hid ho3; clear hd3 ho3)
      | (go_at_call 18; (with_reducible refine (HK.out _ HO3.out).mono ?_); rintro e w4 ⟨rfl, rfl⟩))
    go_ret2
    exact ⟨by simp, HD3.out⟩
  · have q2 : (kd == 2) = false := by rw [beq_eq_false_iff_ne]; exact h2
    by_cases h1 : kd = 1
    · subst h1
      rw [show saysB 1 S id = holdsB S id from rfl]
      cases hq : holdsB S id
      all_goals
        rw [hq] at HK
        clear hq h2
        go_enter Tryd.func20, Tryd.ntmps20
        go_wp2_with (first
          | (go_at_call 28; (with_reducible refine HP.out.mono ?_); rintro e w2 ⟨rfl, hb2⟩)
          | (go_at_call 29; (with_reducible refine (HD.out _ hb2).mono ?_); rintro e w3 ⟨rfl, hd3, ho3⟩; have HD3 := Lib.hid hd3; have HO3 := Lib.hid ho3; clear hd3 ho3)
          | (go_at_call 18; (with_reducible refine (HK.out _ HO3.out).mono ?_); rintro e w4 ⟨rfl, rfl⟩))
        go_ret2
        exact ⟨by simp, HD3.out⟩
    · have q1 : (kd == 1) = false := by rw [beq_eq_false_iff_ne]; exact h1
      rw [show saysB kd S id = false by unfold saysB; rw [q1, q2]; rfl]
      generalize holdsB S id = q at *
      go_enter Tryd.func20, Tryd.ntmps20
      go_wp2_with (first
        | (go_at_call 28; (with_reducible refine HP.out.mono ?_); rintro e w2 ⟨rfl, hb2⟩)
        | (go_at_call 29; (with_reducible refine (HD.out _ hb2).mono ?_); rintro e w3 ⟨rfl, hd3, ho3⟩; have HD3 := Lib.hid hd3; have HO3 := Lib.hid ho3; clear hd3 ho3)
        | (go_at_call 18; (with_reducible refine (HK.out _ HO3.out).mono ?_); rintro e w4 ⟨rfl, rfl⟩))
      go_ret2
      exact ⟨by simp, HD3.out⟩
set_option maxHeartbeats 2000000 in
theorem ask2_any (id : ByteArray) (kd : Int) (S : List ByteArray) {w : World} {B gk gq : Nat} {vb : Option Addr} {vc : Nat} (hk : Blk w gk 3 [.int .i64 kd]) (hq : Blk w gq 34 [.slice vb S.length vc])
    (hO : w.ownsRow B 9 1 (.slice vb S.length vc) S.length (strs S)) (hn : S.length ≤ 140737488351232) :
    Calls Tryd.prog 17 #[.string id, .pointer (some ⟨gk, 0, none⟩), .pointer (some ⟨gq, 0, none⟩)] w fun e w' => e = .returned (.bool (saysB kd S id)) ∧ w = w' := by
  have c0 : w.cell? ⟨gk, 0, none⟩ = some (.int .i64 kd) := hk.cell 0
  have c1 : w.cell? ⟨gq, 0, none⟩ = some (.slice vb S.length vc) := hq.cell 0
  have HK := Lib.hid (known_any S id vb vc w B hO hn)
  clear hk hq hO
  by_cases h2 : kd = 2
  · subst h2
    rw [show saysB 2 S id = true from rfl]
    generalize holdsB S id = q at *
    go_enter Tryd.func17, Tryd.ntmps17
    go_wp2
    go_ret
    exact ⟨by simp, rfl⟩
  · have q2 : (kd == 2) = false := by rw [beq_eq_false_iff_ne]; exact h2
    by_cases h1 : kd = 1
    · subst h1
      rw [show saysB 1 S id = holdsB S id from rfl]
      clear h2 q2
      generalize holdsB S id = q at *
      go_enter Tryd.func17, Tryd.ntmps17
      go_wp2_with (go_at_call 18; (with_reducible refine HK.out.mono ?_); rintro e w4 ⟨rfl, rfl⟩)
      go_ret
      exact ⟨by simp, rfl⟩
    · have q1 : (kd == 1) = false := by rw [beq_eq_false_iff_ne]; exact h1
      rw [show saysB kd S id = false by unfold saysB; rw [q1, q2]; rfl]
      generalize holdsB S id = q at *
      go_enter Tryd.func17, Tryd.ntmps17
      go_wp2
      go_ret
      exact ⟨by simp, rfl⟩
end Go.Proofs.YtmmniapkajbdhaaDoor
