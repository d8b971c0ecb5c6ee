/- P10.3, walked. -/
import Derived.Test.YtmmniapkajbdhaaSame
import Derived.Lib.SlicesS
namespace Go.Proofs.Ytmmniapkajbdhaa
open Go.RowKit
theorem same_self (a : ByteArray) (w : World) (ha : a.size ≤ maxLen) :
    Calls Try.prog 4 #[.string a, .string a] w fun e w' => e = .returned (.bool true) ∧ Below w.heap.size w w' :=
  (same_any a a w ha ha).mono fun e w' h => by simpa using h
theorem same_ne (a b : ByteArray) (w : World) (ha : a.size ≤ maxLen) (hb : b.size ≤ maxLen) (h : a ≠ b) :
    Calls Try.prog 4 #[.string a, .string b] w fun e w' => e = .returned (.bool false) ∧ Below w.heap.size w w' :=
  (same_any a b w ha hb).mono fun e w' hh => by rwa [decide_eq_false h] at hh
theorem bytes_eq_list (a b : ByteArray) (h : a ≠ b) : (a.toList == b.toList) = false := (Lib.bytes_beq_false_iff a b).2 h
theorem two_below {W w w' : World} {o : Obj} (h : Below (W.heap.size + 1) (W.alloc o) w) (h' : Below w.heap.size w w') : Below (W.heap.size + 1) (W.alloc o) w' :=
  h.trans (h'.mono (by have := h.size; simp at this; omega))
theorem two_cell {W w : World} {o : Obj} (h : Below (W.heap.size + 1) (W.alloc o) w) (i : Nat) (v : Value) (hc : (W.alloc o).cell? ⟨W.heap.size, i, none⟩ = some v) : w.cell? ⟨W.heap.size, i, none⟩ = some v :=
  (h.cell (p := ⟨W.heap.size, i, none⟩) (by simp)).trans hc
set_option maxHeartbeats 400000 in
theorem pkceSame_walk (a b : ByteArray) (W : World) (ha : a.size ≤ reachBytes) (hb : b.size ≤ reachBytes) :
    Calls Try.prog 3 #[.agg #[.string a, .string b]] W fun e w' => e = .returned (.bool true) ∧ Below W.heap.size W w' := by
  unfold reachBytes at ha hb
  have la : a.size ≤ maxLen := by unfold maxLen; omega
  have lb : b.size ≤ maxLen := by unfold maxLen; omega
  have hz : (a ++ (⟨#[0]⟩ : ByteArray)).size = a.size + 1 := by rw [ByteArray.size_append]; rfl
  have laz : (a ++ (⟨#[0]⟩ : ByteArray)).size ≤ maxLen := by unfold maxLen; rw [hz]; omega
  have hne : a ≠ a ++ (⟨#[0]⟩ : ByteArray) := fun h => by
    have := congrArg ByteArray.size h
    rw [hz] at this
    omega
  have HAZ := Lib.hid (fun w => same_ne a (a ++ (⟨#[0]⟩ : ByteArray)) w la laz hne)
  have hsum : a.size + (⟨#[0]⟩ : ByteArray).size ≤ 9223372036854775807 := by rw [show (⟨#[0]⟩ : ByteArray).size = 1 from rfl]; omega
  clear hne hz laz
  have B0 : Below W.heap.size W (W.alloc (.cells #[.string a, .string b] 23)) := (Below.refl _ _).alloc (Nat.le_refl _) _
  by_cases hab : a = b
  · subst hab
    go_enter Try.func3, Try.ntmps3
    go_wp2_with (first
      | (go_at_call 4; (with_reducible refine (HAZ.out _).mono ?_); rintro e w4 ⟨rfl, hb4⟩; replace hb4 := two_below hb3 hb4; clear hb3)
      | (go_at_call 4; (with_reducible refine (same_self a _ la).mono ?_); rintro e w3 ⟨rfl, hb3⟩; replace hb3 := two_below hb2 hb3; have c0 := two_cell hb3 0 (.string a) (by simp); have c1 := two_cell hb3 1 (.string a) (by simp); clear hb2)
      | (go_at_call 4; (with_reducible refine (same_self a _ la).mono ?_); rintro e w2 ⟨rfl, hb2⟩; replace hb2 := two_below hb1 hb2; have c0 := two_cell hb2 0 (.string a) (by simp); have c1 := two_cell hb2 1 (.string a) (by simp); clear hb1)
      | (go_at_call 4; (with_reducible refine (same_self a _ la).mono ?_); rintro e w1 ⟨rfl, hb1⟩; replace hb1 := two_below (Below.refl _ _) hb1; have c0 := two_cell hb1 0 (.string a) (by simp); have c1 := two_cell hb1 1 (.string a) (by simp)))
    go_ret
    exact ⟨rfl, B0.trans (hb4.mono (by simp))⟩
  · have HAB := Lib.hid (fun w => same_ne a b w la lb hab)
    have HBA := Lib.hid (fun w => same_ne b a w lb la (Ne.symm hab))
    have hl := bytes_eq_list a b hab
    clear hab
    go_enter Try.func3, Try.ntmps3
    go_wp2_with (first
      | (go_at_call 4; (with_reducible refine (HAZ.out _).mono ?_); rintro e w4 ⟨rfl, hb4⟩; replace hb4 := two_below hb3 hb4; clear hb3)
      | (go_at_call 4; (with_reducible refine (same_self a _ la).mono ?_); rintro e w3 ⟨rfl, hb3⟩; replace hb3 := two_below hb2 hb3; have c0 := two_cell hb3 0 (.string a) (by simp); have c1 := two_cell hb3 1 (.string b) (by simp); clear hb2)
      | (go_at_call 4; (with_reducible refine (HBA.out _).mono ?_); rintro e w2 ⟨rfl, hb2⟩; replace hb2 := two_below hb1 hb2; have c0 := two_cell hb2 0 (.string a) (by simp); have c1 := two_cell hb2 1 (.string b) (by simp); clear hb1)
      | (go_at_call 4; (with_reducible refine (HAB.out _).mono ?_); rintro e w1 ⟨rfl, hb1⟩; replace hb1 := two_below (Below.refl _ _) hb1; have c0 := two_cell hb1 0 (.string a) (by simp); have c1 := two_cell hb1 1 (.string b) (by simp)))
    go_ret
    exact ⟨rfl, B0.trans (hb4.mono (by simp))⟩
end Go.Proofs.Ytmmniapkajbdhaa
