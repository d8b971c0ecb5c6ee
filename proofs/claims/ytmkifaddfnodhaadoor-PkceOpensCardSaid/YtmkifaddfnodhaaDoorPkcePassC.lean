/- Password, both ways. -/
import Derived.Test.YtmkifaddfnodhaaDoorPkceSealC
namespace Go.Proofs.YtmkifaddfnodhaaDoor
open Go.RowKit
theorem sec_below {W w' : World} {a b : ByteArray} (h : Below (W.alloc (.cells #[.string a, .string b] 32)).heap.size (W.alloc (.cells #[.string a, .string b] 32)) w') :
    w'.cell? ⟨W.heap.size, 0, none⟩ = some (.string a) ∧ w'.cell? ⟨W.heap.size, 1, none⟩ = some (.string b) :=
  ⟨cell_below ((Blk.new W 32 [.string a, .string b]).cell 0) h, cell_below ((Blk.new W 32 [.string a, .string b]).cell 1) h⟩
theorem sec_fin {W w' : World} {a b : ByteArray} (h : Below (W.alloc (.cells #[.string a, .string b] 32)).heap.size (W.alloc (.cells #[.string a, .string b] 32)) w') : Below W.heap.size W w' :=
  ((Below.refl _ _).alloc (Nat.le_refl _) _).trans (h.mono (by simp))
set_option maxHeartbeats 1000000 in
theorem password_no (p salt dig : ByteArray) (r : Int) (W : World) (t : TypeId) (a : Addr) (hE : ErrArg W t a) (hr : r < 1 ∨ 1000 < r) :
    Calls Tryd.prog 20 #[.string p, .agg #[.string salt, .string dig], .int .i64 r] W fun e w' => e = .returned (.bool false) ∧ Below W.heap.size W w' := by
  have b0 : Below (W.alloc (.cells #[.string salt, .string dig] 32)).heap.size (W.alloc (.cells #[.string salt, .string dig] 32)) (W.alloc (.cells #[.string salt, .string dig] 32)) := Below.refl _ _
  have HE := Lib.hid hE
  have HS : Hid (∀ w', Below (W.alloc (.cells #[.string salt, .string dig] 32)).heap.size (W.alloc (.cells #[.string salt, .string dig] 32)) w' → Calls Tryd.prog 38 #[.string p, .string salt, .int .i64 r] w' fun e w2 => e = .returned (.tuple #[.string { data := #[] }, .iface t (.pointer (some a))]) ∧ Below w'.heap.size w' w2) := Lib.hid fun w' h => stretch_no p salt r w' t a (HE.out.below (sec_fin h)) hr
  obtain ⟨c0, c1⟩ := sec_below b0
  clear hE hr
  go_enter Tryd.func20, Tryd.ntmps20
  go_wp2_with (go_at_call 38; (with_reducible refine (HS.out _ b0).mono ?_); rintro e w1 ⟨rfl, hb1⟩; have b1 := b0.trans (hb1.mono b0.size); obtain ⟨d0, d1⟩ := sec_below b1)
  go_ret
  exact ⟨rfl, sec_fin b1⟩
set_option maxHeartbeats 1000000 in
theorem password_yes (p salt dig : ByteArray) (n : Nat) (W : World) (hp : p.size ≤ 281474976710656) (hs : salt.size ≤ 140737488355328) (hd : dig.size ≤ maxLen) (hn : n < 1000) (ht : PTabs W) :
    Calls Tryd.prog 20 #[.string p, .agg #[.string salt, .string dig], .int .i64 ((n : Int) + 1)] W fun e w' => e = .returned (.bool (decide (stre p salt n = dig))) ∧ Below W.heap.size W w' := by
  have b0 : Below (W.alloc (.cells #[.string salt, .string dig] 32)).heap.size (W.alloc (.cells #[.string salt, .string dig] 32)) (W.alloc (.cells #[.string salt, .string dig] 32)) := Below.refl _ _
  have HT := Lib.hid ht
  have HS : Hid (∀ w', Below (W.alloc (.cells #[.string salt, .string dig] 32)).heap.size (W.alloc (.cells #[.string salt, .string dig] 32)) w' → Calls Tryd.prog 38 #[.string p, .string salt, .int .i64 ((n : Int) + 1)] w' fun e w2 => e = .returned (.tuple #[.string (stre p salt n), .nilIface]) ∧ Below w'.heap.size w' w2) := Lib.hid fun w' h => stretch_yes p salt n w' hp hs hn (HT.out.below (sec_fin h))
  have HC : Hid (∀ w', Calls Tryd.prog 40 #[.string (stre p salt n), .string dig] w' fun e w2 => e = .returned (.bool (decide (stre p salt n = dig))) ∧ Below w'.heap.size w' w2) := Lib.hid fun w' => same_any _ dig w' (by rw [stre_size]; unfold maxLen; omega) hd
  generalize decide (stre p salt n = dig) = q at *
  generalize stre p salt n = G at *
  generalize ((n : Int) + 1) = r at *
  obtain ⟨c0, c1⟩ := sec_below b0
  clear ht
  go_enter Tryd.func20, Tryd.ntmps20
  go_wp2_with (first
    | (go_at_call 38; (with_reducible refine (HS.out _ b0).mono ?_); rintro e w1 ⟨rfl, hb1⟩; have b1 := b0.trans (hb1.mono b0.size); obtain ⟨d0, d1⟩ := sec_below b1)
    | (go_at_call 40; (with_reducible refine (HC.out _).mono ?_); rintro e w2 ⟨rfl, hb2⟩; have b2 := b1.trans (hb2.mono b1.size)))
  go_ret
  exact ⟨rfl, sec_fin b2⟩
set_option maxHeartbeats 1000000 in
theorem refPassword_no (p salt dig : ByteArray) (r : Int) (W : World) (hr : r < 1 ∨ 1000 < r) :
    Calls Tryd.prog 21 #[.string p, .agg #[.string salt, .string dig], .int .i64 r] W fun e w' => e = .returned (.bool false) ∧ Below W.heap.size W w' := by
  have b0 : Below (W.alloc (.cells #[.string salt, .string dig] 32)).heap.size (W.alloc (.cells #[.string salt, .string dig] 32)) (W.alloc (.cells #[.string salt, .string dig] 32)) := Below.refl _ _
  have HS := Lib.hid fun w' => refStretch_no p salt r w' hr
  obtain ⟨c0, c1⟩ := sec_below b0
  clear hr
  go_enter Tryd.func21, Tryd.ntmps21
  go_wp2_with (go_at_call 39; (with_reducible refine (HS.out _).mono ?_); rintro e w1 ⟨rfl, hb1⟩; have b1 := b0.trans (hb1.mono b0.size); obtain ⟨d0, d1⟩ := sec_below b1)
  go_ret
  exact ⟨rfl, sec_fin b1⟩
set_option maxHeartbeats 1000000 in
theorem refPassword_yes (p salt dig : ByteArray) (n : Nat) (W : World) (hp : p.size ≤ 140737488355328) (hs : salt.size ≤ 140737488351232) (hn : n < 1000) (ht : ShaTabs W) :
    Calls Tryd.prog 21 #[.string p, .agg #[.string salt, .string dig], .int .i64 ((n : Int) + 1)] W fun e w' => e = .returned (.bool (decide (stre p salt n = dig))) ∧ Below W.heap.size W w' := by
  have b0 : Below (W.alloc (.cells #[.string salt, .string dig] 32)).heap.size (W.alloc (.cells #[.string salt, .string dig] 32)) (W.alloc (.cells #[.string salt, .string dig] 32)) := Below.refl _ _
  have HT := Lib.hid ht
  have HS : Hid (∀ w', Below (W.alloc (.cells #[.string salt, .string dig] 32)).heap.size (W.alloc (.cells #[.string salt, .string dig] 32)) w' → Calls Tryd.prog 39 #[.string p, .string salt, .int .i64 ((n : Int) + 1)] w' fun e w2 => e = .returned (.tuple #[.string (stre p salt n), .int .i64 0]) ∧ Below w'.heap.size w' w2) := Lib.hid fun w' h => refStretch_yes p salt n w' hp hs hn (HT.out.below (sec_fin h))
  generalize ((n : Int) + 1) = r at *
  clear ht
  by_cases hd : stre p salt n = dig
  · subst hd
    rw [decide_eq_true rfl]
    generalize stre p salt n = G at *
    obtain ⟨c0, c1⟩ := sec_below b0
    go_enter Tryd.func21, Tryd.ntmps21
    go_wp2_with (go_at_call 39; (with_reducible refine (HS.out _ b0).mono ?_); rintro e w1 ⟨rfl, hb1⟩; have b1 := b0.trans (hb1.mono b0.size); obtain ⟨d0, d1⟩ := sec_below b1)
    go_ret
    exact ⟨by simp, sec_fin b1⟩
  · rw [decide_eq_false hd]
    have hl := (Lib.bytes_beq_false_iff _ _).2 hd
    generalize stre p salt n = G at *
    obtain ⟨c0, c1⟩ := sec_below b0
    clear hd
    go_enter Tryd.func21, Tryd.ntmps21
    go_wp2_with (go_at_call 39; (with_reducible refine (HS.out _ b0).mono ?_); rintro e w1 ⟨rfl, hb1⟩; have b1 := b0.trans (hb1.mono b0.size); obtain ⟨d0, d1⟩ := sec_below b1)
    go_ret
    exact ⟨by simp, sec_fin b1⟩
end Go.Proofs.YtmkifaddfnodhaaDoor
