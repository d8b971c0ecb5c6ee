/- The thirteen refusals: thirteen variables, each its own pointer; the statements' own Num walked: which of them a value is. -/
import Derived.Test.YtmmniapkajbdhaaDoorBase
import Derived.Test.YtmmniapkajbdhaaDoorLaid
import Derived.LaidEql
namespace Go.Proofs.YtmmniapkajbdhaaDoor
open Go.RowKit
theorem compP : (Tryd.prog.info? 80).map (·.comparable) = some true := by kernel_rfl
theorem sizeS : (Tryd.prog.info? 94).map (·.size) = some 1 := by kernel_rfl
theorem starP : "*" ++ "errors.errorString" = "*errors.errorString" := by decide
theorem rowP (u : TypeId) (h : Tryd.prog.typeName? 3 u = some "*errors.errorString") : u = 80 :=
  typeName_ptr_named (nm := "errors.errorString") (by rw [starP]; kernel_rfl) (by kernel_rfl) (by decide) u (by rw [starP]; exact h)
/-- a value of the thirteen -/
def errV (a : Addr) : Value := .iface 80 (.pointer (some a))
structure Errs (w : World) (E : Nat → Addr) : Prop where
  v0 : w.cell? ⟨6, 0, none⟩ = some (.iface 80 (.pointer (some (E 0))))
  v1 : w.cell? ⟨7, 0, none⟩ = some (.iface 80 (.pointer (some (E 1))))
  v2 : w.cell? ⟨8, 0, none⟩ = some (.iface 80 (.pointer (some (E 2))))
  v3 : w.cell? ⟨9, 0, none⟩ = some (.iface 80 (.pointer (some (E 3))))
  v4 : w.cell? ⟨10, 0, none⟩ = some (.iface 80 (.pointer (some (E 4))))
  v5 : w.cell? ⟨11, 0, none⟩ = some (.iface 80 (.pointer (some (E 5))))
  v6 : w.cell? ⟨12, 0, none⟩ = some (.iface 80 (.pointer (some (E 6))))
  v7 : w.cell? ⟨13, 0, none⟩ = some (.iface 80 (.pointer (some (E 7))))
  v8 : w.cell? ⟨14, 0, none⟩ = some (.iface 80 (.pointer (some (E 8))))
  v9 : w.cell? ⟨15, 0, none⟩ = some (.iface 80 (.pointer (some (E 9))))
  v10 : w.cell? ⟨16, 0, none⟩ = some (.iface 80 (.pointer (some (E 10))))
  v11 : w.cell? ⟨17, 0, none⟩ = some (.iface 80 (.pointer (some (E 11))))
  v12 : w.cell? ⟨18, 0, none⟩ = some (.iface 80 (.pointer (some (E 12))))
  row : ∀ k, k < 13 → ∃ c t, w.heap[(E k).block]? = some (.cells c t (0, 0))
  ne : ∀ i j, i < 13 → j < 13 → i ≠ j → E i ≠ E j
theorem Errs.lt {w : World} {E : Nat → Addr} (h : Errs w E) (k : Nat) (hk : k < 13) : (E k).block < w.heap.size := by
  obtain ⟨c, t, e⟩ := h.row k hk
  exact Classical.byContradiction fun hn => by rw [Array.getElem?_eq_none (by omega)] at e; cases e
theorem Errs.below {w w' : World} {E : Nat → Addr} (h : Errs w E) (hb : Below w.heap.size w w') : Errs w' E :=
  ⟨cell_below h.v0 hb, cell_below h.v1 hb, cell_below h.v2 hb, cell_below h.v3 hb, cell_below h.v4 hb, cell_below h.v5 hb, cell_below h.v6 hb, cell_below h.v7 hb, cell_below h.v8 hb, cell_below h.v9 hb, cell_below h.v10 hb, cell_below h.v11 hb, cell_below h.v12 hb, fun k hk => by
    obtain ⟨c, t, e⟩ := h.row k hk
    exact ⟨c, t, (hb.block _ (h.lt k hk)).trans e⟩, h.ne⟩
theorem eql_same (w : World) (a : Addr) : (binOp .eql 39 (.iface 80 (.pointer (some a))) (.iface 80 (.pointer (some a)))).run Tryd.prog w = .ok (.bool true) w := by
  obtain ⟨i, hi, hcmp⟩ := Option.map_eq_some_iff.1 compP
  obtain ⟨j, hj, _⟩ := Option.map_eq_some_iff.1 sizeS
  exact run_eql_iface_ptr_same w a Tryd.underlying39 Tryd.underlying80 hi hcmp hj
theorem Errs.other {w : World} {E : Nat → Addr} (h : Errs w E) (x y : Nat) (hx : x < 13) (hy : y < 13) (hxy : x ≠ y) : (binOp .eql 39 (.iface 80 (.pointer (some (E x)))) (.iface 80 (.pointer (some (E y))))).run Tryd.prog w = .ok (.bool false) w := by
  obtain ⟨i, hi, hcmp⟩ := Option.map_eq_some_iff.1 compP
  obtain ⟨j, hj, hjs⟩ := Option.map_eq_some_iff.1 sizeS
  obtain ⟨c, t, e1⟩ := h.row x hx
  obtain ⟨c', t', e2⟩ := h.row y hy
  exact run_eql_iface_ptr_other w Tryd.underlying39 Tryd.underlying80 hi hcmp hj (by rw [hjs]; decide) (h.ne x y hx hy hxy) e1 e2
theorem more_7 {w : World} {E : Nat → Addr} (h : Errs w E) : Calls Tryd.prog 26 #[.iface 80 (.pointer (some (E 7)))] w fun e w' => e = .returned (.int .i64 8) ∧ w = w' := by
  have v7 := h.v7
  have q := eql_same w (E 7)
  clear h
  generalize E 7 = e7 at *
  go_enter Tryd.func26, Tryd.ntmps26
  go_wp2
  go_ret
  exact ⟨rfl, rfl⟩
theorem more_8 {w : World} {E : Nat → Addr} (h : Errs w E) : Calls Tryd.prog 26 #[.iface 80 (.pointer (some (E 8)))] w fun e w' => e = .returned (.int .i64 9) ∧ w = w' := by
  have v7 := h.v7
  have v8 := h.v8
  have q7 := h.other 8 7 (by omega) (by omega) (by omega)
  have q := eql_same w (E 8)
  clear h
  generalize E 7 = e7 at *
  generalize E 8 = e8 at *
  go_enter Tryd.func26, Tryd.ntmps26
  go_wp2
  go_ret
  exact ⟨rfl, rfl⟩
theorem more_9 {w : World} {E : Nat → Addr} (h : Errs w E) : Calls Tryd.prog 26 #[.iface 80 (.pointer (some (E 9)))] w fun e w' => e = .returned (.int .i64 10) ∧ w = w' := by
  have v7 := h.v7
  have v8 := h.v8
  have v9 := h.v9
  have q7 := h.other 9 7 (by omega) (by omega) (by omega)
  have q8 := h.other 9 8 (by omega) (by omega) (by omega)
  have q := eql_same w (E 9)
  clear h
  generalize E 7 = e7 at *
  generalize E 8 = e8 at *
  generalize E 9 = e9 at *
  go_enter Tryd.func26, Tryd.ntmps26
  go_wp2
  go_ret
  exact ⟨rfl, rfl⟩
theorem more_10 {w : World} {E : Nat → Addr} (h : Errs w E) : Calls Tryd.prog 26 #[.iface 80 (.pointer (some (E 10)))] w fun e w' => e = .returned (.int .i64 11) ∧ w = w' := by
  have v7 := h.v7
  have v8 := h.v8
  have v9 := h.v9
  have v10 := h.v10
  have q7 := h.other 10 7 (by omega) (by omega) (by omega)
  have q8 := h.other 10 8 (by omega) (by omega) (by omega)
  have q9 := h.other 10 9 (by omega) (by omega) (by omega)
  have q := eql_same w (E 10)
  clear h
  generalize E 7 = e7 at *
  generalize E 8 = e8 at *
  generalize E 9 = e9 at *
  generalize E 10 = e10 at *
  go_enter Tryd.func26, Tryd.ntmps26
  go_wp2
  go_ret
  exact ⟨rfl, rfl⟩
theorem more_11 {w : World} {E : Nat → Addr} (h : Errs w E) : Calls Tryd.prog 26 #[.iface 80 (.pointer (some (E 11)))] w fun e w' => e = .returned (.int .i64 12) ∧ w = w' := by
  have v7 := h.v7
  have v8 := h.v8
  have v9 := h.v9
  have v10 := h.v10
  have v11 := h.v11
  have q7 := h.other 11 7 (by omega) (by omega) (by omega)
  have q8 := h.other 11 8 (by omega) (by omega) (by omega)
  have q9 := h.other 11 9 (by omega) (by omega) (by omega)
  have q10 := h.other 11 10 (by omega) (by omega) (by omega)
  have q := eql_same w (E 11)
  clear h
  generalize E 7 = e7 at *
  generalize E 8 = e8 at *
  generalize E 9 = e9 at *
  generalize E 10 = e10 at *
  generalize E 11 = e11 at *
  go_enter Tryd.func26, Tryd.ntmps26
  go_wp2
  go_ret
  exact ⟨rfl, rfl⟩
theorem more_12 {w : World} {E : Nat → Addr} (h : Errs w E) : Calls Tryd.prog 26 #[.iface 80 (.pointer (some (E 12)))] w fun e w' => e = .returned (.int .i64 13) ∧ w = w' := by
  have v7 := h.v7
  have v8 := h.v8
  have v9 := h.v9
  have v10 := h.v10
  have v11 := h.v11
  have v12 := h.v12
  have q7 := h.other 12 7 (by omega) (by omega) (by omega)
  have q8 := h.other 12 8 (by omega) (by omega) (by omega)
  have q9 := h.other 12 9 (by omega) (by omega) (by omega)
  have q10 := h.other 12 10 (by omega) (by omega) (by omega)
  have q11 := h.other 12 11 (by omega) (by omega) (by omega)
  have q := eql_same w (E 12)
  clear h
  generalize E 7 = e7 at *
  generalize E 8 = e8 at *
  generalize E 9 = e9 at *
  generalize E 10 = e10 at *
  generalize E 11 = e11 at *
  generalize E 12 = e12 at *
  go_enter Tryd.func26, Tryd.ntmps26
  go_wp2
  go_ret
  exact ⟨rfl, rfl⟩
theorem num_0 {w : World} {E : Nat → Addr} (h : Errs w E) : Calls Tryd.prog 15 #[.iface 80 (.pointer (some (E 0)))] w fun e w' => e = .returned (.int .i64 1) ∧ w = w' := by
  have v0 := h.v0
  have q := eql_same w (E 0)
  clear h
  generalize E 0 = e0 at *
  go_enter Tryd.func15, Tryd.ntmps15
  go_wp2
  go_ret
  exact ⟨rfl, rfl⟩
theorem num_1 {w : World} {E : Nat → Addr} (h : Errs w E) : Calls Tryd.prog 15 #[.iface 80 (.pointer (some (E 1)))] w fun e w' => e = .returned (.int .i64 2) ∧ w = w' := by
  have v0 := h.v0
  have v1 := h.v1
  have q0 := h.other 1 0 (by omega) (by omega) (by omega)
  have q := eql_same w (E 1)
  clear h
  generalize E 0 = e0 at *
  generalize E 1 = e1 at *
  go_enter Tryd.func15, Tryd.ntmps15
  go_wp2
  go_ret
  exact ⟨rfl, rfl⟩
theorem num_2 {w : World} {E : Nat → Addr} (h : Errs w E) : Calls Tryd.prog 15 #[.iface 80 (.pointer (some (E 2)))] w fun e w' => e = .returned (.int .i64 3) ∧ w = w' := by
  have v0 := h.v0
  have v1 := h.v1
  have v2 := h.v2
  have q0 := h.other 2 0 (by omega) (by omega) (by omega)
  have q1 := h.other 2 1 (by omega) (by omega) (by omega)
  have q := eql_same w (E 2)
  clear h
  generalize E 0 = e0 at *
  generalize E 1 = e1 at *
  generalize E 2 = e2 at *
  go_enter Tryd.func15, Tryd.ntmps15
  go_wp2
  go_ret
  exact ⟨rfl, rfl⟩
theorem num_3 {w : World} {E : Nat → Addr} (h : Errs w E) : Calls Tryd.prog 15 #[.iface 80 (.pointer (some (E 3)))] w fun e w' => e = .returned (.int .i64 4) ∧ w = w' := by
  have v0 := h.v0
  have v1 := h.v1
  have v2 := h.v2
  have v3 := h.v3
  have q0 := h.other 3 0 (by omega) (by omega) (by omega)
  have q1 := h.other 3 1 (by omega) (by omega) (by omega)
  have q2 := h.other 3 2 (by omega) (by omega) (by omega)
  have q := eql_same w (E 3)
  clear h
  generalize E 0 = e0 at *
  generalize E 1 = e1 at *
  generalize E 2 = e2 at *
  generalize E 3 = e3 at *
  go_enter Tryd.func15, Tryd.ntmps15
  go_wp2
  go_ret
  exact ⟨rfl, rfl⟩
theorem num_4 {w : World} {E : Nat → Addr} (h : Errs w E) : Calls Tryd.prog 15 #[.iface 80 (.pointer (some (E 4)))] w fun e w' => e = .returned (.int .i64 5) ∧ w = w' := by
  have v0 := h.v0
  have v1 := h.v1
  have v2 := h.v2
  have v3 := h.v3
  have v4 := h.v4
  have q0 := h.other 4 0 (by omega) (by omega) (by omega)
  have q1 := h.other 4 1 (by omega) (by omega) (by omega)
  have q2 := h.other 4 2 (by omega) (by omega) (by omega)
  have q3 := h.other 4 3 (by omega) (by omega) (by omega)
  have q := eql_same w (E 4)
  clear h
  generalize E 0 = e0 at *
  generalize E 1 = e1 at *
  generalize E 2 = e2 at *
  generalize E 3 = e3 at *
  generalize E 4 = e4 at *
  go_enter Tryd.func15, Tryd.ntmps15
  go_wp2
  go_ret
  exact ⟨rfl, rfl⟩
theorem num_5 {w : World} {E : Nat → Addr} (h : Errs w E) : Calls Tryd.prog 15 #[.iface 80 (.pointer (some (E 5)))] w fun e w' => e = .returned (.int .i64 6) ∧ w = w' := by
  have v0 := h.v0
  have v1 := h.v1
  have v2 := h.v2
  have v3 := h.v3
  have v4 := h.v4
  have v5 := h.v5
  have q0 := h.other 5 0 (by omega) (by omega) (by omega)
  have q1 := h.other 5 1 (by omega) (by omega) (by omega)
  have q2 := h.other 5 2 (by omega) (by omega) (by omega)
  have q3 := h.other 5 3 (by omega) (by omega) (by omega)
  have q4 := h.other 5 4 (by omega) (by omega) (by omega)
  have q := eql_same w (E 5)
  clear h
  generalize E 0 = e0 at *
  generalize E 1 = e1 at *
  generalize E 2 = e2 at *
  generalize E 3 = e3 at *
  generalize E 4 = e4 at *
  generalize E 5 = e5 at *
  go_enter Tryd.func15, Tryd.ntmps15
  go_wp2
  go_ret
  exact ⟨rfl, rfl⟩
theorem num_6 {w : World} {E : Nat → Addr} (h : Errs w E) : Calls Tryd.prog 15 #[.iface 80 (.pointer (some (E 6)))] w fun e w' => e = .returned (.int .i64 7) ∧ w = w' := by
  have v0 := h.v0
  have v1 := h.v1
  have v2 := h.v2
  have v3 := h.v3
  have v4 := h.v4
  have v5 := h.v5
  have v6 := h.v6
  have q0 := h.other 6 0 (by omega) (by omega) (by omega)
  have q1 := h.other 6 1 (by omega) (by omega) (by omega)
  have q2 := h.other 6 2 (by omega) (by omega) (by omega)
  have q3 := h.other 6 3 (by omega) (by omega) (by omega)
  have q4 := h.other 6 4 (by omega) (by omega) (by omega)
  have q5 := h.other 6 5 (by omega) (by omega) (by omega)
  have q := eql_same w (E 6)
  clear h
  generalize E 0 = e0 at *
  generalize E 1 = e1 at *
  generalize E 2 = e2 at *
  generalize E 3 = e3 at *
  generalize E 4 = e4 at *
  generalize E 5 = e5 at *
  generalize E 6 = e6 at *
  go_enter Tryd.func15, Tryd.ntmps15
  go_wp2
  go_ret
  exact ⟨rfl, rfl⟩
theorem num_7 {w : World} {E : Nat → Addr} (h : Errs w E) : Calls Tryd.prog 15 #[.iface 80 (.pointer (some (E 7)))] w fun e w' => e = .returned (.int .i64 8) ∧ w = w' := by
  have v0 := h.v0
  have v1 := h.v1
  have v2 := h.v2
  have v3 := h.v3
  have v4 := h.v4
  have v5 := h.v5
  have v6 := h.v6
  have q0 := h.other 7 0 (by omega) (by omega) (by omega)
  have q1 := h.other 7 1 (by omega) (by omega) (by omega)
  have q2 := h.other 7 2 (by omega) (by omega) (by omega)
  have q3 := h.other 7 3 (by omega) (by omega) (by omega)
  have q4 := h.other 7 4 (by omega) (by omega) (by omega)
  have q5 := h.other 7 5 (by omega) (by omega) (by omega)
  have q6 := h.other 7 6 (by omega) (by omega) (by omega)
  have HC := Lib.hid (more_7 h)
  clear h
  generalize E 0 = e0 at *
  generalize E 1 = e1 at *
  generalize E 2 = e2 at *
  generalize E 3 = e3 at *
  generalize E 4 = e4 at *
  generalize E 5 = e5 at *
  generalize E 6 = e6 at *
  generalize E 7 = e7 at *
  go_enter Tryd.func15, Tryd.ntmps15
  go_wp2_with (go_at_call 26; (with_reducible refine HC.out.mono ?_); rintro e w' ⟨rfl, rfl⟩)
  go_ret
  exact ⟨rfl, rfl⟩
theorem num_8 {w : World} {E : Nat → Addr} (h : Errs w E) : Calls Tryd.prog 15 #[.iface 80 (.pointer (some (E 8)))] w fun e w' => e = .returned (.int .i64 9) ∧ w = w' := by
  have v0 := h.v0
  have v1 := h.v1
  have v2 := h.v2
  have v3 := h.v3
  have v4 := h.v4
  have v5 := h.v5
  have v6 := h.v6
  have q0 := h.other 8 0 (by omega) (by omega) (by omega)
  have q1 := h.other 8 1 (by omega) (by omega) (by omega)
  have q2 := h.other 8 2 (by omega) (by omega) (by omega)
  have q3 := h.other 8 3 (by omega) (by omega) (by omega)
  have q4 := h.other 8 4 (by omega) (by omega) (by omega)
  have q5 := h.other 8 5 (by omega) (by omega) (by omega)
  have q6 := h.other 8 6 (by omega) (by omega) (by omega)
  have HC := Lib.hid (more_8 h)
  clear h
  generalize E 0 = e0 at *
  generalize E 1 = e1 at *
  generalize E 2 = e2 at *
  generalize E 3 = e3 at *
  generalize E 4 = e4 at *
  generalize E 5 = e5 at *
  generalize E 6 = e6 at *
  generalize E 8 = e8 at *
  go_enter Tryd.func15, Tryd.ntmps15
  go_wp2_with (go_at_call 26; (with_reducible refine HC.out.mono ?_); rintro e w' ⟨rfl, rfl⟩)
  go_ret
  exact ⟨rfl, rfl⟩
theorem num_9 {w : World} {E : Nat → Addr} (h : Errs w E) : Calls Tryd.prog 15 #[.iface 80 (.pointer (some (E 9)))] w fun e w' => e = .returned (.int .i64 10) ∧ w = w' := by
  have v0 := h.v0
  have v1 := h.v1
  have v2 := h.v2
  have v3 := h.v3
  have v4 := h.v4
  have v5 := h.v5
  have v6 := h.v6
  have q0 := h.other 9 0 (by omega) (by omega) (by omega)
  have q1 := h.other 9 1 (by omega) (by omega) (by omega)
  have q2 := h.other 9 2 (by omega) (by omega) (by omega)
  have q3 := h.other 9 3 (by omega) (by omega) (by omega)
  have q4 := h.other 9 4 (by omega) (by omega) (by omega)
  have q5 := h.other 9 5 (by omega) (by omega) (by omega)
  have q6 := h.other 9 6 (by omega) (by omega) (by omega)
  have HC := Lib.hid (more_9 h)
  clear h
  generalize E 0 = e0 at *
  generalize E 1 = e1 at *
  generalize E 2 = e2 at *
  generalize E 3 = e3 at *
  generalize E 4 = e4 at *
  generalize E 5 = e5 at *
  generalize E 6 = e6 at *
  generalize E 9 = e9 at *
  go_enter Tryd.func15, Tryd.ntmps15
  go_wp2_with (go_at_call 26; (with_reducible refine HC.out.mono ?_); rintro e w' ⟨rfl, rfl⟩)
  go_ret
  exact ⟨rfl, rfl⟩
theorem num_10 {w : World} {E : Nat → Addr} (h : Errs w E) : Calls Tryd.prog 15 #[.iface 80 (.pointer (some (E 10)))] w fun e w' => e = .returned (.int .i64 11) ∧ w = w' := by
  have v0 := h.v0
  have v1 := h.v1
  have v2 := h.v2
  have v3 := h.v3
  have v4 := h.v4
  have v5 := h.v5
  have v6 := h.v6
  have q0 := h.other 10 0 (by omega) (by omega) (by omega)
  have q1 := h.other 10 1 (by omega) (by omega) (by omega)
  have q2 := h.other 10 2 (by omega) (by omega) (by omega)
  have q3 := h.other 10 3 (by omega) (by omega) (by omega)
  have q4 := h.other 10 4 (by omega) (by omega) (by omega)
  have q5 := h.other 10 5 (by omega) (by omega) (by omega)
  have q6 := h.other 10 6 (by omega) (by omega) (by omega)
  have HC := Lib.hid (more_10 h)
  clear h
  generalize E 0 = e0 at *
  generalize E 1 = e1 at *
  generalize E 2 = e2 at *
  generalize E 3 = e3 at *
  generalize E 4 = e4 at *
  generalize E 5 = e5 at *
  generalize E 6 = e6 at *
  generalize E 10 = e10 at *
  go_enter Tryd.func15, Tryd.ntmps15
  go_wp2_with (go_at_call 26; (with_reducible refine HC.out.mono ?_); rintro e w' ⟨rfl, rfl⟩)
  go_ret
  exact ⟨rfl, rfl⟩
theorem num_11 {w : World} {E : Nat → Addr} (h : Errs w E) : Calls Tryd.prog 15 #[.iface 80 (.pointer (some (E 11)))] w fun e w' => e = .returned (.int .i64 12) ∧ w = w' := by
  have v0 := h.v0
  have v1 := h.v1
  have v2 := h.v2
  have v3 := h.v3
  have v4 := h.v4
  have v5 := h.v5
  have v6 := h.v6
  have q0 := h.other 11 0 (by omega) (by omega) (by omega)
  have q1 := h.other 11 1 (by omega) (by omega) (by omega)
  have q2 := h.other 11 2 (by omega) (by omega) (by omega)
  have q3 := h.other 11 3 (by omega) (by omega) (by omega)
  have q4 := h.other 11 4 (by omega) (by omega) (by omega)
  have q5 := h.other 11 5 (by omega) (by omega) (by omega)
  have q6 := h.other 11 6 (by omega) (by omega) (by omega)
  have HC := Lib.hid (more_11 h)
  clear h
  generalize E 0 = e0 at *
  generalize E 1 = e1 at *
  generalize E 2 = e2 at *
  generalize E 3 = e3 at *
  generalize E 4 = e4 at *
  generalize E 5 = e5 at *
  generalize E 6 = e6 at *
  generalize E 11 = e11 at *
  go_enter Tryd.func15, Tryd.ntmps15
  go_wp2_with (go_at_call 26; (with_reducible refine HC.out.mono ?_); rintro e w' ⟨rfl, rfl⟩)
  go_ret
  exact ⟨rfl, rfl⟩
theorem num_12 {w : World} {E : Nat → Addr} (h : Errs w E) : Calls Tryd.prog 15 #[.iface 80 (.pointer (some (E 12)))] w fun e w' => e = .returned (.int .i64 13) ∧ w = w' := by
  have v0 := h.v0
  have v1 := h.v1
  have v2 := h.v2
  have v3 := h.v3
  have v4 := h.v4
  have v5 := h.v5
  have v6 := h.v6
  have q0 := h.other 12 0 (by omega) (by omega) (by omega)
  have q1 := h.other 12 1 (by omega) (by omega) (by omega)
  have q2 := h.other 12 2 (by omega) (by omega) (by omega)
  have q3 := h.other 12 3 (by omega) (by omega) (by omega)
  have q4 := h.other 12 4 (by omega) (by omega) (by omega)
  have q5 := h.other 12 5 (by omega) (by omega) (by omega)
  have q6 := h.other 12 6 (by omega) (by omega) (by omega)
  have HC := Lib.hid (more_12 h)
  clear h
  generalize E 0 = e0 at *
  generalize E 1 = e1 at *
  generalize E 2 = e2 at *
  generalize E 3 = e3 at *
  generalize E 4 = e4 at *
  generalize E 5 = e5 at *
  generalize E 6 = e6 at *
  generalize E 12 = e12 at *
  go_enter Tryd.func15, Tryd.ntmps15
  go_wp2_with (go_at_call 26; (with_reducible refine HC.out.mono ?_); rintro e w' ⟨rfl, rfl⟩)
  go_ret
  exact ⟨rfl, rfl⟩
theorem num_nil (w : World) : Calls Tryd.prog 15 #[.nilIface] w fun e w' => e = .returned (.int .i64 0) ∧ w = w' := by
  go_enter Tryd.func15, Tryd.ntmps15
  go_wp2
  go_ret
  exact ⟨rfl, rfl⟩
/-- what a row that lists the thirteen gives -/
theorem errs_laid {W : World} {l : List (String × DataW Unit)} (h : laidMet Tryd.prog l W)
    (m0 : ("usher/api.ErrArg", errD [97, 114, 103, 117, 109, 101, 110, 116]) ∈ l)
    (m1 : ("usher/api.ErrText", errD [116, 101, 120, 116]) ∈ l)
    (m2 : ("usher/api.ErrMany", errD [109, 97, 110, 121]) ∈ l)
    (m3 : ("usher/api.ErrTwice", errD [116, 119, 105, 99, 101]) ∈ l)
    (m4 : ("usher/api.ErrScheme", errD [115, 99, 104, 101, 109, 101]) ∈ l)
    (m5 : ("usher/api.ErrShort", errD [115, 104, 111, 114, 116]) ∈ l)
    (m6 : ("usher/api.ErrDry", errD [100, 114, 121]) ∈ l)
    (m7 : ("usher/api.ErrTaken", errD [116, 97, 107, 101, 110]) ∈ l)
    (m8 : ("usher/api.ErrFull", errD [102, 117, 108, 108]) ∈ l)
    (m9 : ("usher/api.ErrDead", errD [100, 101, 97, 100]) ∈ l)
    (m10 : ("usher/api.ErrLog", errD [108, 111, 103]) ∈ l)
    (m11 : ("usher/api.ErrLost", errD [108, 111, 115, 116]) ∈ l)
    (m12 : ("usher/api.ErrDenied", errD [100, 101, 110, 105, 101, 100]) ∈ l)
    : ∃ E, Errs W E := by
  obtain ⟨a0, s0, r0, c0, t0⟩ := laid_err (g := 6) h m0 (by kernel_rfl) (by kernel_rfl) Tryd.underlying39 rowP Tryd.underlying80 Tryd.underlying94 rfl rfl Tryd.underlying9 (by kernel_rfl) (by kernel_rfl)
  obtain ⟨a1, s1, r1, c1, t1⟩ := laid_err (g := 7) h m1 (by kernel_rfl) (by kernel_rfl) Tryd.underlying39 rowP Tryd.underlying80 Tryd.underlying94 rfl rfl Tryd.underlying9 (by kernel_rfl) (by kernel_rfl)
  obtain ⟨a2, s2, r2, c2, t2⟩ := laid_err (g := 8) h m2 (by kernel_rfl) (by kernel_rfl) Tryd.underlying39 rowP Tryd.underlying80 Tryd.underlying94 rfl rfl Tryd.underlying9 (by kernel_rfl) (by kernel_rfl)
  obtain ⟨a3, s3, r3, c3, t3⟩ := laid_err (g := 9) h m3 (by kernel_rfl) (by kernel_rfl) Tryd.underlying39 rowP Tryd.underlying80 Tryd.underlying94 rfl rfl Tryd.underlying9 (by kernel_rfl) (by kernel_rfl)
  obtain ⟨a4, s4, r4, c4, t4⟩ := laid_err (g := 10) h m4 (by kernel_rfl) (by kernel_rfl) Tryd.underlying39 rowP Tryd.underlying80 Tryd.underlying94 rfl rfl Tryd.underlying9 (by kernel_rfl) (by kernel_rfl)
  obtain ⟨a5, s5, r5, c5, t5⟩ := laid_err (g := 11) h m5 (by kernel_rfl) (by kernel_rfl) Tryd.underlying39 rowP Tryd.underlying80 Tryd.underlying94 rfl rfl Tryd.underlying9 (by kernel_rfl) (by kernel_rfl)
  obtain ⟨a6, s6, r6, c6, t6⟩ := laid_err (g := 12) h m6 (by kernel_rfl) (by kernel_rfl) Tryd.underlying39 rowP Tryd.underlying80 Tryd.underlying94 rfl rfl Tryd.underlying9 (by kernel_rfl) (by kernel_rfl)
  obtain ⟨a7, s7, r7, c7, t7⟩ := laid_err (g := 13) h m7 (by kernel_rfl) (by kernel_rfl) Tryd.underlying39 rowP Tryd.underlying80 Tryd.underlying94 rfl rfl Tryd.underlying9 (by kernel_rfl) (by kernel_rfl)
  obtain ⟨a8, s8, r8, c8, t8⟩ := laid_err (g := 14) h m8 (by kernel_rfl) (by kernel_rfl) Tryd.underlying39 rowP Tryd.underlying80 Tryd.underlying94 rfl rfl Tryd.underlying9 (by kernel_rfl) (by kernel_rfl)
  obtain ⟨a9, s9, r9, c9, t9⟩ := laid_err (g := 15) h m9 (by kernel_rfl) (by kernel_rfl) Tryd.underlying39 rowP Tryd.underlying80 Tryd.underlying94 rfl rfl Tryd.underlying9 (by kernel_rfl) (by kernel_rfl)
  obtain ⟨a10, s10, r10, c10, t10⟩ := laid_err (g := 16) h m10 (by kernel_rfl) (by kernel_rfl) Tryd.underlying39 rowP Tryd.underlying80 Tryd.underlying94 rfl rfl Tryd.underlying9 (by kernel_rfl) (by kernel_rfl)
  obtain ⟨a11, s11, r11, c11, t11⟩ := laid_err (g := 17) h m11 (by kernel_rfl) (by kernel_rfl) Tryd.underlying39 rowP Tryd.underlying80 Tryd.underlying94 rfl rfl Tryd.underlying9 (by kernel_rfl) (by kernel_rfl)
  obtain ⟨a12, s12, r12, c12, t12⟩ := laid_err (g := 18) h m12 (by kernel_rfl) (by kernel_rfl) Tryd.underlying39 rowP Tryd.underlying80 Tryd.underlying94 rfl rfl Tryd.underlying9 (by kernel_rfl) (by kernel_rfl)
  refine ⟨fun k => [a0, a1, a2, a3, a4, a5, a6, a7, a8, a9, a10, a11, a12].getD k default, s0, s1, s2, s3, s4, s5, s6, s7, s8, s9, s10, s11, s12, ?_, ?_⟩
  · intro k hk
    match k, hk with
    | 0, _ => exact r0
    | 1, _ => exact r1
    | 2, _ => exact r2
    | 3, _ => exact r3
    | 4, _ => exact r4
    | 5, _ => exact r5
    | 6, _ => exact r6
    | 7, _ => exact r7
    | 8, _ => exact r8
    | 9, _ => exact r9
    | 10, _ => exact r10
    | 11, _ => exact r11
    | 12, _ => exact r12
  · intro i j hi hj hij
    have tx : ∀ k, k < 13 → ∃ s : ByteArray, W.cell? ([a0, a1, a2, a3, a4, a5, a6, a7, a8, a9, a10, a11, a12].getD k default) = some (.string s) ∧ s.data.toList = [[97, 114, 103, 117, 109, 101, 110, 116], [116, 101, 120, 116], [109, 97, 110, 121], [116, 119, 105, 99, 101], [115, 99, 104, 101, 109, 101], [115, 104, 111, 114, 116], [100, 114, 121], [116, 97, 107, 101, 110], [102, 117, 108, 108], [100, 101, 97, 100], [108, 111, 103], [108, 111, 115, 116], [100, 101, 110, 105, 101, 100]].getD k [] := by
      intro k hk
      match k, hk with
      | 0, _ => exact ⟨c0, t0⟩
      | 1, _ => exact ⟨c1, t1⟩
      | 2, _ => exact ⟨c2, t2⟩
      | 3, _ => exact ⟨c3, t3⟩
      | 4, _ => exact ⟨c4, t4⟩
      | 5, _ => exact ⟨c5, t5⟩
      | 6, _ => exact ⟨c6, t6⟩
      | 7, _ => exact ⟨c7, t7⟩
      | 8, _ => exact ⟨c8, t8⟩
      | 9, _ => exact ⟨c9, t9⟩
      | 10, _ => exact ⟨c10, t10⟩
      | 11, _ => exact ⟨c11, t11⟩
      | 12, _ => exact ⟨c12, t12⟩
    intro e
    obtain ⟨s, h1, h2⟩ := tx i hi
    obtain ⟨s', h3, h4⟩ := tx j hj
    have e' : [a0, a1, a2, a3, a4, a5, a6, a7, a8, a9, a10, a11, a12].getD i default = [a0, a1, a2, a3, a4, a5, a6, a7, a8, a9, a10, a11, a12].getD j default := e
    rw [e'] at h1
    have e2 := Option.some.inj (h1.symm.trans h3)
    cases e2
    have e3 := h2.symm.trans h4
    exact absurd e3 (by
      have all : ∀ i : Fin 13, ∀ j : Fin 13, i ≠ j → ([[97, 114, 103, 117, 109, 101, 110, 116], [116, 101, 120, 116], [109, 97, 110, 121], [116, 119, 105, 99, 101], [115, 99, 104, 101, 109, 101], [115, 104, 111, 114, 116], [100, 114, 121], [116, 97, 107, 101, 110], [102, 117, 108, 108], [100, 101, 97, 100], [108, 111, 103], [108, 111, 115, 116], [100, 101, 110, 105, 101, 100]] : List (List UInt8)).getD i.val [] ≠ ([[97, 114, 103, 117, 109, 101, 110, 116], [116, 101, 120, 116], [109, 97, 110, 121], [116, 119, 105, 99, 101], [115, 99, 104, 101, 109, 101], [115, 104, 111, 114, 116], [100, 114, 121], [116, 97, 107, 101, 110], [102, 117, 108, 108], [100, 101, 97, 100], [108, 111, 103], [108, 111, 115, 116], [100, 101, 110, 105, 101, 100]] : List (List UInt8)).getD j.val [] := by decide +kernel
      exact all ⟨i, hi⟩ ⟨j, hj⟩ (fun h => hij (congrArg Fin.val h)))
end Go.Proofs.YtmmniapkajbdhaaDoor
