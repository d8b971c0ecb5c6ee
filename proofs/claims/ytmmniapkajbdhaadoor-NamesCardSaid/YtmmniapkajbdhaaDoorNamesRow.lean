/- What all layers share: a closed sentence: the thirteen refusals are thirteen values, the limits, kinds and words have what stands beside them. No condition. -/
import Derived.Test.YtmmniapkajbdhaaDoorCards
import Derived.Test.YtmmniapkajbdhaaDoorTie
import Derived.Test.YtmmniapkajbdhaaDoorNamesWalk
import Derived.Test.YtmmniapkajbdhaaDoorLawPost
import Derived.Test.YtmmniapkajbdhaaDoorLaid
import Derived.Lib.SmallJoins
namespace Go.Proofs.YtmmniapkajbdhaaDoor.namesLaw
open Go.ChangeShapes Go.WideShapes Go.ChangeAt Go.RowKit
open Go.ChangeMaps (setBlock shut_map_nil open_string shut_string keptBut_setBlock frozen?_setBlock heap_setBlock_same)
def parts : DataW Unit → List (DataW Unit)
  | .agg d => d
  | _ => []
theorem contract (H : Type) (enc : TypeId × Value → H) (W : World) (base : Nat) (args : Array Value) (ds gs : List (DataW H)) (before : List MemPlace)
    (hval : ∀ (j : Nat) t v, Tryd.f3.params[j]? = some t → args[j]? = some v → Value.okWide Tryd.prog W .any base t v)
    (hW : DataW.Whole enc Tryd.prog Tryd.f3.params.toList Rows.namesSpec.vars false W args.toList ds gs before)
    (hsz : (DataW.weightsEach Tryd.prog (Tryd.f3.params.toList ++ []) (ds ++ gs)).all (· ≤ reachBytes) = true) (hL : laidMetH Tryd.prog Rows.namesRow.laid W) :
    Calls Tryd.prog 3 args W fun e W' => ∃ v, e = .returned v ∧ Rows.namesSpec.post enc Tryd.prog Tryd.f3 false true false false W args v W' := by
  have hW' := hW
  obtain ⟨p, q, hA0, hV, _, hfz, hnd⟩ := hW
  have hA : DataW.TrodAll enc Tryd.prog W 0 (fun _ => true) true Tryd.f3.params.toList args.toList ds p := hA0
  rw [Tryd.params3] at hA hval hsz
  obtain ⟨hargs, rfl, rfl⟩ := trodAll_nil hA
  obtain rfl : args = #[] := by cases args; simp_all
  obtain ⟨rfl, rfl⟩ := trodVars_none hV
  clear hA0
  rw [MakeChecks.laidMetH_plain _ _ _ (by kernel_rfl)] at hL
  obtain ⟨E, hE⟩ := errs_laid hL (List.mem_of_getElem? (i := 0) (by rfl)) (List.mem_of_getElem? (i := 1) (by rfl)) (List.mem_of_getElem? (i := 2) (by rfl)) (List.mem_of_getElem? (i := 3) (by rfl)) (List.mem_of_getElem? (i := 4) (by rfl)) (List.mem_of_getElem? (i := 5) (by rfl)) (List.mem_of_getElem? (i := 6) (by rfl)) (List.mem_of_getElem? (i := 7) (by rfl)) (List.mem_of_getElem? (i := 8) (by rfl)) (List.mem_of_getElem? (i := 9) (by rfl)) (List.mem_of_getElem? (i := 10) (by rfl)) (List.mem_of_getElem? (i := 11) (by rfl)) (List.mem_of_getElem? (i := 12) (by rfl))
  have hA : ∀ i : Nat, i < 32 → ∃ z, W.cell? ⟨0, i, none⟩ = some (.int .i64 z) ∧ W.cell? ⟨1, i, none⟩ = some (.int .i64 z) := fun i hi => by
    obtain ⟨z, d1, c1⟩ := laid_int (ds := parts Rows.laid_usher_usherlaw0_limits) hL (List.mem_of_getElem? (i := 13) (by rfl)) (g := 0) (by kernel_rfl) (by kernel_rfl) Tryd.underlying22 Tryd.underlying3 (by kernel_rfl) i hi
    obtain ⟨z', d2, c2⟩ := laid_int (ds := parts Rows.laid_usher_usherlaw0_limits) hL (List.mem_of_getElem? (i := 14) (by rfl)) (g := 1) (by kernel_rfl) (by kernel_rfl) Tryd.underlying22 Tryd.underlying3 (by kernel_rfl) i hi
    cases d1.symm.trans d2
    exact ⟨z, c1, c2⟩
  have hB : ∀ i : Nat, i < 34 → ∃ z, W.cell? ⟨2, i, none⟩ = some (.int .i64 z) ∧ W.cell? ⟨3, i, none⟩ = some (.int .i64 z) := fun i hi => by
    obtain ⟨z, d1, c1⟩ := laid_int (ds := parts Rows.laid_usher_usherlaw0_kinds) hL (List.mem_of_getElem? (i := 15) (by rfl)) (g := 2) (by kernel_rfl) (by kernel_rfl) Tryd.underlying23 Tryd.underlying3 (by kernel_rfl) i hi
    obtain ⟨z', d2, c2⟩ := laid_int (ds := parts Rows.laid_usher_usherlaw0_kinds) hL (List.mem_of_getElem? (i := 16) (by rfl)) (g := 3) (by kernel_rfl) (by kernel_rfl) Tryd.underlying23 Tryd.underlying3 (by kernel_rfl) i hi
    cases d1.symm.trans d2
    exact ⟨z, c1, c2⟩
  have hC : ∀ i : Nat, i < 13 → ∃ s, W.cell? ⟨4, i, none⟩ = some (.string s) ∧ W.cell? ⟨5, i, none⟩ = some (.string s) := fun i hi => by
    obtain ⟨s, d1, c1⟩ := laid_string (ds := parts Rows.laid_usher_usherlaw0_words) hL (List.mem_of_getElem? (i := 17) (by rfl)) (g := 4) (by kernel_rfl) (by kernel_rfl) Tryd.underlying24 Tryd.underlying9 (by kernel_rfl) i hi
    obtain ⟨s', d2, c2⟩ := laid_string (ds := parts Rows.laid_usher_usherlaw0_words) hL (List.mem_of_getElem? (i := 18) (by rfl)) (g := 5) (by kernel_rfl) (by kernel_rfl) Tryd.underlying24 Tryd.underlying9 (by kernel_rfl) i hi
    have e : s = s' := by
      have e2 := d1.symm.trans d2
      injection e2 with e2
      injection e2 with e2
      injection e2 with e2
      exact ByteArray.ext (Array.toList_inj.mp e2)
    subst e
    exact ⟨s, c1, c2⟩
  refine (names_walk hE hA hB hC).mono fun e W' ⟨he, hb⟩ => ?_
  subst he
  exact ⟨_, rfl, law_post0 Tryd.params3 rfl rfl ⟨rfl, rfl, rfl⟩ hW' hb⟩
noncomputable def laidWorld (os : Os) : World := World.laidAll Tryd.prog os Rows.namesRow.laid
theorem laid_met (os : Os) : laidMet Tryd.prog Rows.namesRow.laid ((laidWorld os).forCall (fun _ _ => 0) ⟨#[], #[], []⟩).memory := laidMet_laidAll _ (by kernel_rfl) (by kernel_rfl)
theorem reads (os : Os) {H : Type} (enc : TypeId × Value → H) : ∃ places, DataW.whole enc Tryd.prog ((laidWorld os).forCall (fun _ _ => 0) ⟨#[], #[], []⟩).memory Tryd.f3.params.toList Rows.namesSpec.vars false #[].toList 8 = some ([], [], places) :=
  ⟨[], by kernel_rfl⟩
set_option maxRecDepth 100000 in
theorem lifted (os : Os) (started : os.Started) (H : Type) (enc : TypeId × Value → H) (F : Stop.Interp) :
    ReturnsInHanded {} Tryd.checked os 3 .any ((OpenSpec.ofChange Rows.namesSpec).preRow enc Tryd.prog Tryd.f3 Rows.namesRow.domain false Rows.namesRow.laid) (((OpenSpec.ofChange Rows.namesSpec).at F).post enc Tryd.prog Tryd.f3 false true false false) := by
  obtain ⟨places, hx⟩ := reads os enc
  refine returnsInHanded_of_row (C := Tryd.checked) (s := (OpenSpec.ofChange Rows.namesSpec)) own started (by kernel_rfl) Tryd.func3
    (witness_row_shaped (enc := enc) (C := Tryd.checked) false (laidWorld os) #[] (World.laidAll_os _ _ _) (World.shaped_of_ZipB (by kernel_rfl) (by kernel_rfl)) (by kernel_rfl)
      (OpenSpec.preRow_of_cond 8 hx (by kernel_rfl) (fun k hk => by cases hk) (by kernel_rfl) (laid_met os))) ?_
  intro W base args ds gs before hval hW _ _ hsz hL _ _
  exact contract H enc W base args ds gs before hval hW hsz hL
theorem said : Rows.NamesSaid :=
  OpenClaim.holds_of_cond 3 Tryd.f3 rfl rfl rfl rfl rfl rfl rfl ⟨rfl, rfl, rfl, rfl, rfl⟩ rfl rfl rfl rfl rfl (by kernel_rfl) Tryd.func3 (by kernel_rfl)
    (of_decide_eq_true (by kernel_rfl)) (by unfold Func.isWrapper; first | (rw [if_pos (by decide +kernel)]; kernel_rfl) | (rw [if_neg (by decide +kernel)]; exact ⟨rfl, rfl⟩))
    (fun os started H enc _ F => by rw [OpenClaim.pre_eq_preRow]; exact lifted os started H enc F)
theorem plain (f : FuncId) (fn : Func) (hf : Tryd.pinned.checked.prog.funcNamed "usher/usherlaw0.Names" = some f) (hfn : Tryd.pinned.checked.prog.funcs[f]? = some fn) :
    true = Tryd.pinned.checked.prog.looks [] ∧ ∀ (j : Nat) t, fn.params[j]? = some t → Tryd.pinned.checked.prog.wantsStandIn t = false := by
  obtain rfl : f = 3 := Option.some.inj ((show Tryd.prog.funcNamed "usher/usherlaw0.Names" = some 3 by kernel_rfl).symm.trans hf) |>.symm
  obtain rfl : fn = Tryd.f3 := (Option.some.inj (Tryd.func3.symm.trans hfn)).symm
  refine ⟨by kernel_rfl, fun j t ht => ?_⟩
  rw [Tryd.params3] at ht
  simp at ht
theorem card : Rows.NamesCardSaid :=
  Claim7.holds_tied_plain_at .later [] _ _ _ _ said (fun _ h => by cases h) (by kernel_rfl) (fun _ h => by cases h) names_row_tie rfl ⟨rfl, rfl⟩ (by kernel_rfl) rfl plain (by kernel_rfl)
end Go.Proofs.YtmmniapkajbdhaaDoor.namesLaw
