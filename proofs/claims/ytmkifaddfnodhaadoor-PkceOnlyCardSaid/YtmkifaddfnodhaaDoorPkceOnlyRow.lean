/- P10.1, P10.2, P10.4 by the package's own calls: a verifier opens its own challenge and no other one; what is no verifier opens none. No condition. -/
import Derived.Test.YtmkifaddfnodhaaDoorCards
import Derived.Test.YtmkifaddfnodhaaDoorTie
import Derived.Test.YtmkifaddfnodhaaDoorPkceOnlyLaw
import Derived.Test.YtmkifaddfnodhaaDoorLawPost
import Derived.Test.YtmkifaddfnodhaaDoorLaid
import Derived.Lib.SmallJoins
namespace Go.Proofs.YtmkifaddfnodhaaDoor.pkceOnlyLaw
open Go.ChangeShapes Go.WideShapes Go.ChangeAt Go.RowKit
open Go.ChangeMaps (setBlock shut_map_nil open_string shut_string keptBut_setBlock frozen?_setBlock heap_setBlock_same)
theorem cellsT : Tryd.prog.cellsOf 43 = 2 := by kernel_rfl
theorem contract (H : Type) (enc : TypeId × Value → H) (W : World) (base : Nat) (args : Array Value) (ds gs : List (DataW H)) (before : List MemPlace)
    (hval : ∀ (j : Nat) t v, Tryd.f9.params[j]? = some t → args[j]? = some v → Value.okWide Tryd.prog W .any base t v)
    (hW : DataW.Whole enc Tryd.prog Tryd.f9.params.toList Rows.pkceOnlySpec.vars false W args.toList ds gs before)
    (hsz : (DataW.weightsEach Tryd.prog (Tryd.f9.params.toList ++ []) (ds ++ gs)).all (· ≤ reachBytes) = true) (hL : laidMetH Tryd.prog Rows.pkceOnlyRow.laid W) :
    Calls Tryd.prog 9 args W fun e W' => ∃ v, e = .returned v ∧ Rows.pkceOnlySpec.post enc Tryd.prog Tryd.f9 false true false false W args v W' := by
  have hW' := hW
  obtain ⟨p, q, hA0, hV, _, hfz, hnd⟩ := hW
  have hA : DataW.TrodAll enc Tryd.prog W 0 (fun _ => true) true Tryd.f9.params.toList args.toList ds p := hA0
  rw [Tryd.params9] at hA hval hsz
  obtain ⟨v0, vs0, d0, ds0, p0, q0, hargs, rfl, rfl, h0, r0⟩ := trodAll_cons hA
  obtain ⟨rfl, rfl, rfl⟩ := trodAll_nil r0
  obtain rfl : args = #[v0] := by cases args; simp_all
  obtain ⟨rfl, rfl⟩ := trodVars_none hV
  obtain ⟨c0, c1, y0, y1, m, rfl, rfl, rfl, hy0, hy1⟩ := Joins.open_agg2 Tryd.underlying43 (by kernel_rfl) cellsT (hval 0 43 v0 rfl rfl) h0
  obtain ⟨a, e0, rfl, ha⟩ := DataW.trod_string Tryd.underlying9 hy0
  obtain rfl : c0 = _ := by simpa using e0
  obtain ⟨b, e1, rfl, hb⟩ := DataW.trod_string Tryd.underlying9 hy1
  obtain rfl : c1 = _ := by simpa using e1
  clear hA0
  simp [DataW.weightsEach, DataW.weights, Tryd.underlying43] at hsz
  rw [MakeChecks.laidMetH_plain _ _ _ (by kernel_rfl)] at hL
  refine (pkceOnly_walk a b W hsz.1 hsz.2 (pTabs hL (List.mem_of_getElem? (i := 0) (by kernel_rfl)) (List.mem_of_getElem? (i := 1) (by kernel_rfl))) (pkceTab_of (u32Tab_laid (n := "usher/pkce.unreserved") UPkce.tab hL (List.mem_of_getElem? (i := 2) (by kernel_rfl)) (g := 8) (by kernel_rfl) (by kernel_rfl) Tryd.underlying66 Tryd.underlying65 (by kernel_rfl) rfl))).mono fun e W' ⟨he, hb⟩ => ?_
  subst he
  exact ⟨_, rfl, law_post Tryd.params9 rfl rfl (by kernel_rfl) (of_decide_eq_true (by kernel_rfl)) (fun _ => ⟨rfl, rfl, rfl⟩) hW' hb⟩
noncomputable def laidWorld (os : Os) : World := World.laidAll Tryd.prog os Rows.pkceOnlyRow.laid
theorem laid_met (os : Os) : laidMet Tryd.prog Rows.pkceOnlyRow.laid ((laidWorld os).forCall (fun _ _ => 0) ⟨#[], #[Value.agg #[.string ⟨#[]⟩, .string ⟨#[]⟩]], []⟩).memory := laidMet_laidAll _ (by kernel_rfl) (by kernel_rfl)
theorem reads (os : Os) {H : Type} (enc : TypeId × Value → H) : ∃ places, DataW.whole enc Tryd.prog ((laidWorld os).forCall (fun _ _ => 0) ⟨#[], #[Value.agg #[.string ⟨#[]⟩, .string ⟨#[]⟩]], []⟩).memory Tryd.f9.params.toList Rows.pkceOnlySpec.vars false #[Value.agg #[.string ⟨#[]⟩, .string ⟨#[]⟩]].toList 8 = some ([.agg [.lit (.string []), .lit (.string [])]], [], places) :=
  ⟨[], by kernel_rfl⟩
set_option maxRecDepth 100000 in
theorem lifted (os : Os) (started : os.Started) (H : Type) (enc : TypeId × Value → H) (F : Stop.Interp) :
    ReturnsInHanded {} Tryd.checked os 9 .any ((OpenSpec.ofChange Rows.pkceOnlySpec).preRow enc Tryd.prog Tryd.f9 Rows.pkceOnlyRow.domain false Rows.pkceOnlyRow.laid) (((OpenSpec.ofChange Rows.pkceOnlySpec).at F).post enc Tryd.prog Tryd.f9 false true false false) := by
  obtain ⟨places, hx⟩ := reads os enc
  refine returnsInHanded_of_row (C := Tryd.checked) (s := (OpenSpec.ofChange Rows.pkceOnlySpec)) own started (by kernel_rfl) Tryd.func9
    (witness_row_shaped (enc := enc) (C := Tryd.checked) false (laidWorld os) #[Value.agg #[.string ⟨#[]⟩, .string ⟨#[]⟩]] (World.laidAll_os _ _ _) (World.shaped_of_ZipB (by kernel_rfl) (by kernel_rfl)) (by kernel_rfl)
      (OpenSpec.preRow_of_cond 8 hx (by kernel_rfl) (fun k hk => by cases hk) (by kernel_rfl) (laid_met os))) ?_
  intro W base args ds gs before hval hW _ _ hsz hL _ _
  exact contract H enc W base args ds gs before hval hW hsz hL
theorem said : Rows.PkceOnlySaid :=
  OpenClaim.holds_of_cond 9 Tryd.f9 rfl rfl rfl rfl rfl rfl rfl ⟨rfl, rfl, rfl, rfl, rfl⟩ rfl rfl rfl rfl rfl (by kernel_rfl) Tryd.func9 (by kernel_rfl)
    (of_decide_eq_true (by kernel_rfl)) (by unfold Func.isWrapper; first | (rw [if_pos (by decide +kernel)]; kernel_rfl) | (rw [if_neg (by decide +kernel)]; exact ⟨rfl, rfl⟩))
    (fun os started H enc _ F => by rw [OpenClaim.pre_eq_preRow]; exact lifted os started H enc F)
theorem plain (f : FuncId) (fn : Func) (hf : Tryd.pinned.checked.prog.funcNamed "usher/usherlaw10.PkceOnly" = some f) (hfn : Tryd.pinned.checked.prog.funcs[f]? = some fn) :
    true = Tryd.pinned.checked.prog.looks [] ∧ ∀ (j : Nat) t, fn.params[j]? = some t → Tryd.pinned.checked.prog.wantsStandIn t = false := by
  obtain rfl : f = 9 := Option.some.inj ((show Tryd.prog.funcNamed "usher/usherlaw10.PkceOnly" = some 9 by kernel_rfl).symm.trans hf) |>.symm
  obtain rfl : fn = Tryd.f9 := (Option.some.inj (Tryd.func9.symm.trans hfn)).symm
  refine ⟨by kernel_rfl, fun j t ht => ?_⟩
  rw [Tryd.params9] at ht
  obtain rfl : t = 43 := by simpa using Array.mem_of_getElem? ht
  exact (show Tryd.prog.wantsStandIn 43 = false by kernel_rfl)
theorem card : Rows.PkceOnlyCardSaid :=
  Claim7.holds_tied_plain_at .later [] _ _ _ _ said (fun _ h => by cases h) (by kernel_rfl) (fun _ h => by cases h) pkceOnly_row_tie rfl ⟨rfl, rfl⟩ (by kernel_rfl) rfl plain (by kernel_rfl)
end Go.Proofs.YtmkifaddfnodhaaDoor.pkceOnlyLaw
