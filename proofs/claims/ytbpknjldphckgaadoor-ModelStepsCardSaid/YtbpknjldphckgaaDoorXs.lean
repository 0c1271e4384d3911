/- 25.4: steps, one behind the other. No condition. -/
import Derived.Test.YtbpknjldphckgaaDoorXsf
namespace Go.Proofs.YtbpknjldphckgaaDoor
open Go Go.SX Go.Proofs Go.ChangeShapes Go.WideShapes Go.ChangeAt Go.ChangeMaps Go.RowKit
set_option maxRecDepth 100000
set_option linter.unusedVariables false

theorem modelSteps_lifted (os : Os) (started : os.Started) (H : Type) (enc : TypeId × Value → H) :
    ReturnsInHanded {} Tryd.checked os 23 .any (fun w args => (Rows.modelStepsSpec.pre enc Tryd.prog Tryd.f23 Rows.modelStepsRow.domain false w args ∧ laidMetH Tryd.prog Rows.modelStepsRow.laid w) ∧ sizedMet enc Tryd.prog Tryd.f23 (OpenSpec.ofChange Rows.modelStepsSpec) false w args) (Rows.modelStepsSpec.post enc Tryd.prog Tryd.f23 false true false false) := by
  refine wrapLS (C := Tryd.checked) (X := fun w _ => laidMetH Tryd.prog laids w) Tryd.own started (by kernel_rfl) Tryd.func23
    (ChangeSpec.witness_shaped (enc := enc) (C := Tryd.checked) (os := os) (X := fun w _ => laidMetH Tryd.prog laids w) false (World.laidAll Tryd.prog os laids) #[.slice none 0 0] 8 (World.laidAll_os _ _ _) (shaped0 os _) (by kernel_rfl) (by kernel_rfl) (by kernel_rfl) (met0 os _)) ?_
  intro W base args ds gs before hval0 hW hsh
  have hm := ml_shaped hsh
  have hval : ∀ (j : Nat) t v, Tryd.f23.params[j]? = some t → args[j]? = some v → Value.okWide Tryd.prog W .any base t v := hval0
  have hW' := hW
  obtain ⟨p, q, hA0, hV, rfl, hfz, hnd⟩ := hW
  have hA : DataW.TrodAll enc Tryd.prog W 0 (fun _ => true) true Tryd.f23.params.toList args.toList ds p := hA0
  rw [Tryd.params23] at hA hval
  obtain ⟨v0, d0, rfl, rfl, h0⟩ := trodAll_one hA
  obtain ⟨rfl, rfl⟩ := trodVars_none hV
  obtain ⟨q0, c0, l0, rfl, hx0, hl0, hn0⟩ := open_moves (hval 0 132 v0 rfl rfl) h0
  refine Calls.mono (c23 hm (ml_posk hm) hx0 hl0 hn0) ?_
  rintro e W' ⟨v, rfl, rfl, hk⟩
  exact ⟨_, rfl, true_post (tb := 4) Tryd.laidOut (by kernel_rfl) rfl rfl Tryd.underlying4 ⟨rfl, rfl, rfl⟩ hW' hk⟩
theorem modelSteps_reach : reachFacts 23 Rows.modelStepsRow = true := by kernel_rfl
theorem modelSteps_plain : plainFacts Tryd.f23 Rows.modelStepsSpec Rows.modelStepsRow = true := by kernel_rfl
theorem modelSteps_facts : joinedFacts Tryd.checked.prog 23 Tryd.f23 Rows.modelStepsSpec Rows.modelStepsRow = true := facts_of rfl rfl modelSteps_reach modelSteps_plain
theorem modelSteps_holds : Rows.ModelStepsSaid :=
  OpenClaim.holds_of_wide 23 Tryd.f23 rfl rfl rfl rfl rfl rfl rfl ⟨rfl, rfl, rfl, rfl, rfl⟩ rfl rfl rfl rfl rfl (by kernel_rfl) Tryd.func23 modelSteps_facts
    (of_decide_eq_true (by kernel_rfl)) (by unfold Func.isWrapper; first | (rw [if_pos (by decide +kernel)]; kernel_rfl) | (rw [if_neg (by decide +kernel)]; exact ⟨rfl, rfl⟩))
    (fun os started H enc _ => modelSteps_lifted os started H enc)
theorem modelSteps_card : Rows.ModelStepsCardSaid :=
  Claim7.holds_tied_plain_at .later [] [.data, .pinned] true (true, "bc9f3cb85745f96992040cc5b31babd500f1ea4e36d299bae426ae28286c4765") false modelSteps_holds (fun _ h => by cases h) (by kernel_rfl) (fun _ h => by cases h) modelSteps_row_tie rfl ⟨rfl, rfl⟩ Tryd.main rfl
    (fun f fn hf hfn => by
      obtain rfl : f = 23 := Option.some.inj ((show Tryd.prog.funcNamed Rows.modelStepsRow.func = some 23 by kernel_rfl).symm.trans hf) |>.symm
      obtain rfl : fn = Tryd.f23 := (Option.some.inj (Tryd.func23.symm.trans hfn)).symm
      exact ⟨Tryd.looksNot, fun j t ht => by
        rw [Tryd.params23] at ht
        have hm : t ∈ [132] := by simpa using Array.mem_of_getElem? ht
        have hall : ([132].all fun u => !Tryd.prog.wantsStandIn u) = true := by kernel_rfl
        exact (show Tryd.prog.wantsStandIn t = false by simpa using List.all_eq_true.1 hall t hm)⟩)
    (by kernel_rfl)
#print axioms modelSteps_holds
#print axioms modelSteps_card
end Go.Proofs.YtbpknjldphckgaaDoor

