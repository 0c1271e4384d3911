/- 25.3: what was synced is found behind a crash, and nothing else. No condition. -/
import Derived.Test.YtbpknjldphckgaaDoorSc
import Derived.Test.YtbpknjldphckgaaDoorJr
import Derived.Test.YtbpknjldphckgaaDoorJx
namespace Go.Proofs.YtbpknjldphckgaaDoor
open Go Go.SX Go.Proofs Go.ChangeShapes Go.WideShapes Go.ChangeAt Go.ChangeMaps Go.RowKit
set_option maxRecDepth 100000
set_option linter.unusedVariables false

theorem modelFinds_lifted (os : Os) (started : os.Started) (H : Type) (enc : TypeId × Value → H) :
    ReturnsInHanded {} Tryd.checked os 22 .any (fun w args => (Rows.modelFindsSpec.pre enc Tryd.prog Tryd.f22 Rows.modelFindsRow.domain false w args ∧ laidMetH Tryd.prog Rows.modelFindsRow.laid w) ∧ sizedMet enc Tryd.prog Tryd.f22 (OpenSpec.ofChange Rows.modelFindsSpec) false w args) (Rows.modelFindsSpec.post enc Tryd.prog Tryd.f22 false true false false) := by
  refine wrapLS (C := Tryd.checked) (X := fun w _ => laidMetH Tryd.prog laids w) Tryd.own started (by kernel_rfl) Tryd.func22
    (ChangeSpec.witness_shaped (enc := enc) (C := Tryd.checked) (os := os) (X := fun w _ => laidMetH Tryd.prog laids w) false (World.laidAll Tryd.prog os laids) #[.agg #[.string ⟨#[]⟩, .slice none 0 0], .agg #[.string ⟨#[]⟩, .slice none 0 0]] 8 (World.laidAll_os _ _ _) (shaped0 os _) (by kernel_rfl) (by kernel_rfl) (by kernel_rfl) (met0 os _)) ?_
  intro W base args ds gs before hval0 hW hsh
  have hm := ml_shaped hsh
  have hval : ∀ (j : Nat) t v, Tryd.f22.params[j]? = some t → args[j]? = some v → Value.okWide Tryd.prog W .any base t v := hval0
  have hW' := hW
  obtain ⟨p, q, hA0, hV, rfl, hfz, hnd⟩ := hW
  have hA : DataW.TrodAll enc Tryd.prog W 0 (fun _ => true) true Tryd.f22.params.toList args.toList ds p := hA0
  rw [Tryd.params22] at hA hval
  obtain ⟨v0, v1, d0, d1, p0, p1, rfl, rfl, rfl, h0, h1⟩ := trodAll_two hA
  obtain ⟨rfl, rfl⟩ := trodVars_none hV
  obtain ⟨x0, rfl, hx0⟩ := open_file (hval 0 107 v0 rfl rfl) h0
  obtain ⟨x1, rfl, hx1⟩ := open_file (hval 1 107 v1 rfl rfl) h1
  refine Calls.mono (c22 hm x0 x1 hx0 hx1) ?_
  rintro e W' ⟨v, rfl, rfl, hk⟩
  exact ⟨_, rfl, true_post (tb := 4) Tryd.laidOut (by kernel_rfl) rfl rfl Tryd.underlying4 ⟨rfl, rfl, rfl⟩ hW' hk⟩
theorem modelFinds_reach : reachFacts 22 Rows.modelFindsRow = true := by kernel_rfl
theorem modelFinds_plain : plainFacts Tryd.f22 Rows.modelFindsSpec Rows.modelFindsRow = true := by kernel_rfl
theorem modelFinds_facts : joinedFacts Tryd.checked.prog 22 Tryd.f22 Rows.modelFindsSpec Rows.modelFindsRow = true := facts_of rfl rfl modelFinds_reach modelFinds_plain
theorem modelFinds_holds : Rows.ModelFindsSaid :=
  OpenClaim.holds_of_wide 22 Tryd.f22 rfl rfl rfl rfl rfl rfl rfl ⟨rfl, rfl, rfl, rfl, rfl⟩ rfl rfl rfl rfl rfl (by kernel_rfl) Tryd.func22 modelFinds_facts
    (of_decide_eq_true (by kernel_rfl)) (by unfold Func.isWrapper; first | (rw [if_pos (by decide +kernel)]; kernel_rfl) | (rw [if_neg (by decide +kernel)]; exact ⟨rfl, rfl⟩))
    (fun os started H enc _ => modelFinds_lifted os started H enc)
theorem modelFinds_card : Rows.ModelFindsCardSaid :=
  Claim7.holds_tied_plain_at .later [] [.data, .pinned] true (true, "bc9f3cb85745f96992040cc5b31babd500f1ea4e36d299bae426ae28286c4765") false modelFinds_holds (fun _ h => by cases h) (by kernel_rfl) (fun _ h => by cases h) modelFinds_row_tie rfl ⟨rfl, rfl⟩ Tryd.main rfl
    (fun f fn hf hfn => by
      obtain rfl : f = 22 := Option.some.inj ((show Tryd.prog.funcNamed Rows.modelFindsRow.func = some 22 by kernel_rfl).symm.trans hf) |>.symm
      obtain rfl : fn = Tryd.f22 := (Option.some.inj (Tryd.func22.symm.trans hfn)).symm
      exact ⟨Tryd.looksNot, fun j t ht => by
        rw [Tryd.params22] at ht
        have hm : t ∈ [107, 107] := by simpa using Array.mem_of_getElem? ht
        have hall : ([107, 107].all fun u => !Tryd.prog.wantsStandIn u) = true := by kernel_rfl
        exact (show Tryd.prog.wantsStandIn t = false by simpa using List.all_eq_true.1 hall t hm)⟩)
    (by kernel_rfl)
#print axioms modelFinds_holds
#print axioms modelFinds_card
end Go.Proofs.YtbpknjldphckgaaDoor
