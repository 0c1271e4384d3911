/- 25.1: maps are the document's. No condition. -/
import Derived.Test.YtbpknjldphckgaaDoorSc
import Derived.Test.YtbpknjldphckgaaDoorJr
import Derived.Test.YtbpknjldphckgaaDoorJt
namespace Go.Proofs.YtbpknjldphckgaaDoor
open Go Go.SX Go.Proofs Go.ChangeShapes Go.WideShapes Go.ChangeAt Go.ChangeMaps Go.RowKit
set_option maxRecDepth 100000
set_option linter.unusedVariables false

theorem modelMaps_lifted (os : Os) (started : os.Started) (H : Type) (enc : TypeId × Value → H) :
    ReturnsInHanded {} Tryd.checked os 20 .any (fun w args => (Rows.modelMapsSpec.pre enc Tryd.prog Tryd.f20 Rows.modelMapsRow.domain false w args ∧ laidMetH Tryd.prog Rows.modelMapsRow.laid w) ∧ sizedMet enc Tryd.prog Tryd.f20 (OpenSpec.ofChange Rows.modelMapsSpec) false w args) (Rows.modelMapsSpec.post enc Tryd.prog Tryd.f20 false true false false) := by
  refine wrapLS (C := Tryd.checked) (X := fun w _ => laidMetH Tryd.prog laids w) Tryd.own started (by kernel_rfl) Tryd.func20
    (ChangeSpec.witness_shaped (enc := enc) (C := Tryd.checked) (os := os) (X := fun w _ => laidMetH Tryd.prog laids w) false (World.laidAll Tryd.prog os laids) #[.slice none 0 0, .slice none 0 0, .agg #[.string ⟨#[]⟩, .slice none 0 0]] 8 (World.laidAll_os _ _ _) (shaped0 os _) (by kernel_rfl) (by kernel_rfl) (by kernel_rfl) (met0 os _)) ?_
  intro W base args ds gs before hval0 hW hsh
  have hm := ml_shaped hsh
  have hval : ∀ (j : Nat) t v, Tryd.f20.params[j]? = some t → args[j]? = some v → Value.okWide Tryd.prog W .any base t v := hval0
  have hW' := hW
  obtain ⟨p, q, hA0, hV, rfl, hfz, hnd⟩ := hW
  have hA : DataW.TrodAll enc Tryd.prog W 0 (fun _ => true) true Tryd.f20.params.toList args.toList ds p := hA0
  rw [Tryd.params20] at hA hval
  obtain ⟨v0, v1, v2, d0, d1, d2, p0, p1, p2, rfl, rfl, rfl, h0, h1, h2⟩ := trodAll_three hA
  obtain ⟨rfl, rfl⟩ := trodVars_none hV
  obtain ⟨q0, c0, l0, rfl, hq0, hd0, hl0⟩ := open_files (hval 0 105 v0 rfl rfl) h0
  obtain ⟨q1, c1, l1, rfl, hq1, hd1, hl1⟩ := open_files (hval 1 105 v1 rfl rfl) h1
  obtain ⟨x2, rfl, hx2⟩ := open_file (hval 2 107 v2 rfl rfl) h2
  refine Calls.mono (c20 hm (ml_pos hm) hq0 hd0 hl0 hq1 hd1 hl1 x2 hx2) ?_
  rintro e W' ⟨v, rfl, rfl, hk⟩
  exact ⟨_, rfl, true_post (tb := 4) Tryd.laidOut (by kernel_rfl) rfl rfl Tryd.underlying4 ⟨rfl, rfl, rfl⟩ hW' hk⟩
theorem modelMaps_reach : reachFacts 20 Rows.modelMapsRow = true := by kernel_rfl
theorem modelMaps_plain : plainFacts Tryd.f20 Rows.modelMapsSpec Rows.modelMapsRow = true := by kernel_rfl
theorem modelMaps_facts : joinedFacts Tryd.checked.prog 20 Tryd.f20 Rows.modelMapsSpec Rows.modelMapsRow = true := facts_of rfl rfl modelMaps_reach modelMaps_plain
theorem modelMaps_holds : Rows.ModelMapsSaid :=
  OpenClaim.holds_of_wide 20 Tryd.f20 rfl rfl rfl rfl rfl rfl rfl ⟨rfl, rfl, rfl, rfl, rfl⟩ rfl rfl rfl rfl rfl (by kernel_rfl) Tryd.func20 modelMaps_facts
    (of_decide_eq_true (by kernel_rfl)) (by unfold Func.isWrapper; first | (rw [if_pos (by decide +kernel)]; kernel_rfl) | (rw [if_neg (by decide +kernel)]; exact ⟨rfl, rfl⟩))
    (fun os started H enc _ => modelMaps_lifted os started H enc)
theorem modelMaps_card : Rows.ModelMapsCardSaid :=
  Claim7.holds_tied_plain_at .later [] [.data, .pinned] true (true, "bc9f3cb85745f96992040cc5b31babd500f1ea4e36d299bae426ae28286c4765") false modelMaps_holds (fun _ h => by cases h) (by kernel_rfl) (fun _ h => by cases h) modelMaps_row_tie rfl ⟨rfl, rfl⟩ Tryd.main rfl
    (fun f fn hf hfn => by
      obtain rfl : f = 20 := Option.some.inj ((show Tryd.prog.funcNamed Rows.modelMapsRow.func = some 20 by kernel_rfl).symm.trans hf) |>.symm
      obtain rfl : fn = Tryd.f20 := (Option.some.inj (Tryd.func20.symm.trans hfn)).symm
      exact ⟨Tryd.looksNot, fun j t ht => by
        rw [Tryd.params20] at ht
        have hm : t ∈ [105, 105, 107] := by simpa using Array.mem_of_getElem? ht
        have hall : ([105, 105, 107].all fun u => !Tryd.prog.wantsStandIn u) = true := by kernel_rfl
        exact (show Tryd.prog.wantsStandIn t = false by simpa using List.all_eq_true.1 hall t hm)⟩)
    (by kernel_rfl)
#print axioms modelMaps_holds
#print axioms modelMaps_card
end Go.Proofs.YtbpknjldphckgaaDoor
