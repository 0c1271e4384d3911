/- 20.1: whether a foot may be, and its bytes. No condition. -/
import Derived.Test.YtbpknjldphckgaaDoorRy
import Derived.Test.YtbpknjldphckgaaDoorRw
import Derived.Test.YtbpknjldphckgaaDoorHc
namespace Go.Proofs.YtbpknjldphckgaaDoor
open Go Go.SX Go.Proofs Go.ChangeShapes Go.WideShapes Go.ChangeAt Go.ChangeMaps Go.RowKit
set_option maxRecDepth 100000
set_option linter.unusedVariables false

theorem footPuts_lifted (os : Os) (started : os.Started) (H : Type) (enc : TypeId × Value → H) :
    ReturnsInHanded {} Tryd.checked os 13 .any (fun w args => (Rows.footPutsSpec.pre enc Tryd.prog Tryd.f13 Rows.footPutsRow.domain false w args ∧ laidMetH Tryd.prog Rows.footPutsRow.laid w) ∧ sizedMet enc Tryd.prog Tryd.f13 (OpenSpec.ofChange Rows.footPutsSpec) false w args) (Rows.footPutsSpec.post enc Tryd.prog Tryd.f13 false true false false) := by
  refine wrapLS (C := Tryd.checked) (X := fun w _ => laidMetH Tryd.prog laids w) Tryd.own started (by kernel_rfl) Tryd.func13
    (ChangeSpec.witness_shaped (enc := enc) (C := Tryd.checked) (os := os) (X := fun w _ => laidMetH Tryd.prog laids w) false (World.laidAll Tryd.prog os laids) #[.agg #[.int .i64 0, .int .i64 0, .int .u32 0]] 8 (World.laidAll_os _ _ _) (shaped0 os _) (by kernel_rfl) (by kernel_rfl) (by kernel_rfl) (met0 os _)) ?_
  intro W base args ds gs before hval0 hW hsh
  have hm := ml_shaped hsh
  have hval : ∀ (j : Nat) t v, Tryd.f13.params[j]? = some t → args[j]? = some v → Value.okWide Tryd.prog W .any base t v := hval0
  have hW' := hW
  obtain ⟨p, q, hA0, hV, rfl, hfz, hnd⟩ := hW
  have hA : DataW.TrodAll enc Tryd.prog W 0 (fun _ => true) true Tryd.f13.params.toList args.toList ds p := hA0
  rw [Tryd.params13] at hA hval
  obtain ⟨v0, d0, rfl, rfl, h0⟩ := trodAll_one hA
  obtain ⟨rfl, rfl⟩ := trodVars_none hV
  obtain ⟨n, l, u, rfl, hu⟩ := open_foot (hval 0 68 v0 rfl rfl)
  refine Calls.mono (c13 hm n l u hu) ?_
  rintro e W' ⟨v, rfl, rfl, hk⟩
  exact ⟨_, rfl, true_post (tb := 4) Tryd.laidOut (by kernel_rfl) rfl rfl Tryd.underlying4 ⟨rfl, rfl, rfl⟩ hW' hk⟩
theorem footPuts_reach : reachFacts 13 Rows.footPutsRow = true := by kernel_rfl
theorem footPuts_plain : plainFacts Tryd.f13 Rows.footPutsSpec Rows.footPutsRow = true := by kernel_rfl
theorem footPuts_facts : joinedFacts Tryd.checked.prog 13 Tryd.f13 Rows.footPutsSpec Rows.footPutsRow = true := facts_of rfl rfl footPuts_reach footPuts_plain
theorem footPuts_holds : Rows.FootPutsSaid :=
  OpenClaim.holds_of_wide 13 Tryd.f13 rfl rfl rfl rfl rfl rfl rfl ⟨rfl, rfl, rfl, rfl, rfl⟩ rfl rfl rfl rfl rfl (by kernel_rfl) Tryd.func13 footPuts_facts
    (of_decide_eq_true (by kernel_rfl)) (by unfold Func.isWrapper; first | (rw [if_pos (by decide +kernel)]; kernel_rfl) | (rw [if_neg (by decide +kernel)]; exact ⟨rfl, rfl⟩))
    (fun os started H enc _ => footPuts_lifted os started H enc)
theorem footPuts_card : Rows.FootPutsCardSaid :=
  Claim7.holds_tied_plain_at .later [] [.data, .pinned] true (true, "bc9f3cb85745f96992040cc5b31babd500f1ea4e36d299bae426ae28286c4765") false footPuts_holds (fun _ h => by cases h) (by kernel_rfl) (fun _ h => by cases h) footPuts_row_tie rfl ⟨rfl, rfl⟩ Tryd.main rfl
    (fun f fn hf hfn => by
      obtain rfl : f = 13 := Option.some.inj ((show Tryd.prog.funcNamed Rows.footPutsRow.func = some 13 by kernel_rfl).symm.trans hf) |>.symm
      obtain rfl : fn = Tryd.f13 := (Option.some.inj (Tryd.func13.symm.trans hfn)).symm
      exact ⟨Tryd.looksNot, fun j t ht => by
        rw [Tryd.params13] at ht
        have hm : t ∈ [68] := by simpa using Array.mem_of_getElem? ht
        have hall : ([68].all fun u => !Tryd.prog.wantsStandIn u) = true := by kernel_rfl
        exact (show Tryd.prog.wantsStandIn t = false by simpa using List.all_eq_true.1 hall t hm)⟩)
    (by kernel_rfl)
#print axioms footPuts_holds
#print axioms footPuts_card
end Go.Proofs.YtbpknjldphckgaaDoor
