/- 24.1, 24.2: what an index answers is the document's. No condition. -/
import Derived.Test.YtbpknjldphckgaaDoorSc
import Derived.Test.YtbpknjldphckgaaDoorSd
namespace Go.Proofs.YtbpknjldphckgaaDoor
open Go Go.SX Go.Proofs Go.ChangeShapes Go.WideShapes Go.ChangeAt Go.ChangeMaps Go.RowKit
set_option maxRecDepth 100000
set_option linter.unusedVariables false

theorem indexPlays_lifted (os : Os) (started : os.Started) (H : Type) (enc : TypeId × Value → H) :
    ReturnsInHanded {} Tryd.checked os 16 .any (fun w args => (Rows.indexPlaysSpec.pre enc Tryd.prog Tryd.f16 Rows.indexPlaysRow.domain false w args ∧ laidMetH Tryd.prog Rows.indexPlaysRow.laid w) ∧ sizedMet enc Tryd.prog Tryd.f16 (OpenSpec.ofChange Rows.indexPlaysSpec) false w args) (Rows.indexPlaysSpec.post enc Tryd.prog Tryd.f16 false true false false) := by
  refine wrapLS (C := Tryd.checked) (X := fun w _ => laidMetH Tryd.prog laids w) Tryd.own started (by kernel_rfl) Tryd.func16
    (ChangeSpec.witness_shaped (enc := enc) (C := Tryd.checked) (os := os) (X := fun w _ => laidMetH Tryd.prog laids w) false (World.laidAll Tryd.prog os laids) #[.slice none 0 0, .slice none 0 0] 8 (World.laidAll_os _ _ _) (shaped0 os _) (by kernel_rfl) (by kernel_rfl) (by kernel_rfl) (met0 os _)) ?_
  intro W base args ds gs before hval0 hW hsh
  have hm := ml_shaped hsh
  have hval : ∀ (j : Nat) t v, Tryd.f16.params[j]? = some t → args[j]? = some v → Value.okWide Tryd.prog W .any base t v := hval0
  have hW' := hW
  obtain ⟨p, q, hA0, hV, rfl, hfz, hnd⟩ := hW
  have hA : DataW.TrodAll enc Tryd.prog W 0 (fun _ => true) true Tryd.f16.params.toList args.toList ds p := hA0
  rw [Tryd.params16] at hA hval
  obtain ⟨v0, v1, d0, d1, p0, p1, rfl, rfl, rfl, h0, h1⟩ := trodAll_two hA
  obtain ⟨rfl, rfl⟩ := trodVars_none hV
  obtain ⟨q0, c0, l0, rfl, hb0, hw0⟩ := open_members (hval 0 42 v0 rfl rfl) h0
  obtain ⟨q1, c1, l1, rfl, hb1, hw1⟩ := open_ops (hval 1 79 v1 rfl rfl) h1
  refine Calls.mono (c16 hm (ml_pos hm) hb0 hw0 hb1 hw1) ?_
  rintro e W' ⟨v, rfl, rfl, hk⟩
  exact ⟨_, rfl, true_post (tb := 4) Tryd.laidOut (by kernel_rfl) rfl rfl Tryd.underlying4 ⟨rfl, rfl, rfl⟩ hW' hk⟩
theorem indexPlays_reach : reachFacts 16 Rows.indexPlaysRow = true := by kernel_rfl
theorem indexPlays_plain : plainFacts Tryd.f16 Rows.indexPlaysSpec Rows.indexPlaysRow = true := by kernel_rfl
theorem indexPlays_facts : joinedFacts Tryd.checked.prog 16 Tryd.f16 Rows.indexPlaysSpec Rows.indexPlaysRow = true := facts_of rfl rfl indexPlays_reach indexPlays_plain
theorem indexPlays_holds : Rows.IndexPlaysSaid :=
  OpenClaim.holds_of_wide 16 Tryd.f16 rfl rfl rfl rfl rfl rfl rfl ⟨rfl, rfl, rfl, rfl, rfl⟩ rfl rfl rfl rfl rfl (by kernel_rfl) Tryd.func16 indexPlays_facts
    (of_decide_eq_true (by kernel_rfl)) (by unfold Func.isWrapper; first | (rw [if_pos (by decide +kernel)]; kernel_rfl) | (rw [if_neg (by decide +kernel)]; exact ⟨rfl, rfl⟩))
    (fun os started H enc _ => indexPlays_lifted os started H enc)
theorem indexPlays_card : Rows.IndexPlaysCardSaid :=
  Claim7.holds_tied_plain_at .later [] [.data, .pinned] true (true, "bc9f3cb85745f96992040cc5b31babd500f1ea4e36d299bae426ae28286c4765") false indexPlays_holds (fun _ h => by cases h) (by kernel_rfl) (fun _ h => by cases h) indexPlays_row_tie rfl ⟨rfl, rfl⟩ Tryd.main rfl
    (fun f fn hf hfn => by
      obtain rfl : f = 16 := Option.some.inj ((show Tryd.prog.funcNamed Rows.indexPlaysRow.func = some 16 by kernel_rfl).symm.trans hf) |>.symm
      obtain rfl : fn = Tryd.f16 := (Option.some.inj (Tryd.func16.symm.trans hfn)).symm
      exact ⟨Tryd.looksNot, fun j t ht => by
        rw [Tryd.params16] at ht
        have hm : t ∈ [42, 79] := by simpa using Array.mem_of_getElem? ht
        have hall : ([42, 79].all fun u => !Tryd.prog.wantsStandIn u) = true := by kernel_rfl
        exact (show Tryd.prog.wantsStandIn t = false by simpa using List.all_eq_true.1 hall t hm)⟩)
    (by kernel_rfl)
#print axioms indexPlays_holds
#print axioms indexPlays_card
end Go.Proofs.YtbpknjldphckgaaDoor
