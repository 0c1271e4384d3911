/- 19.2: whether two lists of members are alike. No condition. -/
import Derived.Test.YtbpknjldphckgaaDoorRy
import Derived.Test.YtbpknjldphckgaaDoorRv
namespace Go.Proofs.YtbpknjldphckgaaDoor
open Go Go.SX Go.Proofs Go.ChangeShapes Go.WideShapes Go.ChangeAt Go.ChangeMaps Go.RowKit
set_option maxRecDepth 100000
set_option linter.unusedVariables false

theorem entrySames_lifted (os : Os) (started : os.Started) (H : Type) (enc : TypeId × Value → H) :
    ReturnsInHanded {} Tryd.checked os 6 .any (fun w args => (Rows.entrySamesSpec.pre enc Tryd.prog Tryd.f6 Rows.entrySamesRow.domain false w args ∧ laidMetH Tryd.prog Rows.entrySamesRow.laid w) ∧ sizedMet enc Tryd.prog Tryd.f6 (OpenSpec.ofChange Rows.entrySamesSpec) false w args) (Rows.entrySamesSpec.post enc Tryd.prog Tryd.f6 false true false false) := by
  refine wrapLS (C := Tryd.checked) (X := fun w _ => laidMetH Tryd.prog laids w) Tryd.own started (by kernel_rfl) Tryd.func6
    (ChangeSpec.witness_shaped (enc := enc) (C := Tryd.checked) (os := os) (X := fun w _ => laidMetH Tryd.prog laids w) false (World.laidAll Tryd.prog os laids) #[.slice none 0 0, .slice none 0 0] 8 (World.laidAll_os _ _ _) (shaped0 os _) (by kernel_rfl) (by kernel_rfl) (by kernel_rfl) (met0 os _)) ?_
  intro W base args ds gs before hval0 hW hsh
  have hm := ml_shaped hsh
  have hval : ∀ (j : Nat) t v, Tryd.f6.params[j]? = some t → args[j]? = some v → Value.okWide Tryd.prog W .any base t v := hval0
  have hW' := hW
  obtain ⟨p, q, hA0, hV, rfl, hfz, hnd⟩ := hW
  have hA : DataW.TrodAll enc Tryd.prog W 0 (fun _ => true) true Tryd.f6.params.toList args.toList ds p := hA0
  rw [Tryd.params6] at hA hval
  obtain ⟨v0, v1, d0, d1, p0, p1, rfl, rfl, rfl, h0, h1⟩ := trodAll_two hA
  obtain ⟨rfl, rfl⟩ := trodVars_none hV
  obtain ⟨q0, c0, l0, rfl, hc0, hx0, hb0, hw0⟩ := open_members (hval 0 42 v0 rfl rfl) h0
  obtain ⟨q1, c1, l1, rfl, hc1, hx1, hb1, hw1⟩ := open_members (hval 1 42 v1 rfl rfl) h1
  refine Calls.mono (c6 hm hb0 hb1) ?_
  rintro e W' ⟨v, rfl, rfl, hk⟩
  exact ⟨_, rfl, true_post (tb := 4) Tryd.laidOut (by kernel_rfl) rfl rfl Tryd.underlying4 ⟨rfl, rfl, rfl⟩ hW' hk⟩
theorem entrySames_reach : reachFacts 6 Rows.entrySamesRow = true := by kernel_rfl
theorem entrySames_plain : plainFacts Tryd.f6 Rows.entrySamesSpec Rows.entrySamesRow = true := by kernel_rfl
theorem entrySames_facts : joinedFacts Tryd.checked.prog 6 Tryd.f6 Rows.entrySamesSpec Rows.entrySamesRow = true := facts_of rfl rfl entrySames_reach entrySames_plain
theorem entrySames_holds : Rows.EntrySamesSaid :=
  OpenClaim.holds_of_wide 6 Tryd.f6 rfl rfl rfl rfl rfl rfl rfl ⟨rfl, rfl, rfl, rfl, rfl⟩ rfl rfl rfl rfl rfl (by kernel_rfl) Tryd.func6 entrySames_facts
    (of_decide_eq_true (by kernel_rfl)) (by unfold Func.isWrapper; first | (rw [if_pos (by decide +kernel)]; kernel_rfl) | (rw [if_neg (by decide +kernel)]; exact ⟨rfl, rfl⟩))
    (fun os started H enc _ => entrySames_lifted os started H enc)
theorem entrySames_card : Rows.EntrySamesCardSaid :=
  Claim7.holds_tied_plain_at .later [] [.data, .pinned] true (true, "bc9f3cb85745f96992040cc5b31babd500f1ea4e36d299bae426ae28286c4765") false entrySames_holds (fun _ h => by cases h) (by kernel_rfl) (fun _ h => by cases h) entrySames_row_tie rfl ⟨rfl, rfl⟩ Tryd.main rfl
    (fun f fn hf hfn => by
      obtain rfl : f = 6 := Option.some.inj ((show Tryd.prog.funcNamed Rows.entrySamesRow.func = some 6 by kernel_rfl).symm.trans hf) |>.symm
      obtain rfl : fn = Tryd.f6 := (Option.some.inj (Tryd.func6.symm.trans hfn)).symm
      exact ⟨Tryd.looksNot, fun j t ht => by
        rw [Tryd.params6] at ht
        have hm : t ∈ [42, 42] := by simpa using Array.mem_of_getElem? ht
        have hall : ([42, 42].all fun u => !Tryd.prog.wantsStandIn u) = true := by kernel_rfl
        exact (show Tryd.prog.wantsStandIn t = false by simpa using List.all_eq_true.1 hall t hm)⟩)
    (by kernel_rfl)
#print axioms entrySames_holds
#print axioms entrySames_card
end Go.Proofs.YtbpknjldphckgaaDoor
