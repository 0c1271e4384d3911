/- 24.3: the members of any folder are told in order, as they were when that was asked for. No condition. -/
import Derived.Test.YtbpknjldphckgaaDoorSc
import Derived.Test.YtbpknjldphckgaaDoorSd
import Derived.Test.YtbpknjldphckgaaDoorIl
namespace Go.Proofs.YtbpknjldphckgaaDoor
open Go Go.SX Go.Proofs Go.ChangeShapes Go.WideShapes Go.ChangeAt Go.ChangeMaps Go.RowKit
set_option maxRecDepth 100000
set_option linter.unusedVariables false

theorem indexEach_lifted (os : Os) (started : os.Started) (H : Type) (enc : TypeId × Value → H) :
    ReturnsInHanded {} Tryd.checked os 18 .any (fun w args => (Rows.indexEachSpec.pre enc Tryd.prog Tryd.f18 Rows.indexEachRow.domain false w args ∧ laidMetH Tryd.prog Rows.indexEachRow.laid w) ∧ sizedMet enc Tryd.prog Tryd.f18 (OpenSpec.ofChange Rows.indexEachSpec) false w args) (Rows.indexEachSpec.post enc Tryd.prog Tryd.f18 false true false false) := by
  refine wrapLS (C := Tryd.checked) (X := fun w _ => laidMetH Tryd.prog laids w) Tryd.own started (by kernel_rfl) Tryd.func18
    (ChangeSpec.witness_shaped (enc := enc) (C := Tryd.checked) (os := os) (X := fun w _ => laidMetH Tryd.prog laids w) false (World.laidAll Tryd.prog os laids) #[.slice none 0 0, .agg #[.string ⟨#[]⟩, .int .i64 0, .int .i64 0, .string ⟨#[]⟩, .int .i64 0, .int .i64 0, .int .i64 0, .int .i64 0, .int .u32 0, .int .i64 0, .string ⟨#[]⟩]] 8 (World.laidAll_os _ _ _) (shaped0 os _) (by kernel_rfl) (by kernel_rfl) (by kernel_rfl) (met0 os _)) ?_
  intro W base args ds gs before hval0 hW hsh
  have hm := ml_shaped hsh
  have hval : ∀ (j : Nat) t v, Tryd.f18.params[j]? = some t → args[j]? = some v → Value.okWide Tryd.prog W .any base t v := hval0
  have hW' := hW
  obtain ⟨p, q, hA0, hV, rfl, hfz, hnd⟩ := hW
  have hA : DataW.TrodAll enc Tryd.prog W 0 (fun _ => true) true Tryd.f18.params.toList args.toList ds p := hA0
  rw [Tryd.params18] at hA hval
  obtain ⟨v0, v1, d0, d1, p0, p1, rfl, rfl, rfl, h0, h1⟩ := trodAll_two hA
  obtain ⟨rfl, rfl⟩ := trodVars_none hV
  obtain ⟨q0, c0, l0, rfl, hb0, hw0⟩ := open_members (hval 0 42 v0 rfl rfl) h0
  obtain ⟨f1, ti1, o1, rfl, ho1⟩ := open_look (hval 1 95 v1 rfl rfl) h1
  refine Calls.mono (c18 hm (ml_pos hm) hb0 hw0 f1 ti1 o1 ho1) ?_
  rintro e W' ⟨v, rfl, rfl, hk⟩
  exact ⟨_, rfl, true_post (tb := 4) Tryd.laidOut (by kernel_rfl) rfl rfl Tryd.underlying4 ⟨rfl, rfl, rfl⟩ hW' hk⟩
theorem indexEach_reach : reachFacts 18 Rows.indexEachRow = true := by kernel_rfl
theorem indexEach_plain : plainFacts Tryd.f18 Rows.indexEachSpec Rows.indexEachRow = true := by kernel_rfl
theorem indexEach_facts : joinedFacts Tryd.checked.prog 18 Tryd.f18 Rows.indexEachSpec Rows.indexEachRow = true := facts_of rfl rfl indexEach_reach indexEach_plain
theorem indexEach_holds : Rows.IndexEachSaid :=
  OpenClaim.holds_of_wide 18 Tryd.f18 rfl rfl rfl rfl rfl rfl rfl ⟨rfl, rfl, rfl, rfl, rfl⟩ rfl rfl rfl rfl rfl (by kernel_rfl) Tryd.func18 indexEach_facts
    (of_decide_eq_true (by kernel_rfl)) (by unfold Func.isWrapper; first | (rw [if_pos (by decide +kernel)]; kernel_rfl) | (rw [if_neg (by decide +kernel)]; exact ⟨rfl, rfl⟩))
    (fun os started H enc _ => indexEach_lifted os started H enc)
theorem indexEach_card : Rows.IndexEachCardSaid :=
  Claim7.holds_tied_plain_at .later [] [.data, .pinned] true (true, "bc9f3cb85745f96992040cc5b31babd500f1ea4e36d299bae426ae28286c4765") false indexEach_holds (fun _ h => by cases h) (by kernel_rfl) (fun _ h => by cases h) indexEach_row_tie rfl ⟨rfl, rfl⟩ Tryd.main rfl
    (fun f fn hf hfn => by
      obtain rfl : f = 18 := Option.some.inj ((show Tryd.prog.funcNamed Rows.indexEachRow.func = some 18 by kernel_rfl).symm.trans hf) |>.symm
      obtain rfl : fn = Tryd.f18 := (Option.some.inj (Tryd.func18.symm.trans hfn)).symm
      exact ⟨Tryd.looksNot, fun j t ht => by
        rw [Tryd.params18] at ht
        have hm : t ∈ [42, 95] := by simpa using Array.mem_of_getElem? ht
        have hall : ([42, 95].all fun u => !Tryd.prog.wantsStandIn u) = true := by kernel_rfl
        exact (show Tryd.prog.wantsStandIn t = false by simpa using List.all_eq_true.1 hall t hm)⟩)
    (by kernel_rfl)
#print axioms indexEach_holds
#print axioms indexEach_card
end Go.Proofs.YtbpknjldphckgaaDoor
