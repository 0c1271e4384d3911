/- 25.2: a model that isn't there takes no answer, and has no state, whatever is asked for. No condition. -/
import Derived.Test.YtbpknjldphckgaaDoorSc
import Derived.Test.YtbpknjldphckgaaDoorJr
import Derived.Test.YtbpknjldphckgaaDoorJq
namespace Go.Proofs.YtbpknjldphckgaaDoor
open Go Go.SX Go.Proofs Go.ChangeShapes Go.WideShapes Go.ChangeAt Go.ChangeMaps Go.RowKit
set_option maxRecDepth 100000
set_option linter.unusedVariables false

theorem modelNone_lifted (os : Os) (started : os.Started) (H : Type) (enc : TypeId × Value → H) :
    ReturnsInHanded {} Tryd.checked os 24 .any (fun w args => (Rows.modelNoneSpec.pre enc Tryd.prog Tryd.f24 Rows.modelNoneRow.domain false w args ∧ laidMetH Tryd.prog Rows.modelNoneRow.laid w) ∧ sizedMet enc Tryd.prog Tryd.f24 (OpenSpec.ofChange Rows.modelNoneSpec) false w args) (Rows.modelNoneSpec.post enc Tryd.prog Tryd.f24 false true false false) := by
  refine wrapLS (C := Tryd.checked) (X := fun w _ => laidMetH Tryd.prog laids w) Tryd.own started (by kernel_rfl) Tryd.func24
    (ChangeSpec.witness_shaped (enc := enc) (C := Tryd.checked) (os := os) (X := fun w _ => laidMetH Tryd.prog laids w) false (World.laidAll Tryd.prog os laids) #[.agg #[.int .i64 0, .string ⟨#[]⟩, .slice none 0 0, .int .i64 0, .slice none 0 0, .int .i64 0, .int .u8 0], .agg #[.int .i64 0, .slice none 0 0, .int .i64 0, .slice none 0 0, .slice none 0 0, .bool false, .bool false], .agg #[.bool false, .slice none 0 0]] 8 (World.laidAll_os _ _ _) (shaped0 os _) (by kernel_rfl) (by kernel_rfl) (by kernel_rfl) (met0 os _)) ?_
  intro W base args ds gs before hval0 hW hsh
  have hm := ml_shaped hsh
  have hval : ∀ (j : Nat) t v, Tryd.f24.params[j]? = some t → args[j]? = some v → Value.okWide Tryd.prog W .any base t v := hval0
  have hW' := hW
  obtain ⟨p, q, hA0, hV, rfl, hfz, hnd⟩ := hW
  have hA : DataW.TrodAll enc Tryd.prog W 0 (fun _ => true) true Tryd.f24.params.toList args.toList ds p := hA0
  rw [Tryd.params24] at hA hval
  obtain ⟨v0, v1, v2, d0, d1, d2, p0, p1, p2, rfl, rfl, rfl, h0, h1, h2⟩ := trodAll_three hA
  obtain ⟨rfl, rfl⟩ := trodVars_none hV
  obtain ⟨o0, rfl, ho0⟩ := open_op (hval 0 124 v0 rfl rfl) h0
  obtain ⟨a1, rfl, ha1⟩ := open_answer (hval 1 126 v1 rfl rfl) h1
  obtain ⟨x2, rfl, hx2⟩ := open_state (hval 2 130 v2 rfl rfl) h2
  refine Calls.mono (c24 hm (ml_pos hm) o0 a1 x2) ?_
  rintro e W' ⟨v, rfl, rfl, hk⟩
  exact ⟨_, rfl, true_post (tb := 4) Tryd.laidOut (by kernel_rfl) rfl rfl Tryd.underlying4 ⟨rfl, rfl, rfl⟩ hW' hk⟩
theorem modelNone_reach : reachFacts 24 Rows.modelNoneRow = true := by kernel_rfl
theorem modelNone_plain : plainFacts Tryd.f24 Rows.modelNoneSpec Rows.modelNoneRow = true := by kernel_rfl
theorem modelNone_facts : joinedFacts Tryd.checked.prog 24 Tryd.f24 Rows.modelNoneSpec Rows.modelNoneRow = true := facts_of rfl rfl modelNone_reach modelNone_plain
theorem modelNone_holds : Rows.ModelNoneSaid :=
  OpenClaim.holds_of_wide 24 Tryd.f24 rfl rfl rfl rfl rfl rfl rfl ⟨rfl, rfl, rfl, rfl, rfl⟩ rfl rfl rfl rfl rfl (by kernel_rfl) Tryd.func24 modelNone_facts
    (of_decide_eq_true (by kernel_rfl)) (by unfold Func.isWrapper; first | (rw [if_pos (by decide +kernel)]; kernel_rfl) | (rw [if_neg (by decide +kernel)]; exact ⟨rfl, rfl⟩))
    (fun os started H enc _ => modelNone_lifted os started H enc)
theorem modelNone_card : Rows.ModelNoneCardSaid :=
  Claim7.holds_tied_plain_at .later [] [.data, .pinned] true (true, "bc9f3cb85745f96992040cc5b31babd500f1ea4e36d299bae426ae28286c4765") false modelNone_holds (fun _ h => by cases h) (by kernel_rfl) (fun _ h => by cases h) modelNone_row_tie rfl ⟨rfl, rfl⟩ Tryd.main rfl
    (fun f fn hf hfn => by
      obtain rfl : f = 24 := Option.some.inj ((show Tryd.prog.funcNamed Rows.modelNoneRow.func = some 24 by kernel_rfl).symm.trans hf) |>.symm
      obtain rfl : fn = Tryd.f24 := (Option.some.inj (Tryd.func24.symm.trans hfn)).symm
      exact ⟨Tryd.looksNot, fun j t ht => by
        rw [Tryd.params24] at ht
        have hm : t ∈ [124, 126, 130] := by simpa using Array.mem_of_getElem? ht
        have hall : ([124, 126, 130].all fun u => !Tryd.prog.wantsStandIn u) = true := by kernel_rfl
        exact (show Tryd.prog.wantsStandIn t = false by simpa using List.all_eq_true.1 hall t hm)⟩)
    (by kernel_rfl)
#print axioms modelNone_holds
#print axioms modelNone_card
end Go.Proofs.YtbpknjldphckgaaDoor
