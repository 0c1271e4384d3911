/- 24.4: a member that is put is got, and no other one is changed; dropped, it is gone; names rise. No condition. -/
import Derived.Test.YtbpknjldphckgaaDoorSc
import Derived.Test.YtbpknjldphckgaaDoorSd
import Derived.Test.YtbpknjldphckgaaDoorIk
namespace Go.Proofs.YtbpknjldphckgaaDoor
open Go Go.SX Go.Proofs Go.ChangeShapes Go.WideShapes Go.ChangeAt Go.ChangeMaps Go.RowKit
set_option maxRecDepth 100000
set_option linter.unusedVariables false

theorem indexKeeps_lifted (os : Os) (started : os.Started) (H : Type) (enc : TypeId × Value → H) :
    ReturnsInHanded {} Tryd.checked os 17 .any (fun w args => (Rows.indexKeepsSpec.pre enc Tryd.prog Tryd.f17 Rows.indexKeepsRow.domain false w args ∧ laidMetH Tryd.prog Rows.indexKeepsRow.laid w) ∧ sizedMet enc Tryd.prog Tryd.f17 (OpenSpec.ofChange Rows.indexKeepsSpec) false w args) (Rows.indexKeepsSpec.post enc Tryd.prog Tryd.f17 false true false false) := by
  refine wrapLS (C := Tryd.checked) (X := fun w _ => laidMetH Tryd.prog laids w) Tryd.own started (by kernel_rfl) Tryd.func17
    (ChangeSpec.witness_shaped (enc := enc) (C := Tryd.checked) (os := os) (X := fun w _ => laidMetH Tryd.prog laids w) false (World.laidAll Tryd.prog os laids) #[.slice none 0 0, .agg #[.string ⟨#[]⟩, .int .i64 0, .int .i64 0, .int .i64 0, .int .i64 0, .int .u32 0, .int .i64 0], .string ⟨#[]⟩] 8 (World.laidAll_os _ _ _) (shaped0 os _) (by kernel_rfl) (by kernel_rfl) (by kernel_rfl) (met0 os _)) ?_
  intro W base args ds gs before hval0 hW hsh
  have hm := ml_shaped hsh
  have hval : ∀ (j : Nat) t v, Tryd.f17.params[j]? = some t → args[j]? = some v → Value.okWide Tryd.prog W .any base t v := hval0
  have hW' := hW
  obtain ⟨p, q, hA0, hV, rfl, hfz, hnd⟩ := hW
  have hA : DataW.TrodAll enc Tryd.prog W 0 (fun _ => true) true Tryd.f17.params.toList args.toList ds p := hA0
  rw [Tryd.params17] at hA hval
  obtain ⟨v0, v1, v2, d0, d1, d2, p0, p1, p2, rfl, rfl, rfl, h0, h1, h2⟩ := trodAll_three hA
  obtain ⟨rfl, rfl⟩ := trodVars_none hV
  obtain ⟨q0, c0, l0, rfl, hb0, hw0⟩ := open_members (hval 0 42 v0 rfl rfl) h0
  obtain ⟨m1, rfl, hm1⟩ := open_member (hval 1 50 v1 rfl rfl) h1
  obtain ⟨t2, rfl⟩ := open_strL (hval 2 9 v2 rfl rfl) h2
  refine Calls.mono (c17 hm (ml_pos hm) hb0 m1 t2) ?_
  rintro e W' ⟨v, rfl, rfl, hk⟩
  exact ⟨_, rfl, true_post (tb := 4) Tryd.laidOut (by kernel_rfl) rfl rfl Tryd.underlying4 ⟨rfl, rfl, rfl⟩ hW' hk⟩
theorem indexKeeps_reach : reachFacts 17 Rows.indexKeepsRow = true := by kernel_rfl
theorem indexKeeps_plain : plainFacts Tryd.f17 Rows.indexKeepsSpec Rows.indexKeepsRow = true := by kernel_rfl
theorem indexKeeps_facts : joinedFacts Tryd.checked.prog 17 Tryd.f17 Rows.indexKeepsSpec Rows.indexKeepsRow = true := facts_of rfl rfl indexKeeps_reach indexKeeps_plain
theorem indexKeeps_holds : Rows.IndexKeepsSaid :=
  OpenClaim.holds_of_wide 17 Tryd.f17 rfl rfl rfl rfl rfl rfl rfl ⟨rfl, rfl, rfl, rfl, rfl⟩ rfl rfl rfl rfl rfl (by kernel_rfl) Tryd.func17 indexKeeps_facts
    (of_decide_eq_true (by kernel_rfl)) (by unfold Func.isWrapper; first | (rw [if_pos (by decide +kernel)]; kernel_rfl) | (rw [if_neg (by decide +kernel)]; exact ⟨rfl, rfl⟩))
    (fun os started H enc _ => indexKeeps_lifted os started H enc)
theorem indexKeeps_card : Rows.IndexKeepsCardSaid :=
  Claim7.holds_tied_plain_at .later [] [.data, .pinned] true (true, "bc9f3cb85745f96992040cc5b31babd500f1ea4e36d299bae426ae28286c4765") false indexKeeps_holds (fun _ h => by cases h) (by kernel_rfl) (fun _ h => by cases h) indexKeeps_row_tie rfl ⟨rfl, rfl⟩ Tryd.main rfl
    (fun f fn hf hfn => by
      obtain rfl : f = 17 := Option.some.inj ((show Tryd.prog.funcNamed Rows.indexKeepsRow.func = some 17 by kernel_rfl).symm.trans hf) |>.symm
      obtain rfl : fn = Tryd.f17 := (Option.some.inj (Tryd.func17.symm.trans hfn)).symm
      exact ⟨Tryd.looksNot, fun j t ht => by
        rw [Tryd.params17] at ht
        have hm : t ∈ [42, 50, 9] := by simpa using Array.mem_of_getElem? ht
        have hall : ([42, 50, 9].all fun u => !Tryd.prog.wantsStandIn u) = true := by kernel_rfl
        exact (show Tryd.prog.wantsStandIn t = false by simpa using List.all_eq_true.1 hall t hm)⟩)
    (by kernel_rfl)
#print axioms indexKeeps_holds
#print axioms indexKeeps_card
end Go.Proofs.YtbpknjldphckgaaDoor
