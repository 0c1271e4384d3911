/- 16.3: what is put is taken; what is taken is put as it was. No condition. -/
import Derived.Test.YtbpknjldphckgaaDoorRy
import Derived.Test.YtbpknjldphckgaaDoorRw
import Derived.Test.YtbpknjldphckgaaDoorQs
namespace Go.Proofs.YtbpknjldphckgaaDoor
open Go Go.SX Go.Proofs Go.ChangeShapes Go.WideShapes Go.ChangeAt Go.ChangeMaps Go.RowKit
set_option maxRecDepth 100000
set_option linter.unusedVariables false

theorem localBack_lifted (os : Os) (started : os.Started) (H : Type) (enc : TypeId × Value → H) :
    ReturnsInHanded {} Tryd.checked os 10 .any (fun w args => (Rows.localBackSpec.pre enc Tryd.prog Tryd.f10 Rows.localBackRow.domain false w args ∧ laidMetH Tryd.prog Rows.localBackRow.laid w) ∧ sizedMet enc Tryd.prog Tryd.f10 (OpenSpec.ofChange Rows.localBackSpec) false w args) (Rows.localBackSpec.post enc Tryd.prog Tryd.f10 false true false false) := by
  refine wrapLS (C := Tryd.checked) (X := fun w _ => laidMetH Tryd.prog laids w) Tryd.own started (by kernel_rfl) Tryd.func10
    (ChangeSpec.witness_shaped (enc := enc) (C := Tryd.checked) (os := os) (X := fun w _ => laidMetH Tryd.prog laids w) false (World.laidAll Tryd.prog os laids) #[.agg #[.int .i64 0, .string ⟨#[]⟩, .int .i64 0, .int .i64 0, .int .u32 0], .slice none 0 0, .slice none 0 0] 8 (World.laidAll_os _ _ _) (shaped0 os _) (by kernel_rfl) (by kernel_rfl) (by kernel_rfl) (met0 os _)) ?_
  intro W base args ds gs before hval0 hW hsh
  have hm := ml_shaped hsh
  have hval : ∀ (j : Nat) t v, Tryd.f10.params[j]? = some t → args[j]? = some v → Value.okWide Tryd.prog W .any base t v := hval0
  have hW' := hW
  obtain ⟨p, q, hA0, hV, rfl, hfz, hnd⟩ := hW
  have hA : DataW.TrodAll enc Tryd.prog W 0 (fun _ => true) true Tryd.f10.params.toList args.toList ds p := hA0
  rw [Tryd.params10] at hA hval
  obtain ⟨v0, v1, v2, d0, d1, d2, p0, p1, p2, rfl, rfl, rfl, h0, h1, h2⟩ := trodAll_three hA
  obtain ⟨rfl, rfl⟩ := trodVars_none hV
  obtain ⟨m, s, z, a, u, rfl, hu⟩ := open_head (hval 0 54 v0 rfl rfl)
  obtain ⟨q1, c1, l1, rfl, hc1, hx1, hb1⟩ := open_bytes Tryd.underlying27 Tryd.underlying5 Tryd.cells5 (hval 1 27 v1 rfl rfl) h1
  obtain ⟨q2, c2, l2, rfl, hc2, hx2, hb2⟩ := open_bytes Tryd.underlying27 Tryd.underlying5 Tryd.cells5 (hval 2 27 v2 rfl rfl) h2
  refine Calls.mono (c10 hm m s z a u hu hb1 hb2 hc1 hc2) ?_
  rintro e W' ⟨v, rfl, rfl, hk⟩
  exact ⟨_, rfl, true_post (tb := 4) Tryd.laidOut (by kernel_rfl) rfl rfl Tryd.underlying4 ⟨rfl, rfl, rfl⟩ hW' hk⟩
theorem localBack_reach : reachFacts 10 Rows.localBackRow = true := by kernel_rfl
theorem localBack_plain : plainFacts Tryd.f10 Rows.localBackSpec Rows.localBackRow = true := by kernel_rfl
theorem localBack_facts : joinedFacts Tryd.checked.prog 10 Tryd.f10 Rows.localBackSpec Rows.localBackRow = true := facts_of rfl rfl localBack_reach localBack_plain
theorem localBack_holds : Rows.LocalBackSaid :=
  OpenClaim.holds_of_wide 10 Tryd.f10 rfl rfl rfl rfl rfl rfl rfl ⟨rfl, rfl, rfl, rfl, rfl⟩ rfl rfl rfl rfl rfl (by kernel_rfl) Tryd.func10 localBack_facts
    (of_decide_eq_true (by kernel_rfl)) (by unfold Func.isWrapper; first | (rw [if_pos (by decide +kernel)]; kernel_rfl) | (rw [if_neg (by decide +kernel)]; exact ⟨rfl, rfl⟩))
    (fun os started H enc _ => localBack_lifted os started H enc)
theorem localBack_card : Rows.LocalBackCardSaid :=
  Claim7.holds_tied_plain_at .later [] [.data, .pinned] true (true, "bc9f3cb85745f96992040cc5b31babd500f1ea4e36d299bae426ae28286c4765") false localBack_holds (fun _ h => by cases h) (by kernel_rfl) (fun _ h => by cases h) localBack_row_tie rfl ⟨rfl, rfl⟩ Tryd.main rfl
    (fun f fn hf hfn => by
      obtain rfl : f = 10 := Option.some.inj ((show Tryd.prog.funcNamed Rows.localBackRow.func = some 10 by kernel_rfl).symm.trans hf) |>.symm
      obtain rfl : fn = Tryd.f10 := (Option.some.inj (Tryd.func10.symm.trans hfn)).symm
      exact ⟨Tryd.looksNot, fun j t ht => by
        rw [Tryd.params10] at ht
        have hm : t ∈ [54, 27, 27] := by simpa using Array.mem_of_getElem? ht
        have hall : ([54, 27, 27].all fun u => !Tryd.prog.wantsStandIn u) = true := by kernel_rfl
        exact (show Tryd.prog.wantsStandIn t = false by simpa using List.all_eq_true.1 hall t hm)⟩)
    (by kernel_rfl)
#print axioms localBack_holds
#print axioms localBack_card
end Go.Proofs.YtbpknjldphckgaaDoor
