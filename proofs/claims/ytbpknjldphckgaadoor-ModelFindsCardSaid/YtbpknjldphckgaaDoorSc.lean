/- The facts of a row, in parts. -/
import Derived.Test.YtbpknjldphckgaaDoorSb
namespace Go.Proofs.YtbpknjldphckgaaDoor
open Go
set_option maxRecDepth 100000
theorem Tryd.looksNot : false = Tryd.pinned.checked.prog.looks [] := by kernel_rfl
/-- A row's facts: what its function reaches. -/
noncomputable def reachFacts (f : FuncId) (c : OpenClaim) : Bool :=
  (c.inPlace == Tryd.prog.inPlace f) && (c.unfollowed == Tryd.prog.unfollowed f) && (c.recurses == Tryd.prog.recurses f) && (c.named == Tryd.prog.varsNamed f)
/-- A row's facts: the others, but for those that are the same in all rows. -/
noncomputable def plainFacts (fn : Func) (s : ChangeSpec) (c : OpenClaim) : Bool :=
  c.wf (OpenSpec.ofChange s) && laidOutB Tryd.prog && mapsRowed Tryd.prog &&
  fn.params.all (Tryd.prog.readableRec ·) && namedTie Tryd.prog c.named s.vars &&
  (c.stops == []) && (Tryd.prog.stops == []) && (c.knobs == []) && (Tryd.prog.stopKnobs == []) &&
  (c.maps == (fn.params.toList ++ s.plain.varTypes Tryd.prog).any (Tryd.prog.mapsRec ·)) && (c.ifaces == (fn.params.toList ++ s.plain.varTypes Tryd.prog).any (Tryd.prog.ifacesRec ·)) && (c.mapsOut == Tryd.prog.mapsAmong fn.resultTypes.toList) &&
  (c.loops == (fn.params.toList ++ s.plain.varTypes Tryd.prog).any (Tryd.prog.loopsFrom ·)) && (c.wideKeys == (fn.params.toList ++ s.plain.varTypes Tryd.prog ++ fn.resultTypes.toList).any (Tryd.prog.wideKeysFrom ·)) &&
  s.vars.all (Tryd.prog.varReadable ·) && fn.resultTypes.all (fun t => Tryd.prog.readableRec t && decide (t < Tryd.prog.types.size)) && (c.ifacesOut == fn.resultTypes.toList.any (Tryd.prog.ifacesRec ·)) && (c.loopsOut == fn.resultTypes.toList.any (Tryd.prog.loopsFrom ·)) && (c.plainKeys == Tryd.prog.plainKeys) && c.shortTexts.isNone && Tryd.prog.stopsHeard && (c.kinds == (if c.domain.isEmpty then [] else fn.params.toList.map fun t => match Tryd.prog.underlying t with | some (.int k) => some k | _ => none)) && (c.pinned == c.pinnedBy) &&
  (c.veiled == (fn.params.toList ++ s.plain.varTypes Tryd.prog ++ fn.resultTypes.toList).any (Tryd.prog.veiledRec ·)) && c.veiledFits Tryd.prog fn.params.toList (fn.params.toList ++ s.plain.varTypes Tryd.prog ++ fn.resultTypes.toList)
theorem facts_of {f : FuncId} {fn : Func} {s : ChangeSpec} {c : OpenClaim} (hl : c.lifted = Rows.stonePutsRow.lifted) (hm : c.make = Make.cut) (h1 : reachFacts f c = true) (h2 : plainFacts fn s c = true) : joinedFacts Tryd.checked.prog f fn s c = true := by
  show joinedFacts Tryd.prog f fn s c = true
  have e1 := Tryd.enters
  have e2 : (c.lifted == Tryd.prog.liftsFinal) = true := by rw [hl, Tryd.lifts]; exact beq_self_eq_true _
  have e3 : (Tryd.prog.make == some c.make) = true := by
    rw [Tryd.makes, hm]
    show (some Make.cut == some Make.cut) = true
    decide
  simp only [reachFacts, plainFacts, Bool.and_eq_true] at h1 h2
  generalize Tryd.prog = P at *
  unfold joinedFacts
  simp only [Bool.and_eq_true]
  obtain ⟨⟨⟨k10, k11⟩, k12⟩, k13⟩ := h1
  obtain ⟨⟨⟨⟨⟨⟨⟨⟨⟨⟨⟨⟨⟨⟨⟨⟨⟨⟨⟨⟨⟨⟨⟨⟨k1, k2⟩, k3⟩, k4⟩, k5⟩, k6⟩, k7⟩, k8⟩, k9⟩, k14⟩, k15⟩, k16⟩, k17⟩, k18⟩, k19⟩, k20⟩, k21⟩, k22⟩, k23⟩, k24⟩, k25⟩, k29⟩, k30⟩, k31⟩, k32⟩ := h2
  exact ⟨⟨⟨⟨⟨⟨⟨⟨⟨⟨⟨⟨⟨⟨⟨⟨⟨⟨⟨⟨⟨⟨⟨⟨⟨⟨⟨⟨⟨⟨⟨k1, k2⟩, k3⟩, k4⟩, k5⟩, k6⟩, k7⟩, k8⟩, k9⟩, k10⟩, k11⟩, k12⟩, k13⟩, k14⟩, k15⟩, k16⟩, k17⟩, k18⟩, k19⟩, k20⟩, k21⟩, k22⟩, k23⟩, k24⟩, k25⟩, e1⟩, e2⟩, e3⟩, k29⟩, k30⟩, k31⟩, k32⟩
theorem wf_u32 {x : Int} (h : (Lit.int .u32 x).wf = true) : 0 ≤ x ∧ x < 4294967296 := by
  simp [Lit.wf, IntKind.min, IntKind.max, IntKind.signed, IntKind.bits] at h
  omega
end Go.Proofs.YtbpknjldphckgaaDoor
