/- Files by names: what the rows' proofs need of the program. -/
import Derived.Test.YtlgkcbdpaffigaaRe
import Derived.Test.YtlgkcbdpaffigaaDf
namespace Go.Proofs.Ytlgkcbdpaffigaa
open Go Go.SX Go.Proofs Go.ChangeShapes Go.WideShapes Go.ChangeAt Go.ChangeMaps Go.RowKit
set_option maxRecDepth 100000
set_option linter.unusedVariables false
theorem Try.cells108 : Try.prog.cellsOf 108 = 4 := by kernel_rfl
section
variable {H : Type} {enc : TypeId × Value → H} {W : World}
theorem dec_ask : Dec enc Try.prog W 108 askC (fun _ => True) := fun fuel cs x h => by
  obtain ⟨xs, n, _, _, hcl, hxl, hf⟩ := DataW.trod_struct Try.underlying108 h
  rw [Try.cells108] at hcl
  obtain ⟨k, e0, _⟩ := dec_field hf hxl (i := 0) (o := 0) rfl Try.cells3 rfl rfl (dec_int Try.underlying3)
  obtain ⟨a, e1, _⟩ := dec_field hf hxl (i := 1) (o := 1) rfl Try.cells3 rfl rfl (dec_int Try.underlying3)
  obtain ⟨b, e2, _⟩ := dec_field hf hxl (i := 2) (o := 2) rfl Try.cells3 rfl rfl (dec_int Try.underlying3)
  obtain ⟨m, e3, _⟩ := dec_field hf hxl (i := 3) (o := 3) rfl Try.cells9 rfl rfl (dec_str Try.underlying9)
  refine ⟨⟨k, a, b, m⟩, ?_, trivial⟩
  rw [← List.drop_zero (l := cs), e0, e1, e2, e3, dec_end hcl]
  simp [askC, ba_lit]
theorem open_ask {v : Value} {d : DataW H} {ps : List MemPlace} {r : Reach} {b0 : Nat} (hval : Value.okWide Try.prog W r b0 108 v) (h : DataW.Trod enc Try.prog W 0 (fun _ => true) true 108 v d ps) : ∃ x : Askx, v = .agg (askC x).toArray := by
  unfold Value.okWide at hval
  rw [Try.underlying108] at hval
  obtain ⟨cs, rfl, _⟩ := hval
  obtain ⟨fuel, hf⟩ := h
  obtain ⟨b, e, hb⟩ := dec_ask _ _ _ hf
  refine ⟨b, ?_⟩
  have e : cs.toList = askC b := e
  rw [← e]
end
end Go.Proofs.Ytlgkcbdpaffigaa
