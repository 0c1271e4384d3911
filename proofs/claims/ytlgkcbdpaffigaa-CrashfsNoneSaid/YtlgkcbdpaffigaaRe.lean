/- Names: what the rows' proofs need of the program. -/
import Derived.Test.YtlgkcbdpaffigaaRows
import Derived.Test.YtlgkcbdpaffigaaCk
import Derived.Test.YtlgkcbdpaffigaaSxDec
import Derived.Test.YtlgkcbdpaffigaaSxOpen
import Derived.ChangeMaps5
namespace Go.Proofs.Ytlgkcbdpaffigaa
open Go Go.SX Go.Proofs Go.ChangeShapes Go.WideShapes Go.ChangeAt Go.ChangeMaps Go.RowKit
set_option maxRecDepth 100000
set_option linter.unusedVariables false
theorem Try.own : ownKnob Try.prog.godebug = none := by kernel_rfl
theorem Try.laidOut : laidOutB Try.prog = true := by kernel_rfl
theorem Try.cells3 : Try.prog.cellsOf 3 = 1 := by kernel_rfl
theorem Try.cells4 : Try.prog.cellsOf 4 = 1 := by kernel_rfl
theorem Try.cells9 : Try.prog.cellsOf 9 = 1 := by kernel_rfl
theorem Try.cells88 : Try.prog.cellsOf 88 = 4 := by kernel_rfl
theorem Try.cells93 : Try.prog.cellsOf 93 = 3 := by kernel_rfl
section
variable {H : Type} {enc : TypeId × Value → H} {W : World}
theorem ba_lit (s : List UInt8) : ba s = ⟨s.toArray⟩ := rfl
theorem dec_opx : Dec enc Try.prog W 88 opC (fun _ => True) := fun fuel cs x h => by
  obtain ⟨xs, n, _, _, hcl, hxl, hf⟩ := DataW.trod_struct Try.underlying88 h
  rw [Try.cells88] at hcl
  obtain ⟨k, e0, _⟩ := dec_field hf hxl (i := 0) (o := 0) rfl Try.cells3 rfl rfl (dec_int Try.underlying3)
  obtain ⟨a, e1, _⟩ := dec_field hf hxl (i := 1) (o := 1) rfl Try.cells9 rfl rfl (dec_str Try.underlying9)
  obtain ⟨b, e2, _⟩ := dec_field hf hxl (i := 2) (o := 2) rfl Try.cells9 rfl rfl (dec_str Try.underlying9)
  obtain ⟨m, e3, _⟩ := dec_field hf hxl (i := 3) (o := 3) rfl Try.cells3 rfl rfl (dec_int Try.underlying3)
  refine ⟨⟨k, a, b, m⟩, ?_, trivial⟩
  rw [← List.drop_zero (l := cs), e0, e1, e2, e3, dec_end hcl]
  simp [opC, ba_lit]
structure Mvx where
  a : List UInt8
  b : List UInt8
  n : Int
def mvxC (x : Mvx) : List Value := [.string (ba x.a), .string (ba x.b), .int .i64 x.n]
theorem dec_mvx : Dec enc Try.prog W 93 mvxC (fun x => (Lit.int .i64 x.n).wf = true) := fun fuel cs x h => by
  obtain ⟨xs, n, _, _, hcl, hxl, hf⟩ := DataW.trod_struct Try.underlying93 h
  rw [Try.cells93] at hcl
  obtain ⟨a, e1, _⟩ := dec_field hf hxl (i := 0) (o := 0) rfl Try.cells9 rfl rfl (dec_str Try.underlying9)
  obtain ⟨b, e2, _⟩ := dec_field hf hxl (i := 1) (o := 1) rfl Try.cells9 rfl rfl (dec_str Try.underlying9)
  obtain ⟨m, e3, w⟩ := dec_field hf hxl (i := 2) (o := 2) rfl Try.cells3 rfl rfl (dec_int Try.underlying3)
  refine ⟨⟨a, b, m⟩, ?_, w⟩
  rw [← List.drop_zero (l := cs), e1, e2, e3, dec_end hcl]
  simp [mvxC, ba_lit]
theorem open_opsx {v : Value} {d : DataW H} {ps : List MemPlace} {r : Reach} {b0 : Nat} (hval : Value.okWide Try.prog W r b0 74 v) (h : DataW.Trod enc Try.prog W 0 (fun _ => true) true 74 v d ps) :
    ∃ (q : Option Addr) (c : Nat) (l : List Opx), v = .slice q l.length c ∧ RowsAt W 4 opC q l := by
  obtain ⟨a0, len, cap, rfl⟩ := okWide_slice Try.underlying74 hval
  obtain ⟨fuel, hf⟩ := h
  obtain ⟨q, c, l, hcs, h1, h2, h3, h4⟩ := dec_rows Try.underlying74 Try.cells88 dec_opx hf
  simp only [Value.cells, List.cons.injEq, and_true] at hcs
  exact ⟨q, c, l, hcs, h3⟩
theorem open_mvx {v : Value} {d : DataW H} {ps : List MemPlace} {r : Reach} {b0 : Nat} (hval : Value.okWide Try.prog W r b0 93 v) (h : DataW.Trod enc Try.prog W 0 (fun _ => true) true 93 v d ps) : ∃ x : Mvx, v = .agg (mvxC x).toArray ∧ (Lit.int .i64 x.n).wf = true := by
  unfold Value.okWide at hval
  rw [Try.underlying93] at hval
  obtain ⟨cs, rfl, _⟩ := hval
  obtain ⟨fuel, hf⟩ := h
  obtain ⟨b, e, hb⟩ := dec_mvx _ _ _ hf
  refine ⟨b, ?_, hb⟩
  have e : cs.toList = mvxC b := e
  rw [← e]
theorem open_strx {v : Value} {d : DataW H} {ps : List MemPlace} {r : Reach} {b0 : Nat} (hval : Value.okWide Try.prog W r b0 9 v) (h : DataW.Trod enc Try.prog W 0 (fun _ => true) true 9 v d ps) : ∃ t : List UInt8, v = .string (ba t) := by
  obtain ⟨s, rfl, _⟩ := open_string Try.underlying9 hval h
  exact ⟨s.data.toList, by rw [ba_of]⟩
end
end Go.Proofs.Ytlgkcbdpaffigaa
