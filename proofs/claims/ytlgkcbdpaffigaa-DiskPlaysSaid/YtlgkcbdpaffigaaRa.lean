/- What the rows' proofs need of the program. -/
import Derived.Test.YtlgkcbdpaffigaaRows
import Derived.Test.YtlgkcbdpaffigaaBp
import Derived.Test.YtlgkcbdpaffigaaSxOpen
namespace Go.Proofs.Ytlgkcbdpaffigaa
open Go Go.SX Go.Proofs Go.ChangeShapes Go.WideShapes Go.ChangeAt Go.RowKit
set_option maxRecDepth 100000
set_option linter.unusedVariables false
set_option linter.unusedSimpArgs false

theorem Try.own : ownKnob Try.prog.godebug = none := by kernel_rfl
theorem Try.laidOut : laidOutB Try.prog = true := by kernel_rfl
theorem Try.cells3 : Try.prog.cellsOf 3 = 1 := by kernel_rfl
theorem Try.cells4 : Try.prog.cellsOf 4 = 1 := by kernel_rfl
theorem Try.cells5 : Try.prog.cellsOf 5 = 1 := by kernel_rfl
theorem Try.cells25 : Try.prog.cellsOf 25 = 1 := by kernel_rfl
theorem Try.cells31 : Try.prog.cellsOf 31 = 1 := by kernel_rfl
theorem Try.cells39 : Try.prog.cellsOf 39 = 5 := by kernel_rfl
theorem Try.cells49 : Try.prog.cellsOf 49 = 4 := by kernel_rfl
section
variable {H : Type} {enc : TypeId × Value → H} {W : World}
theorem one_of {l : List Value} {j : Nat} {v : Value} (h : (l.drop j).take 1 = [v]) : l[j]? = some v := by
  have h0 := congrArg (fun l => l[0]?) h
  simp only [List.getElem?_take, List.getElem?_drop, Nat.add_zero] at h0
  simpa using h0
theorem op_of_fields {fs : Array Field} {cs : List Value} (hfs : Try.prog.underlying 39 = some (.struct fs)) (h : Fields enc Try.prog W fs cs) : ∃ o : OpD, o.Good W ∧ cs[0]? = some (.int .i64 o.k) ∧ cs[1]? = some (.int .i64 o.x) ∧ cs[2]? = some (.slice o.qb o.nb o.cb) ∧ cs[3]? = some (.slice o.qk o.nk o.ck) ∧ cs[4]? = some (.int .u8 o.fill) := by
  rw [Try.underlying39] at hfs
  cases hfs
  obtain ⟨fuel, h⟩ := h
  obtain ⟨y0, h0⟩ := h 0 _ rfl
  obtain ⟨y1, h1⟩ := h 1 _ rfl
  obtain ⟨y2, h2⟩ := h 2 _ rfl
  obtain ⟨y3, h3⟩ := h 3 _ rfl
  obtain ⟨y4, h4⟩ := h 4 _ rfl
  have h0 : DataW.trod enc Try.prog W 0 (fun _ => true) true fuel 3 ((cs.drop 0).take 1) = some y0 := by rw [← Try.cells3]; exact h0
  have h1 : DataW.trod enc Try.prog W 0 (fun _ => true) true fuel 3 ((cs.drop 1).take 1) = some y1 := by rw [← Try.cells3]; exact h1
  have h2 : DataW.trod enc Try.prog W 0 (fun _ => true) true fuel 25 ((cs.drop 2).take 1) = some y2 := by rw [← Try.cells25]; exact h2
  have h3 : DataW.trod enc Try.prog W 0 (fun _ => true) true fuel 31 ((cs.drop 3).take 1) = some y3 := by rw [← Try.cells31]; exact h3
  have h4 : DataW.trod enc Try.prog W 0 (fun _ => true) true fuel 5 ((cs.drop 4).take 1) = some y4 := by rw [← Try.cells5]; exact h4
  obtain ⟨k, e0, _, _⟩ := DataW.trod_int Try.underlying3 h0
  obtain ⟨x, e1, _, _⟩ := DataW.trod_int Try.underlying3 h1
  obtain ⟨qb, nb, cb, b, e2, l2, _, i2, w2⟩ := ints_of_trod Try.underlying25 Try.underlying5 Try.cells5 h2
  obtain ⟨qk, nk, ck, kb, e3, l3, _, i3⟩ := bools_of_trod Try.underlying31 Try.underlying4 Try.cells4 h3
  obtain ⟨fill, e4, _, w4⟩ := DataW.trod_int Try.underlying5 h4
  exact ⟨⟨k, x, qb, nb, cb, b, qk, nk, ck, kb, fill⟩, ⟨l2, i2, fun i h0 h1 => wf_u8 (w2 i h0 h1), i3, wf_u8 w4⟩, one_of e0, one_of e1, one_of e2, one_of e3, one_of e4⟩
theorem open_ops {v : Value} {d : DataW H} {ps : List MemPlace} {r : Reach} {b0 : Nat} (hval : Value.okWide Try.prog W r b0 22 v) (h : DataW.Trod enc Try.prog W 0 (fun _ => true) true 22 v d ps) :
    ∃ (q : Option Addr) (n c : Nat) (ops : Nat → OpD), v = .slice q n c ∧ OpsMem W q n ops := by
  obtain ⟨q, n, c, rfl⟩ := okWide_slice Try.underlying22 hval
  obtain ⟨fuel, hf⟩ := h
  obtain ⟨q', n', c', hcs, hn, hm, hall⟩ := structs_of_trod Try.underlying22 Try.underlying39 hf
  simp only [Value.cells, List.cons.injEq, and_true] at hcs
  cases hcs
  have each : ∀ i, ∃ o : OpD, i < n → ∃ a, q = some a ∧ OpAt W (a.add (i * 5)) o ∧ o.Good W := by
    intro i
    by_cases hi : i < n
    · obtain ⟨a, cs, e, hl, hc, hfl⟩ := hall i hi
      obtain ⟨o, hg, x0, x1, x2, x3, x4⟩ := op_of_fields Try.underlying39 hfl
      rw [Try.cells39] at hc
      exact ⟨o, fun _ => ⟨a, e, ⟨(hc 0 (by omega)).trans x0, (hc 1 (by omega)).trans x1, (hc 2 (by omega)).trans x2, (hc 3 (by omega)).trans x3, (hc 4 (by omega)).trans x4⟩, hg⟩⟩
    · exact ⟨⟨0, 0, none, 0, 0, fun _ => 0, none, 0, 0, fun _ => false, 0⟩, fun h => absurd h hi⟩
  exact ⟨q, n, c, fun i => Classical.choose (each i), rfl, fun i hi => Classical.choose_spec (each i) hi⟩
end
end Go.Proofs.Ytlgkcbdpaffigaa
