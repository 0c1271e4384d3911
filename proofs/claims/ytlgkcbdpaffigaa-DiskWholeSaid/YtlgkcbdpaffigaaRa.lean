/- What the rows' proofs need of the program. -/
import Derived.Test.YtlgkcbdpaffigaaRows
import Derived.Test.YtlgkcbdpaffigaaBp
import Derived.Test.YtlgkcbdpaffigaaSxOpen
namespace Go.Proofs.Ytlgkcbdpaffigaa
open Go Go.SX Go.Proofs Go.ChangeShapes Go.WideShapes Go.ChangeAt Go.RowKit
set_option maxRecDepth 100000
set_option linter.unusedVariables false
set_option linter.unusedSimpArgs false

theorem Try.own : ownKnob Try.prog.godebug = none := by kernel_rfl
theorem Try.laidOut : laidOutB Try.prog = true := by kernel_rfl
theorem Try.cells3 : Try.prog.cellsOf 3 = 1 := by kernel_rfl
theorem Try.cells4 : Try.prog.cellsOf 4 = 1 := by kernel_rfl
theorem Try.cells5 : Try.prog.cellsOf 5 = 1 := by kernel_rfl
theorem Try.cells25 : Try.prog.cellsOf 25 = 1 := by kernel_rfl
theorem Try.cells31 : Try.prog.cellsOf 31 = 1 := by kernel_rfl
theorem Try.cells39 : Try.prog.cellsOf 39 = 5 := by kernel_rfl
theorem Try.cells49 : Try.prog.cellsOf 49 = 4 := by kernel_rfl
section
variable {H : Type} {enc : TypeId × Value → H} {W : World}
theorem one_of {l : List Value} {j : Nat} {v : Value} (h : (l.drop j).take 1 = [v]) : l[j]? = some v := by
  have h0 := congrArg (fun l => l[0]?) h
  simp only [List.getElem?_take, List.getElem?_drop, Nat.add_zero] at h0
  simpa using h0
theorem op_of_fields {fs : Array Field} {cs : List Value} (hfs : Try.prog.underlying 39 = some (.struct fs)) (h : Fields enc Try.prog W fs cs) : ∃ o : OpD, o.Good W ∧ cs[0]? = some (.int .i64 o.k) ∧ cs[1]? = some (.int .i64 o.x) ∧ cs[2]? = some (.slice o.qb o.nb o.cb) ∧ cs[3]? = some (.slice o.qk o.nk o.ck) ∧ cs[4]? = some (.int .u8 o.fill) := by
  rw [Try.underlying39] at hfs
  cases hfs
  obtain ⟨fuel, h⟩ := h
  obtain ⟨y0, h0⟩ := h 0 _ rfl
  obtain ⟨y1, h1⟩ := h 1 _ rfl
  obtain ⟨y2, h2⟩ := h 2 _ rfl
  obtain ⟨y3, h3⟩ := h 3 _ rfl
  obtain ⟨y4, h4⟩ := h 4 _ rfl
  have h0 : DataW.trod enc Try.prog W 0 (fun _ => true) true fuel 3 ((cs.drop 0).take 1) = some y0 := by rw [← Try.cells3]; exact h0
  have h1 : DataW.trod enc Try.prog W 0 (fun _ => true) true fuel 3 ((cs.drop 1).take 1) = some y1 := by rw [← Try.cells3]; exact h1
  have h2 : DataW.trod enc Try.prog W 0 (fun _ => true) true fuel 25 ((cs.drop 2).take 1) = some y2 := by rw [← Try.cells25]; exact h2
  have h3 : DataW.trod enc Try.prog W 0 (fun _ => true) true fuel 31 ((cs.drop 3).take 1) = some y3 := by rw [← Try.cells31]; exact h3
  have h4 : DataW.trod enc Try.prog W 0 (fun _ => true) true fuel 5 ((cs.drop 4).take 1) = some y4 := by rw [← Try.cells5]; exact h4
  obtain ⟨k, e0, _, _⟩ := DataW.trod_int Try.underlying3 h0
  obtain ⟨x, e1, _, _⟩ := DataW.trod_int Try.underlying3 h1
  obtain ⟨qb, nb, cb, b, e2, l2, _, i2, w2⟩ := ints_of_trod Try.underlying25 Try.underlying5 Try.cells5 h2
  obtain ⟨qk, nk, ck, kb, e3, l3, _, i3⟩ := bools_of_trod Try.underlying31 Try.underlying4 Try.cells4 h3
  obtain ⟨fill, e4, _, w4⟩ := DataW.trod_int Try.underlying5 h4
  exact ⟨⟨k, x, qb, nb, cb, b, qk, nk, ck, kb, fill⟩, ⟨l2, i2, fun i h0 h1 => wf_u8 (w2 i h0 h1), i3, wf_u8 w4⟩, one_of e0, one_of e1, one_of e2, one_of e3, one_of e4⟩
theorem open_ops {v : Value} {d : DataW H} {ps : List MemPlace} {r : Reach} {b0 : Nat} (hval : Value.okWide Try.prog W r b0 22 v) (h : DataW.Trod enc Try.prog W 0 (fun _ => true) true 22 v d ps) :
    ∃ (q : Option Addr) (n c : Nat) (ops : Nat → OpD), v = .slice q n c ∧ OpsMem W q n ops := by
  obtain ⟨q, n, c, rfl⟩ := okWide_slice Try.underlying22 hval
  obtain ⟨fuel, hf⟩ := h
  obtain ⟨q', n', c', hcs, hn, hm, hall⟩ := structs_of_trod Try.underlying22 Try.underlying39 hf
  simp only [Value.cells, List.cons.injEq, and_true] at hcs
  cases hcs
  have each : ∀ i, ∃ o : OpD, i < n → ∃ a, q = some a ∧ OpAt W (a.add (i * 5)) o ∧ o.Good W := by
    intro i
    by_cases hi : i < n
    · obtain ⟨a, cs, e, hl, hc, hfl⟩ := hall i hi
      obtain ⟨o, hg, x0, x1, x2, x3, x4⟩ := op_of_fields Try.underlying39 hfl
      rw [Try.cells39] at hc
      exact ⟨o, fun _ => ⟨a, e, ⟨(hc 0 (by omega)).trans x0, (hc 1 (by omega)).trans x1, (hc 2 (by omega)).trans x2, (hc 3 (by omega)).trans x3, (hc 4 (by omega)).trans x4⟩, hg⟩⟩
    · exact ⟨⟨0, 0, none, 0, 0, fun _ => 0, none, 0, 0, fun _ => false, 0⟩, fun h => absurd h hi⟩
  exact ⟨q, n, c, fun i => Classical.choose (each i), rfl, fun i hi => Classical.choose_spec (each i) hi⟩
theorem open_op {v : Value} {d : DataW H} {ps : List MemPlace} {r : Reach} {b0 : Nat} (hval : Value.okWide Try.prog W r b0 39 v) (h : DataW.Trod enc Try.prog W 0 (fun _ => true) true 39 v d ps) : ∃ o : OpD, v = o.args ∧ o.Good W := by
  unfold Value.okWide at hval
  rw [Try.underlying39] at hval
  obtain ⟨cs, rfl, hs, _⟩ := hval
  obtain ⟨fuel, hf⟩ := h
  obtain ⟨hl, hfl⟩ := fields_of_trod Try.underlying39 hf
  obtain ⟨o, hg, x0, x1, x2, x3, x4⟩ := op_of_fields Try.underlying39 hfl
  refine ⟨o, ?_, hg⟩
  unfold OpD.args
  rw [Try.cells39] at hl
  have e : (Value.agg cs).cells = cs := rfl
  have eq : cs = #[.int .i64 o.k, .int .i64 o.x, .slice o.qb o.nb o.cb, .slice o.qk o.nk o.ck, .int .u8 o.fill] := by
    apply Array.ext'
    apply List.ext_getElem?
    intro i
    match i with
    | 0 => exact x0
    | 1 => exact x1
    | 2 => exact x2
    | 3 => exact x3
    | 4 => exact x4
    | i + 5 =>
      have hl' : cs.toList.length = 5 := hl
      rw [List.getElem?_eq_none (by omega)]
      rfl
  rw [eq]
structure WhD where
  qa : Option Addr
  na : Nat
  ca : Nat
  a : Int → Int
  qb : Option Addr
  nb : Nat
  cb : Nat
  b : Int → Int
  x : Int
  qk : Option Addr
  nk : Nat
  ck : Nat
  kb : Nat → Bool
structure WhD.Good (o : WhD) (W : World) : Prop where
  cap : o.na ≤ o.ca
  a : Ints W .u8 o.qa o.na o.a
  aby : ∀ i : Int, 0 ≤ i → i < o.na → isByte (o.a i)
  b : Ints W .u8 o.qb o.nb o.b
  bby : ∀ i : Int, 0 ≤ i → i < o.nb → isByte (o.b i)
  bools : Bools W o.qk o.nk o.kb
def WhD.args (o : WhD) : Value := .agg #[.slice o.qa o.na o.ca, .slice o.qb o.nb o.cb, .int .i64 o.x, .slice o.qk o.nk o.ck]
theorem open_wh {v : Value} {d : DataW H} {ps : List MemPlace} {r : Reach} {b0 : Nat} (hval : Value.okWide Try.prog W r b0 49 v) (h : DataW.Trod enc Try.prog W 0 (fun _ => true) true 49 v d ps) : ∃ o : WhD, v = o.args ∧ o.Good W := by
  unfold Value.okWide at hval
  rw [Try.underlying49] at hval
  obtain ⟨cs, rfl, hs, _⟩ := hval
  obtain ⟨fuel, hf⟩ := h
  obtain ⟨hl, fuel2, hfl⟩ := fields_of_trod Try.underlying49 hf
  have e : (Value.agg cs).cells = cs := rfl
  rw [e] at hfl
  obtain ⟨y0, h0⟩ := hfl 0 _ rfl
  obtain ⟨y1, h1⟩ := hfl 1 _ rfl
  obtain ⟨y2, h2⟩ := hfl 2 _ rfl
  obtain ⟨y3, h3⟩ := hfl 3 _ rfl
  have h0 : DataW.trod enc Try.prog W 0 (fun _ => true) true fuel2 25 ((cs.toList.drop 0).take 1) = some y0 := by rw [← Try.cells25]; exact h0
  have h1 : DataW.trod enc Try.prog W 0 (fun _ => true) true fuel2 25 ((cs.toList.drop 1).take 1) = some y1 := by rw [← Try.cells25]; exact h1
  have h2 : DataW.trod enc Try.prog W 0 (fun _ => true) true fuel2 3 ((cs.toList.drop 2).take 1) = some y2 := by rw [← Try.cells3]; exact h2
  have h3 : DataW.trod enc Try.prog W 0 (fun _ => true) true fuel2 31 ((cs.toList.drop 3).take 1) = some y3 := by rw [← Try.cells31]; exact h3
  obtain ⟨qa, na, ca, a, e0, l0, _, i0, w0⟩ := ints_of_trod Try.underlying25 Try.underlying5 Try.cells5 h0
  obtain ⟨qb, nb, cb, b, e1, l1, _, i1, w1⟩ := ints_of_trod Try.underlying25 Try.underlying5 Try.cells5 h1
  obtain ⟨x, e2, _, _⟩ := DataW.trod_int Try.underlying3 h2
  obtain ⟨qk, nk, ck, kb, e3, l3, _, i3⟩ := bools_of_trod Try.underlying31 Try.underlying4 Try.cells4 h3
  refine ⟨⟨qa, na, ca, a, qb, nb, cb, b, x, qk, nk, ck, kb⟩, ?_, ⟨l0, i0, fun i h0 h1 => wf_u8 (w0 i h0 h1), i1, fun i h0 h1 => wf_u8 (w1 i h0 h1), i3⟩⟩
  unfold WhD.args
  rw [Try.cells49] at hl
  have eq : cs = #[.slice qa na ca, .slice qb nb cb, .int .i64 x, .slice qk nk ck] := by
    apply Array.ext'
    apply List.ext_getElem?
    intro i
    match i with
    | 0 => exact one_of e0
    | 1 => exact one_of e1
    | 2 => exact one_of e2
    | 3 => exact one_of e3
    | i + 4 =>
      have hl' : cs.toList.length = 4 := hl
      rw [List.getElem?_eq_none (by omega)]
      rfl
  rw [eq]
end
end Go.Proofs.Ytlgkcbdpaffigaa
