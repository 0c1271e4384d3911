/- Arguments, opened. -/
import Derived.Test.YtlgkcbdpaffigaaSxRow
set_option linter.unusedSimpArgs false
set_option linter.unusedVariables false
namespace Go.SX
open Go Go.RowKit Go.ChangeShapes Go.WideShapes Go.ChangeAt

/-! ### Arguments, opened -/
section
variable {H : Type} {enc : TypeId × Value → H} {P : Program} {W : World}
theorem ints_of_trod {t e : TypeId} {k : IntKind} {fuel : Nat} {cs : List Value} {x : DataW H × List MemPlace} (ht : P.underlying t = some (.slice e)) (he : P.underlying e = some (.int k)) (hc : P.cellsOf e = 1)
    (h : DataW.trod enc P W 0 (fun _ => true) true fuel t cs = some x) :
    ∃ (q : Option Addr) (n c : Nat) (b : Int → Int), cs = [.slice q n c] ∧ n ≤ c ∧ c ≤ maxLen ∧ Ints W k q n b ∧ ∀ i : Int, 0 ≤ i → i < n → (Lit.int k (b i)).wf = true := by
  rcases open_ints ht he hc h with ⟨hcs, _⟩ | ⟨a, n, c, zs, hcs, _, hl, hm, hz, _, hcell, hwf⟩
  · exact ⟨none, 0, 0, fun _ => 0, hcs, Nat.le_refl _, by simp [maxLen], fun i h0 h1 => by omega, fun i h0 h1 => by omega⟩
  · simp only [if_true] at hz
    refine ⟨some a, _, _, fun i => zs.getD i.toNat 0, hcs, hl, hm, fun i h0 h1 => ⟨a, rfl, hcell i.toNat (by omega)⟩, fun i h0 h1 => hwf _ ?_⟩
    have hi : i.toNat < zs.length := by omega
    show zs.getD i.toNat 0 ∈ zs
    rw [List.getD_eq_getElem?_getD, List.getElem?_eq_getElem hi]
    exact List.getElem_mem hi
/-- A slice of elements of one cell each. -/
theorem cells_of_trod {t e : TypeId} {fuel : Nat} {cs : List Value} {x : DataW H × List MemPlace} (ht : P.underlying t = some (.slice e)) (hc : P.cellsOf e = 1)
    (h : DataW.trod enc P W 0 (fun _ => true) true fuel t cs = some x) :
    ∃ (q : Option Addr) (n c : Nat), cs = [.slice q n c] ∧ n ≤ c ∧ c ≤ maxLen ∧ ∀ i, i < n → ∃ a fuel u y, q = some a ∧ W.cell? (a.add i) = some u ∧ DataW.trod enc P W 0 (fun _ => true) true fuel e [u] = some y := by
  rcases DataW.trod_slice ht h with ⟨hcs, _⟩ | ⟨a, len', cap', elems, rest, n, _, hcs, _, _, hl, hm, hlen, hel, _⟩
  · exact ⟨none, 0, 0, hcs, Nat.le_refl _, by simp [maxLen], fun i h0 => by omega⟩
  · refine ⟨some a, _, _, hcs, hl, hm, fun i hi => ?_⟩
    have he1 := hel i hi
    rw [List.getElem?_eq_getElem (by omega)] at he1
    obtain ⟨cs', hcells, hst⟩ := Option.bind_eq_some_iff.1 he1
    obtain ⟨_, hcl, hcell⟩ := World.cells?_some hcells
    rw [hc] at hcl
    match cs', hcl with
    | [u], _ =>
      have := hcell 0 (by rw [hc]; omega)
      rw [hc, Nat.mul_one, cell_add0] at this
      exact ⟨a, n, u, _, rfl, this, hst⟩
theorem bools_of_trod {t e : TypeId} {fuel : Nat} {cs : List Value} {x : DataW H × List MemPlace} (ht : P.underlying t = some (.slice e)) (he : P.underlying e = some .bool) (hc : P.cellsOf e = 1)
    (h : DataW.trod enc P W 0 (fun _ => true) true fuel t cs = some x) :
    ∃ (q : Option Addr) (n c : Nat) (kb : Nat → Bool), cs = [.slice q n c] ∧ n ≤ c ∧ c ≤ maxLen ∧ ∀ i, i < n → ∃ a, q = some a ∧ W.cell? (a.add i) = some (.bool (kb i)) := by
  obtain ⟨q, n, c, hcs, hl, hm, hall⟩ := cells_of_trod ht hc h
  have : ∀ i, ∃ t : Bool, i < n → ∃ a, q = some a ∧ W.cell? (a.add i) = some (.bool t) := by
    intro i
    by_cases hi : i < n
    · obtain ⟨a, f, u, y, e, hu, hy⟩ := hall i hi
      obtain ⟨t, ht, _⟩ := DataW.trod_bool he hy
      cases ht
      exact ⟨t, fun _ => ⟨a, e, hu⟩⟩
    · exact ⟨false, fun h => absurd h hi⟩
  exact ⟨q, n, c, fun i => Classical.choose (this i), hcs, hl, hm, fun i hi => Classical.choose_spec (this i) hi⟩
/-- A struct's cells, field by field. -/
def Fields (enc : TypeId × Value → H) (P : Program) (W : World) (fs : Array Field) (cs : List Value) : Prop :=
  ∃ fuel, ∀ (j : Nat) (f : Field), fs[j]? = some f → ∃ y, DataW.trod enc P W 0 (fun _ => true) true fuel f.type ((cs.drop f.offset).take (P.cellsOf f.type)) = some y
theorem fields_of_trod {t : TypeId} {fs : Array Field} {fuel : Nat} {cs : List Value} {x : DataW H × List MemPlace} (ht : P.underlying t = some (.struct fs))
    (h : DataW.trod enc P W 0 (fun _ => true) true fuel t cs = some x) : cs.length = P.cellsOf t ∧ Fields enc P W fs cs := by
  obtain ⟨xs, m, _, _, hl, hxl, hfield⟩ := DataW.trod_struct ht h
  refine ⟨hl, m, fun j f hf => ?_⟩
  have hj : j < xs.length := by rw [hxl]; exact (Array.getElem?_eq_some_iff.1 hf).1
  exact ⟨xs[j], by rw [hfield j f hf, List.getElem?_eq_getElem hj]⟩
/-- A slice of structs. -/
theorem structs_of_trod {t e : TypeId} {fs : Array Field} {fuel : Nat} {cs : List Value} {x : DataW H × List MemPlace} (ht : P.underlying t = some (.slice e)) (he : P.underlying e = some (.struct fs))
    (h : DataW.trod enc P W 0 (fun _ => true) true fuel t cs = some x) :
    ∃ (q : Option Addr) (n c : Nat), cs = [.slice q n c] ∧ n ≤ c ∧ c ≤ maxLen ∧ ∀ i, i < n → ∃ a cs', q = some a ∧ cs'.length = P.cellsOf e ∧ (∀ j, j < P.cellsOf e → W.cell? ((a.add (i * P.cellsOf e)).add j) = cs'[j]?) ∧ Fields enc P W fs cs' := by
  rcases DataW.trod_slice ht h with ⟨hcs, _⟩ | ⟨a, len', cap', elems, rest, n, _, hcs, _, _, hl, hm, hlen, hel, _⟩
  · exact ⟨none, 0, 0, hcs, Nat.le_refl _, by simp [maxLen], fun i h0 => by omega⟩
  · refine ⟨some a, _, _, hcs, hl, hm, fun i hi => ?_⟩
    have he1 := hel i hi
    rw [List.getElem?_eq_getElem (by omega)] at he1
    obtain ⟨cs', hcells, hst⟩ := Option.bind_eq_some_iff.1 he1
    obtain ⟨_, hcl, hcell⟩ := World.cells?_some hcells
    obtain ⟨h1, h2⟩ := fields_of_trod he hst
    exact ⟨a, cs', rfl, h1, hcell, h2⟩
end
end Go.SX
