/- Arguments of any type. -/
import Derived.Test.YtlgkcbdpaffigaaSxOpen
set_option linter.unusedSimpArgs false
set_option linter.unusedVariables false
namespace Go.SX
open Go Go.RowKit Go.ChangeShapes Go.WideShapes Go.ChangeAt
/-! ### Arguments of any type: what their cells are -/
section
variable {H : Type} {enc : TypeId × Value → H} {P : Program} {W : World}
/-- The cells of a type's value are C of something that is fine. -/
def Dec (enc : TypeId × Value → H) (P : Program) (W : World) (t : TypeId) {β : Type} (C : β → List Value) (ok : β → Prop) : Prop :=
  ∀ (fuel : Nat) (cs : List Value) (x : DataW H × List MemPlace), DataW.trod enc P W 0 (fun _ => true) true fuel t cs = some x → ∃ b, cs = C b ∧ ok b
theorem dec_int {t : TypeId} {k : IntKind} (ht : P.underlying t = some (.int k)) : Dec enc P W t (fun n : Int => [.int k n]) (fun n => (Lit.int k n).wf = true) := fun fuel cs x h => by
  obtain ⟨n, h1, _, h2⟩ := DataW.trod_int ht h
  exact ⟨n, h1, h2⟩
theorem dec_str {t : TypeId} (ht : P.underlying t = some .string) : Dec enc P W t (fun s : List UInt8 => [.string ⟨s.toArray⟩]) (fun s => s.length ≤ maxLen) := fun fuel cs x h => by
  obtain ⟨s, h1, _, h2⟩ := DataW.trod_string ht h
  refine ⟨s.data.toList, ?_, by simpa using h2⟩
  rw [h1]
theorem dec_bool {t : TypeId} (ht : P.underlying t = some .bool) : Dec enc P W t (fun b : Bool => [.bool b]) (fun _ => True) := fun fuel cs x h => by
  obtain ⟨b, h1, _⟩ := DataW.trod_bool ht h
  exact ⟨b, h1, trivial⟩
/-- A row of things in memory: the cells of each. -/
def RowsAt (W : World) (k : Nat) {β : Type} (C : β → List Value) (q : Option Addr) (l : List β) : Prop :=
  ∀ i (h : i < l.length), ∃ a, q = some a ∧ ∀ j u, (C l[i])[j]? = some u → W.cell? ((a.add (i * k)).add j) = some u
theorem dec_rows {t e : TypeId} {k : Nat} {β : Type} {C : β → List Value} {ok : β → Prop} (ht : P.underlying t = some (.slice e)) (hk : P.cellsOf e = k) (hd : Dec enc P W e C ok) {fuel : Nat} {cs : List Value} {x : DataW H × List MemPlace}
    (h : DataW.trod enc P W 0 (fun _ => true) true fuel t cs = some x) : ∃ (q : Option Addr) (c : Nat) (l : List β), cs = [.slice q l.length c] ∧ l.length ≤ c ∧ c ≤ maxLen ∧ RowsAt W k C q l ∧ ∀ b ∈ l, ok b := by
  rcases DataW.trod_slice ht h with ⟨hcs, _⟩ | ⟨a, len, cap, elems, rest, n, _, hcs, _, _, hl, hm, hlen, hel, _⟩
  · exact ⟨none, 0, [], hcs, Nat.le_refl _, by simp [maxLen], fun i hi => by simp at hi, fun b hb => by cases hb⟩
  · have one : ∀ i : Fin len, ∃ b : β, (∀ j u, (C b)[j]? = some u → W.cell? ((a.add (i.1 * k)).add j) = some u) ∧ ok b := by
      intro i
      have he1 := hel i.1 i.2
      rw [List.getElem?_eq_getElem (by have := i.2; omega)] at he1
      obtain ⟨cs', hcells, hst⟩ := Option.bind_eq_some_iff.1 he1
      obtain ⟨_, hcl, hcell⟩ := World.cells?_some hcells
      rw [hk] at hcl hcell
      obtain ⟨b, rfl, hb⟩ := hd _ _ _ hst
      refine ⟨b, fun j u hj => ?_, hb⟩
      have hjl : j < k := by
        have := (List.getElem?_eq_some_iff.1 hj).1
        omega
      rw [hcell j hjl]
      exact hj
    have hll : (List.ofFn fun i => Classical.choose (one i)).length = len := List.length_ofFn
    refine ⟨some a, cap, List.ofFn fun i => Classical.choose (one i), by rw [hll]; exact hcs, by rw [hll]; exact hl, hm, fun i hi => ⟨a, rfl, ?_⟩, fun b hb => ?_⟩
    · rw [List.getElem_ofFn]
      exact (Classical.choose_spec (one ⟨i, by rwa [hll] at hi⟩)).1
    · obtain ⟨i, hi, e⟩ := List.getElem_of_mem hb
      rw [List.getElem_ofFn] at e
      subst e
      exact (Classical.choose_spec (one ⟨i, by rwa [hll] at hi⟩)).2
theorem cut_step (cs : List Value) (o s : Nat) : cs.drop o = (cs.drop o).take s ++ cs.drop (o + s) := by
  rw [← List.drop_drop, List.take_append_drop]
/-- One field of a struct. -/
theorem dec_field {fs : Array Field} {t : TypeId} {cs : List Value} {xs : List (DataW H × List MemPlace)} {n : Nat} {β : Type} {C : β → List Value} {ok : β → Prop}
    (hf : ∀ (i : Nat) (f : Field), fs[i]? = some f → DataW.trod enc P W 0 (fun _ => true) true n f.type ((cs.drop f.offset).take (P.cellsOf f.type)) = xs[i]?) (hl : xs.length = fs.size)
    {i : Nat} {f : Field} (hi : fs[i]? = some f) {k o : Nat} (hk : P.cellsOf t = k) (ht : f.type = t) (ho : f.offset = o) (hd : Dec enc P W t C ok) : ∃ b, cs.drop o = C b ++ cs.drop (o + k) ∧ ok b := by
  have hx := hf i f hi
  have hlt : i < xs.length := by
    rw [hl]
    exact (Array.getElem?_eq_some_iff.1 hi).1
  rw [List.getElem?_eq_getElem hlt, ht, hk, ho] at hx
  obtain ⟨b, e, hb⟩ := hd _ _ _ hx
  refine ⟨b, ?_, hb⟩
  rw [← e]
  exact cut_step cs o k
/-- Where a struct's cells have been gone through. -/
theorem dec_end {cs : List Value} {k : Nat} (h : cs.length = k) : cs.drop k = [] := List.drop_eq_nil_of_le (by omega)
end
end Go.SX
