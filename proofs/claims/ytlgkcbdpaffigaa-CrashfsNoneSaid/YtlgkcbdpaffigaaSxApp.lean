/- Slices of integers appended to rows of own. -/
import Derived.Test.YtlgkcbdpaffigaaSxStr
set_option linter.unusedSimpArgs false
set_option linter.unusedVariables false
namespace Go.SX
open Go Go.Lib

/-! ### Slices of integers appended to rows of one's own -/
def intsL (k : IntKind) (b : Int → Int) (n : Nat) : List Value := (List.range n).map fun i : Nat => .int k (b i)
theorem intsL_len (k : IntKind) (b : Int → Int) (n : Nat) : (intsL k b n).length = n := by simp [intsL]
theorem intsL_get (k : IntKind) (b : Int → Int) {n i : Nat} (h : i < n) : (intsL k b n)[i]? = some (.int k (b i)) := by simp [intsL, h]
theorem intsL_one (k : IntKind) (b : Int → Int) (n : Nat) : ∀ u ∈ intsL k b n, u.oneCell' = true := fun u hu => by
  obtain ⟨i, _, rfl⟩ := List.mem_map.1 hu
  simp [Value.oneCell']
/-- Nothing appended. -/
theorem append_zero {P : Program} {w : World} {t ty e : TypeId} (ht : P.underlying t = some (.slice e)) (he : ∃ i, P.info? e = some i) {own : Nat → Prop} {size : Nat} {v : Value} {n : Nat} {xs : List Value} (hown : OwnRow w own e size v n xs) (q' : Option Addr) (c' : Nat) :
    (Builtin.append_ #[t, t] ty #[v, .slice q' 0 c']).run P w = .ok v w := by
  obtain ⟨i, hi⟩ := he
  rcases hown.2 with ⟨rfl, rfl⟩ | ⟨g, cap, cur, rfl, _, _, hnc, _⟩
  · cases q' <;> simp [Builtin.append_, run_underlying ht, sizeOf, typeInfo, hi, Builtin.lenOf, Builtin.firstCells, loadCells, loadCellsFrom]
  · cases q' <;> simp [Builtin.append_, run_underlying ht, sizeOf, typeInfo, hi, Builtin.lenOf, Builtin.firstCells, loadCells, loadCellsFrom, hnc, storeCells]
/-- 'append(b, s...)', s a slice of integers. -/
theorem append_ints {P : Program} {w : World} {own : Nat → Prop} {t ty e : TypeId} {k : IntKind} {v : Value} {n : Nat} {xs : List Value} {q : Option Addr} {m c : Nat} {b : Int → Int} {K : Value → World → Prop}
    (ht : P.underlying t = some (.slice e)) (he : elemOk P e 1 = true) (hown : OwnRow w own e 1 v n xs) (hb : Ints w k q m b) (hn : n + m ≤ 137438953472)
    (hK : ∀ q' c' w', OwnRow w' (fun i => own i ∨ fresh w i) e 1 (.slice q' (n + m) c') (n + m) (xs ++ intsL k b m) → Kp own w w' → K (.slice q' (n + m) c') w') : Runs P (Builtin.append_ #[t, t] ty #[v, .slice q m c]) w K := by
  by_cases h0 : m = 0
  · subst h0
    obtain ⟨i, z, hi, _⟩ := elemOk_spec he
    obtain ⟨q', c', rfl⟩ := hown.slice
    refine ⟨_, _, append_zero ht ⟨i, hi⟩ hown q c, hK _ _ _ ?_ (Kp.refl _ _)⟩
    simpa [intsL] using hown.mono (fun i hi _ => .inl hi)
  · obtain ⟨a, rfl, _⟩ := hb 0 (by omega) (by omega)
    refine append_own (own := own) (xs := xs) (news := intsL k b m) ht he (by omega) hown (by rw [intsL_len, Nat.mul_one]) (fun j u hj => ?_) (intsL_one k b m) (by omega) hn fun v' w' hrow hk => ?_
    · have hj' : j < m := by have := (List.getElem?_eq_some_iff.1 hj).1; rwa [intsL_len] at this
      rw [intsL_get k b hj'] at hj
      cases hj
      obtain ⟨a', e, hc⟩ := hb j (by omega) (by omega)
      cases e
      exact hc
    · obtain ⟨q', c', rfl⟩ := hrow.slice
      have hl := hrow.lens.1
      rw [hl] at hrow ⊢
      exact hK _ _ _ hrow hk
/-- '[]T{}' -/
theorem lit_own {P : Program} {w : World} {t e : TypeId} {size : Nat} {K : Value → World → Prop} (ht : P.underlying t = some (.slice e)) (he : ∃ i, P.info? e = some i)
    (hK : ∀ w', OwnRow w' (fresh w) e size (.slice (some ⟨w.heap.size, 0, none⟩) 0 0) 0 [] → Kp none_ w w' → K (.slice (some ⟨w.heap.size, 0, none⟩) 0 0) w') : Runs P (Instr.buildSlice t 0 #[]) w K :=
  ⟨_, _, lit_run w ht he, hK _ ⟨by simp, .inr ⟨w.heap.size, 0, _, rfl, Nat.le_refl _, by rw [alloc_get]; exact if_pos rfl, Nat.le_refl _, by simp only [maxLen]; omega, by simp, by simp⟩⟩ ((Kp.refl none_ w).alloc _ _)⟩
end Go.SX
