/- Arguments that are heads. -/
import Derived.Test.YtbpknjldphckgaaDoorRy
import Derived.Test.YtbpknjldphckgaaDoorQp
namespace Go.Proofs.YtbpknjldphckgaaDoor
open Go Go.SX Go.Proofs Go.ChangeShapes Go.WideShapes Go.ChangeAt Go.ChangeMaps Go.RowKit
set_option maxRecDepth 100000
set_option linter.unusedVariables false
/-- A cell of a great value, by its type. -/
theorem cells_at {P : Program} {W : World} {t : TypeId} {v : Value} {r : Reach} {b0 : Nat} {fs : Array Field} {ts0 : List TypeId} (ht : P.underlying t = some (.struct fs)) (hts : P.cellTypes P.depth t = some ts0) (hl : P.cellsOf t = ts0.length) (hval : Value.okWide P W r b0 t v) :
    ∃ cs, v = .agg cs ∧ cs.size = ts0.length ∧ ∀ (i : Nat) u, ts0[i]? = some u → ∃ z, cs[i]? = some z ∧ Cell.okWide P W r b0 u z := by
  unfold Value.okWide at hval
  rw [ht] at hval
  obtain ⟨cs, rfl, hs, ts, h1, _, h2⟩ := hval
  rw [hts] at h1
  cases h1
  rw [hl] at hs
  refine ⟨cs, rfl, hs, fun i u hu => ?_⟩
  have hi : i < ts0.length := by
    have := (List.getElem?_eq_some_iff.1 hu).1
    exact this
  have hv : cs[i]? = some (cs[i]'(by omega)) := Array.getElem?_eq_getElem (by omega)
  obtain ⟨u', hu', hok⟩ := h2 i _ hv
  rw [Nat.mod_eq_of_lt (by first | omega | (rw [hl]; omega))] at hu'
  rw [hu] at hu'
  cases hu'
  exact ⟨_, hv, hok⟩
theorem cell_int {P : Program} {W : World} {t : TypeId} {z : Value} {r : Reach} {b0 : Nat} {k : IntKind} (ht : P.underlying t = some (.int k)) (h : Cell.okWide P W r b0 t z) : ∃ x, z = .int k x ∧ k.has x := by
  unfold Cell.okWide at h
  rw [ht] at h
  unfold Cell.ok at h
  rw [ht] at h
  cases z <;> simp_all
theorem cell_str {P : Program} {W : World} {t : TypeId} {z : Value} {r : Reach} {b0 : Nat} (ht : P.underlying t = some .string) (h : Cell.okWide P W r b0 t z) : ∃ s, z = .string s := by
  unfold Cell.okWide at h
  rw [ht] at h
  unfold Cell.ok at h
  rw [ht] at h
  cases z <;> simp_all
theorem arr5 {cs : Array Value} {a b c d e : Value} (hs : cs.size = 5) (h0 : cs[0]? = some a) (h1 : cs[1]? = some b) (h2 : cs[2]? = some c) (h3 : cs[3]? = some d) (h4 : cs[4]? = some e) : cs = #[a, b, c, d, e] := by
  apply Array.ext'
  apply List.ext_getElem?
  intro i
  rw [Array.getElem?_toList]
  match i with
  | 0 => rw [h0]; rfl
  | 1 => rw [h1]; rfl
  | 2 => rw [h2]; rfl
  | 3 => rw [h3]; rfl
  | 4 => rw [h4]; rfl
  | i + 5 => rw [Array.getElem?_eq_none (by omega)]; rfl
theorem open_head {W : World} {v : Value} {r : Reach} {b0 : Nat} (hval : Value.okWide Tryd.prog W r b0 54 v) : ∃ m s z a u, v = hdV m s z a u ∧ 0 ≤ u ∧ u < 4294967296 := by
  obtain ⟨cs, rfl, hs, hc⟩ := cells_at (ts0 := [3, 9, 3, 3, 23]) Tryd.underlying54 (by kernel_rfl) (by kernel_rfl) hval
  obtain ⟨z0, e0, k0⟩ := hc 0 3 rfl
  obtain ⟨z1, e1, k1⟩ := hc 1 9 rfl
  obtain ⟨z2, e2, k2⟩ := hc 2 3 rfl
  obtain ⟨z3, e3, k3⟩ := hc 3 3 rfl
  obtain ⟨z4, e4, k4⟩ := hc 4 23 rfl
  obtain ⟨x0, rfl, _⟩ := cell_int Tryd.underlying3 k0
  obtain ⟨x1, rfl⟩ := cell_str Tryd.underlying9 k1
  obtain ⟨x2, rfl, _⟩ := cell_int Tryd.underlying3 k2
  obtain ⟨x3, rfl, _⟩ := cell_int Tryd.underlying3 k3
  obtain ⟨x4, rfl, hu⟩ := cell_int Tryd.underlying23 k4
  obtain rfl := arr5 hs e0 e1 e2 e3 e4
  refine ⟨_, _, _, _, _, rfl, ?_⟩
  have := hu
  simp [IntKind.has, IntKind.min, IntKind.max, IntKind.signed, IntKind.bits] at this
  omega
theorem arr3 {cs : Array Value} {a b c : Value} (hs : cs.size = 3) (h0 : cs[0]? = some a) (h1 : cs[1]? = some b) (h2 : cs[2]? = some c) : cs = #[a, b, c] := by
  apply Array.ext'
  apply List.ext_getElem?
  intro i
  rw [Array.getElem?_toList]
  match i with
  | 0 => rw [h0]; rfl
  | 1 => rw [h1]; rfl
  | 2 => rw [h2]; rfl
  | i + 3 => rw [Array.getElem?_eq_none (by omega)]; rfl
theorem open_foot {W : World} {v : Value} {r : Reach} {b0 : Nat} (hval : Value.okWide Tryd.prog W r b0 68 v) : ∃ n l u, v = .agg #[.int .i64 n, .int .i64 l, .int .u32 u] ∧ 0 ≤ u ∧ u < 4294967296 := by
  obtain ⟨cs, rfl, hs, hc⟩ := cells_at (ts0 := [3, 3, 23]) Tryd.underlying68 (by kernel_rfl) (by kernel_rfl) hval
  obtain ⟨z0, e0, k0⟩ := hc 0 3 rfl
  obtain ⟨z1, e1, k1⟩ := hc 1 3 rfl
  obtain ⟨z2, e2, k2⟩ := hc 2 23 rfl
  obtain ⟨x0, rfl, _⟩ := cell_int Tryd.underlying3 k0
  obtain ⟨x1, rfl, _⟩ := cell_int Tryd.underlying3 k1
  obtain ⟨x2, rfl, hu⟩ := cell_int Tryd.underlying23 k2
  obtain rfl := arr3 hs e0 e1 e2
  refine ⟨_, _, _, rfl, ?_⟩
  have := hu
  simp [IntKind.has, IntKind.min, IntKind.max, IntKind.signed, IntKind.bits] at this
  omega
end Go.Proofs.YtbpknjldphckgaaDoor
