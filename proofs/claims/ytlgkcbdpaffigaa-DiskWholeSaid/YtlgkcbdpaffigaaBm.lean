import Derived.Test.YtlgkcbdpaffigaaBl
namespace Go.Proofs.Ytlgkcbdpaffigaa
open Go Go.SX Go.Proofs Go.Lib
set_option maxRecDepth 100000
set_option linter.unusedVariables false
set_option linter.unusedSimpArgs false
section
variable {w w' : World} {col col' : Col} {D : Nat} {s : St} {S : Nat → Prop}
theorem elem9 : elemOk Try.prog 9 1 = true := by kernel_rfl
theorem elem4 : elemOk Try.prog 4 1 = true := by kernel_rfl
theorem elem149 : elemOk Try.prog 149 2 = true := by kernel_rfl
/-- One element more in a row that a cell points at. -/
theorem Row0.push {o k : Nat} {e t ty : TypeId} {size n : Nat} {xs : List Value} (h : Row0 w col D o k e size n xs) (news : Array Value) (lt : ∀ i, col i ≠ 0 → i < w.heap.size) (frz : ∀ o, w.frozen? ⟨D, o, none⟩ = false) (hD : col D = 1) (hk : k ≠ 0 ∧ k ≠ 1)
    (ht : Try.prog.underlying t = some (.slice e)) (he : elemOk Try.prog e size = true) (hsz : 0 < size) (hl : news.size = size) (h1 : ∀ u ∈ news.toList, u.oneCell' = true) (hb : n + 1 ≤ 137438953472) :
    ∃ q c, w.cell? ⟨D, o, none⟩ = some (.slice q n c) ∧ (w.alloc (.cells news e)).cell? ⟨D, o, none⟩ = some (.slice q n c) ∧
      Runs Try.prog (Builtin.append_ #[t, t] ty #[.slice q n c, .slice (some ⟨w.heap.size, 0, none⟩) 1 1]) (w.alloc (.cells news e)) fun v w3 =>
        ∃ q' c', v = .slice q' (n + 1) c' ∧ Keeps (w.alloc (.cells news e)) w3 [] ∧ (∃ u, w3.cell? ⟨D, o, none⟩ = some u) ∧ w3.frozen? ⟨D, o, none⟩ = false ∧
          Kp (fun i => col i = k ∨ i = D) w (w3.setCell ⟨D, o, none⟩ (.slice q' (n + 1) c')) ∧ (∀ o' v, o' ≠ o → w.cell? ⟨D, o', none⟩ = some v → (w3.setCell ⟨D, o, none⟩ (.slice q' (n + 1) c')).cell? ⟨D, o', none⟩ = some v) ∧
          (∀ o', (w3.setCell ⟨D, o, none⟩ (.slice q' (n + 1) c')).frozen? ⟨D, o', none⟩ = false) ∧
          ∃ col', (∀ i, i < w.heap.size → col' i = col i) ∧ (∀ i, col' i ≠ 0 → i < (w3.setCell ⟨D, o, none⟩ (.slice q' (n + 1) c')).heap.size) ∧ Row0 (w3.setCell ⟨D, o, none⟩ (.slice q' (n + 1) c')) col' D o k e size (n + 1) (xs ++ news.toList) := by
  obtain ⟨q, c, l, r⟩ := h
  have hd : D < w.heap.size := lt D (by rw [hD]; omega)
  have nD : ¬ cl col k D := fun hh => by unfold cl at hh; omega
  refine ⟨q, c, l, cell_alloc _ l, ?_⟩
  refine append_new (own := cl col k) (xs := xs) news ht he hsz r hl h1 hb ?_
  intro q3 c3 w3 r3 k3 k3a
  have lD := k3.cell l nD
  obtain ⟨col1, g1, g2, r4⟩ := recolor lt k3.size r3
  have kD : Kp (one_ D) w3 (w3.setCell ⟨D, o, none⟩ (.slice q3 (n + 1) c3)) := Kp.setCell (S := one_ D) (x := ⟨D, o, none⟩) (Kp.refl (one_ D) w3) _ (.inl rfl)
  have sz : (w3.setCell ⟨D, o, none⟩ (.slice q3 (n + 1) c3)).heap.size = w3.heap.size := by simp [World.setCell]
  have hD1 : col1 D = 1 := (g1 D hd).trans hD
  refine ⟨q3, c3, rfl, k3a.keeps0, ⟨_, lD⟩, (k3.frz ⟨D, o, none⟩ hd).trans (frz o), (k3.mono fun i _ hi => .inl hi).trans (kD.mono fun i _ hi => .inr hi), fun o' v ho hv => by rw [cell_set_off _ (Ne.symm ho)]; exact k3.cell hv nD, fun o' => by rw [frozen_set]; exact (k3.frz ⟨D, o', none⟩ hd).trans (frz o'), col1, g1, fun i hi => ?_, ?_⟩
  · rw [sz]
    have := k3.size
    rcases g2 i hi with h | h <;> omega
  · exact ⟨q3, c3, cell_set_same _ lD, OwnRow.kpc r4 kD (fun i _ hh => by have e : i = D := hh; rw [e, hD1]; exact fun h => hk.2 h.symm) (fun _ _ => rfl)⟩
theorem grow_pos (s : St) (m : Nat) (h : s.size < m) : growSt s m = { s with size := m, now := fun p => if p < 512 * s.size then s.now p else 0, has := fun i => if i < s.size then s.has i else false } := if_pos h
theorem grow_grow (s : St) (m : Nat) (h : s.size ≤ m) : growSt (growSt s m) (m + 1) = growSt s (m + 1) := by
  have h2 : (growSt s m).size = m := by rw [growSt_size]; omega
  have e1 : growSt (growSt s m) (m + 1) = { growSt s m with size := m + 1, now := fun p => if p < 512 * m then (growSt s m).now p else 0, has := fun i => if i < m then (growSt s m).has i else false } := by
    rw [grow_pos _ _ (by rw [h2]; omega), h2]
  have e2 : growSt s (m + 1) = { s with size := m + 1, now := fun p => if p < 512 * s.size then s.now p else 0, has := fun i => if i < s.size then s.has i else false } := if_pos (by omega)
  rw [e1, e2]
  by_cases hm : s.size < m
  · have e3 : growSt s m = { s with size := m, now := fun p => if p < 512 * s.size then s.now p else 0, has := fun i => if i < s.size then s.has i else false } := if_pos hm
    rw [e3]
    simp only [St.mk.injEq, true_and, and_true]
    refine ⟨funext fun p => ?_, funext fun i => ?_⟩
    · by_cases c : p < 512 * (m : Int)
      · rw [if_pos c]
      · rw [if_neg c, if_neg (by omega)]
    · by_cases c : i < m
      · rw [if_pos c]
      · rw [if_neg c, if_neg (by omega)]
  · have e3 : growSt s m = s := if_neg hm
    have : m = s.size := by omega
    subst this
    rw [e3]
theorem strL_snoc (f g : Int → Int) (n : Nat) (t : ByteArray) (h : ∀ p : Int, p < 512 * n → g p = f p) (ht : strOf g (512 * n) 512 = t) : strL f n ++ [.string t] = strL g (n + 1) := by
  unfold strL
  rw [List.range_succ, List.map_append, List.map_cons, List.map_nil, ht]
  congr 1
  apply List.map_congr_left
  intro i hi
  have := List.mem_range.1 hi
  congr 1
  exact strOf_eq fun j hj => (h _ (by omega)).symm
theorem boolL_snoc (f g : Nat → Bool) (n : Nat) (t : Bool) (h : ∀ i, i < n → g i = f i) (ht : g n = t) : boolL f n ++ [.bool t] = boolL g (n + 1) := by
  unfold boolL
  rw [List.range_succ, List.map_append, List.map_cons, List.map_nil, ht]
  congr 1
  apply List.map_congr_left
  intro i hi
  rw [h i (List.mem_range.1 hi)]
theorem waitL_snoc (l : List (Nat × (Int → Int))) (e : Nat × (Int → Int)) : waitL l ++ waitC e = waitL (l ++ [e]) := by
  unfold waitL
  rw [List.flatMap_append, List.flatMap_cons, List.flatMap_nil, List.append_nil]
theorem growSt_ok {s : St} (h : s.Ok) {m : Nat} (hm : m ≤ 4096) : (growSt s m).Ok := by
  unfold growSt
  split
  · refine ⟨hm, fun p => ?_, h.safe, fun e he => ⟨?_, (h.wait e he).2⟩⟩
    · show isByte (if _ then _ else _)
      split
      · exact h.now p
      · unfold isByte; omega
    · have := (h.wait e he).1
      show e.1 < m
      omega
  · exact h
end
end Go.Proofs.Ytlgkcbdpaffigaa
