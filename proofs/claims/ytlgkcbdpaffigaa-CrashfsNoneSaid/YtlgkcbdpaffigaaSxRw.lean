/- Rows of records. -/
import Derived.Test.YtlgkcbdpaffigaaSxDec
import Derived.Test.YtlgkcbdpaffigaaSxBig
set_option linter.unusedSimpArgs false
set_option linter.unusedVariables false
namespace Go.SX
open Go
/-! ### Rows of records, of one size each -/
section
variable {β : Type} {C : β → List Value} {k : Nat}
def flatC (C : β → List Value) (l : List β) : List Value := l.flatMap C
theorem flatC_app (a b : List β) : flatC C (a ++ b) = flatC C a ++ flatC C b := by simp [flatC]
theorem flatC_one (b : β) : flatC C [b] = C b := by simp [flatC]
theorem flatC_len (hC : ∀ b, (C b).length = k) (l : List β) : (flatC C l).length = l.length * k := by
  induction l with
  | nil => simp [flatC]
  | cons b r ih =>
    have : flatC C (b :: r) = C b ++ flatC C r := by simp [flatC]
    rw [this, List.length_append, hC, ih, List.length_cons, Nat.add_mul]
    omega
theorem flatC_get (hC : ∀ b, (C b).length = k) : ∀ (l : List β) (i : Nat) (h : i < l.length) (j : Nat), j < k → (flatC C l)[i * k + j]? = (C l[i])[j]?
  | b :: r, 0, h, j, hj => by
    have : flatC C (b :: r) = C b ++ flatC C r := by simp [flatC]
    rw [this, List.getElem?_append_left (by rw [hC]; omega)]
    simp
  | b :: r, i + 1, h, j, hj => by
    have : flatC C (b :: r) = C b ++ flatC C r := by simp [flatC]
    rw [this, List.getElem?_append_right (by rw [hC, Nat.add_mul]; omega), hC, show (i + 1) * k + j - k = i * k + j by rw [Nat.add_mul]; omega]
    exact flatC_get hC r i (by simpa using h) j hj
theorem rows_of {w : World} {own : Nat → Prop} {e : TypeId} {q : Option Addr} {n c : Nat} {l : List β} (hC : ∀ b, (C b).length = k) (h0 : 0 < k) (h : OwnRow w own e k (.slice q n c) l.length (flatC C l)) : RowsAt w k C q l := fun i hi => by
  have at_ : ∀ j u, (C l[i])[j]? = some u → ∃ a, q = some a ∧ w.cell? (a.add (i * k + j)) = some u := fun j u hu => by
    have hj : j < k := by rw [← hC l[i]]; exact (List.getElem?_eq_some_iff.1 hu).1
    exact h.at (by rw [flatC_get hC l i hi j hj]; exact hu)
  obtain ⟨a, e, _⟩ := at_ 0 _ (List.getElem?_eq_getElem (by rw [hC]; exact h0))
  refine ⟨a, e, fun j u hu => ?_⟩
  obtain ⟨a', e', c⟩ := at_ j u hu
  rw [e] at e'
  cases e'
  rw [add_add]
  exact c
theorem RowsAt.kp {S : Nat → Prop} {w w' : World} {q : Option Addr} {l : List β} (h : RowsAt w k C q l) (hk : Kp S w w') (hs : 0 < l.length → ∀ a, q = some a → ¬ S a.block) : RowsAt w' k C q l := fun i hi => by
  obtain ⟨a, e, hc⟩ := h i hi
  exact ⟨a, e, fun j u hu => hk.cell (hc j u hu) (by rw [add_block, add_block]; exact hs (by omega) a e)⟩
theorem RowsAt.kp0 {w w' : World} {q : Option Addr} {l : List β} (h : RowsAt w k C q l) (hk : Kp none_ w w') : RowsAt w' k C q l := h.kp hk fun _ _ _ => id
/-- One record of a row. -/
theorem RowsAt.get {w : World} {q : Option Addr} {l : List β} (h : RowsAt w k C q l) {i : Nat} (hi : i < l.length) {K : Addr → Prop} (hK : ∀ a, q = some a → (∀ j u, (C l[i])[j]? = some u → w.cell? ((a.add (((i : Int).toNat) * k)).add j) = some u) → K a) : Ptr q K := by
  obtain ⟨a, e, hc⟩ := h i hi
  subst e
  exact hK a rfl (by rwa [Int.toNat_natCast])
/-- A row that lies in blocks of Q. -/
def RwIn (w : World) (Q : Nat → Prop) (k : Nat) (C : β → List Value) (q : Option Addr) (l : List β) : Prop := RowsAt w k C q l ∧ (0 < l.length → ∀ a, q = some a → Q a.block)
theorem RowsAt.lt {w : World} {q : Option Addr} {l : List β} (h : RowsAt w k C q l) (hC : ∀ b, (C b).length = k) (h0 : 0 < k) (hl : 0 < l.length) : ∀ a, q = some a → a.block < w.heap.size := fun a e => by
  obtain ⟨a', e', hc⟩ := h 0 hl
  rw [e] at e'
  cases e'
  have hz : 0 < (C l[0]).length := by rw [hC]; exact h0
  have := cell_lt (hc 0 _ (List.getElem?_eq_getElem hz))
  rwa [add_block, add_block] at this
theorem RwIn.kp {S Q Q' : Nat → Prop} {w w' : World} {q : Option Addr} {l : List β} (h : RwIn w Q k C q l) (hC : ∀ b, (C b).length = k) (h0 : 0 < k) (hk : Kp S w w') (hs : ∀ i, i < w.heap.size → Q i → ¬ S i ∧ Q' i) : RwIn w' Q' k C q l :=
  ⟨h.1.kp hk fun hl a e => (hs _ (h.1.lt hC h0 hl a e) (h.2 hl a e)).1, fun hl a e => (hs _ (h.1.lt hC h0 hl a e) (h.2 hl a e)).2⟩
theorem RwIn.nil (w : World) (Q : Nat → Prop) (q : Option Addr) : RwIn w Q k C q [] := ⟨fun i hi => by simp at hi, fun h => by simp at h⟩
/-- A row of one's own, laid or grown in blocks of Q. -/
theorem rwIn_of {w : World} {own Q : Nat → Prop} {e : TypeId} {q : Option Addr} {n c : Nat} {l : List β} (hC : ∀ b, (C b).length = k) (h0 : 0 < k) (h : OwnRow w own e k (.slice q n c) l.length (flatC C l)) (hQ : ∀ i, own i → Q i) : RwIn w Q k C q l := by
  refine ⟨rows_of hC h0 h, fun hl a ea => ?_⟩
  rcases h.2 with ⟨e1, e2⟩ | ⟨g, cap, cur, e1, hg, _⟩
  · omega
  · cases e1
    cases ea
    exact hQ _ hg
/-- One more record. -/
theorem push_row {P : Program} {w : World} {own : Nat → Prop} {t ty e : TypeId} {v : Value} {l : List β} {n : Nat} (b : β) {cs : Array Value} (hC : ∀ b, (C b).length = k) (h1 : ∀ b, ∀ u ∈ C b, u.oneCell' = true) (h0 : 0 < k) (ht : P.underlying t = some (.slice e)) (he : elemOk P e k = true) (hcs : cs.toList = C b) {K : Value → World → Prop} (hrow : OwnRow w own e k v n (flatC C l)) (hn : n = l.length) (hb : l.length + 1 ≤ 137438953472)
    (hK : ∀ q' c' w', OwnRow w' (fun i => own i ∨ fresh w i) e k (.slice q' (l.length + 1) c') (l ++ [b]).length (flatC C (l ++ [b])) → Kp own w w' → Kp own (w.alloc (.cells cs e)) w' → K (.slice q' (l.length + 1) c') w') :
    Runs P (Builtin.append_ #[t, t] ty #[v, .slice (some ⟨w.heap.size, 0, none⟩) 1 1]) (w.alloc (.cells cs e)) K := by
  subst hn
  refine append_new (own := own) (xs := flatC C l) cs ht he h0 hrow (by rw [← Array.length_toList, hcs, hC]) (fun u hu => h1 b u (by rw [← hcs]; exact hu)) hb fun q' c' w' r k1 k2 => hK q' c' w' ?_ k1 k2
  rw [flatC_app, flatC_one, ← hcs, List.length_append]
  exact r
end
/-! ### Some cells of a block -/
/-- From o on, block b holds vs, and may be written there. -/
def Cs (w : World) (b o : Nat) (vs : List Value) : Prop := ∀ j v, vs[j]? = some v → w.cell? ⟨b, o + j, none⟩ = some v ∧ w.frozen? ⟨b, o + j, none⟩ = false
/-- All other cells of b are as they were. -/
def Nb (b o n : Nat) (w w' : World) : Prop := ∀ j, (j < o ∨ o + n ≤ j) → w'.cell? ⟨b, j, none⟩ = w.cell? ⟨b, j, none⟩
theorem Nb.refl (b o n : Nat) (w : World) : Nb b o n w w := fun _ _ => rfl
theorem Nb.trans {b o n : Nat} {w w' w'' : World} (h : Nb b o n w w') (k : Nb b o n w' w'') : Nb b o n w w'' := fun j hj => (k j hj).trans (h j hj)
theorem cell_same {w w' : World} {a : Addr} (h : w'.heap[a.block]? = w.heap[a.block]?) : w'.cell? a = w.cell? a := by unfold World.cell?; rw [h]
theorem Nb.of_kp {S : Nat → Prop} {b o n : Nat} {w w' : World} (k : Kp S w w') (hb : b < w.heap.size) (hs : ¬ S b) : Nb b o n w w' := fun j _ => cell_same (a := ⟨b, j, none⟩) (k.same b hb hs)
theorem Cs.get {w : World} {b o : Nat} {vs : List Value} (h : Cs w b o vs) (j : Nat) {v : Value} (hv : vs[j]? = some v) : w.cell? ⟨b, o + j, none⟩ = some v := (h j v hv).1
theorem Cs.slot {w : World} {b o : Nat} {vs : List Value} (h : Cs w b o vs) (j : Nat) (hj : j < vs.length) : (∃ v, w.cell? ⟨b, o + j, none⟩ = some v) ∧ w.frozen? ⟨b, o + j, none⟩ = false := ⟨⟨_, (h j _ (List.getElem?_eq_getElem hj)).1⟩, (h j _ (List.getElem?_eq_getElem hj)).2⟩
theorem Cs.lt {w : World} {b o : Nat} {vs : List Value} (h : Cs w b o vs) (hl : 0 < vs.length) : b < w.heap.size := cell_lt (h 0 _ (List.getElem?_eq_getElem hl)).1
theorem Cs.kp {S : Nat → Prop} {w w' : World} {b o : Nat} {vs : List Value} (h : Cs w b o vs) (k : Kp S w w') (hs : ¬ S b) : Cs w' b o vs := fun j v hv => by
  obtain ⟨h1, h2⟩ := h j v hv
  exact ⟨k.cell h1 hs, (k.frz _ (cell_lt h1)).trans h2⟩
theorem Cs.kp0 {w w' : World} {b o : Nat} {vs : List Value} (h : Cs w b o vs) (k : Kp none_ w w') : Cs w' b o vs := h.kp k id
theorem Cs.set {w : World} {b o : Nat} {vs : List Value} (h : Cs w b o vs) (i : Nat) (u : Value) : Cs (w.setCell ⟨b, o + i, none⟩ u) b o (vs.set i u) := fun j v hv => by
  have hjl : j < vs.length := by have := (List.getElem?_eq_some_iff.1 hv).1; simpa using this
  obtain ⟨h1, h2⟩ := h j _ (List.getElem?_eq_getElem hjl)
  refine ⟨?_, by rw [frozen_set]; exact h2⟩
  by_cases hij : i = j
  · subst hij
    rw [List.getElem?_set_self hjl] at hv
    cases hv
    exact cell_set_same _ h1
  · rw [List.getElem?_set_ne hij] at hv
    rw [cell_set_off _ (by omega)]
    rw [List.getElem?_eq_getElem hjl] at hv
    cases hv
    exact h1
theorem Nb.set (w : World) {b o n i : Nat} (hi : i < n) (u : Value) : Nb b o n w (w.setCell ⟨b, o + i, none⟩ u) := fun j hj => cell_set_off _ (by omega)
theorem kp_set (w : World) (b j : Nat) (u : Value) : Kp (one_ b) w (w.setCell ⟨b, j, none⟩ u) := Kp.setCell (S := one_ b) (x := ⟨b, j, none⟩) (Kp.refl (one_ b) w) _ (.inl rfl)
theorem Big.cs {w : World} {b : Nat} {e : TypeId} {cs : List Value} (h : Big w b e cs) : Cs w b 0 cs := fun j v hv => by
  rw [Nat.zero_add]
  exact ⟨by rw [h.cell]; exact hv, h.frz j⟩
/-- Cells behind a change of neighbours. -/
theorem Cs.nb {S : Nat → Prop} {w w' : World} {b o n o' : Nat} {vs : List Value} (h : Cs w b o' vs) (k : Kp S w w') (nb : Nb b o n w w') (hd : o' + vs.length ≤ o ∨ o + n ≤ o') : Cs w' b o' vs := fun j v hv => by
  have hjl : j < vs.length := (List.getElem?_eq_some_iff.1 hv).1
  obtain ⟨h1, h2⟩ := h j v hv
  exact ⟨(nb _ (by omega)).trans h1, (k.frz _ (cell_lt h1)).trans h2⟩
end Go.SX
