/- Lists that rise by keys. -/
import Derived.Test.YtlgkcbdpaffigaaSxLib
set_option linter.unusedSimpArgs false
set_option linter.unusedVariables false
namespace Go.SX
open Go
/-! ### Lists that rise by keys: plain mathematics -/
theorem less_cons (a b : UInt8) (x y : List UInt8) : Op.bytesLess (a :: x) (b :: y) = (decide (a < b) || a == b && Op.bytesLess x y) := rfl
theorem less_irr : ∀ x : List UInt8, Op.bytesLess x x = false
  | [] => rfl
  | a :: x => by
    have h : ¬ a < a := by rw [UInt8.lt_iff_toNat_lt]; omega
    rw [less_cons, less_irr x, decide_eq_false h]; simp
theorem less_cons_iff {a b : UInt8} {x y : List UInt8} : Op.bytesLess (a :: x) (b :: y) = true ↔ a.toNat < b.toNat ∨ (a = b ∧ Op.bytesLess x y = true) := by
  rw [less_cons]
  simp [UInt8.lt_iff_toNat_lt]
theorem less_trans : ∀ x y z : List UInt8, Op.bytesLess x y = true → Op.bytesLess y z = true → Op.bytesLess x z = true
  | x, [], _, h, _ => by cases x <;> cases h
  | _, _ :: _, [], _, h => by cases h
  | [], b :: y, c :: z, _, _ => rfl
  | a :: x, b :: y, c :: z, h1, h2 => by
    rw [less_cons_iff] at h1 h2 ⊢
    rcases h1 with h1 | ⟨rfl, h1⟩
    · rcases h2 with h2 | ⟨rfl, h2⟩
      · exact .inl (by omega)
      · exact .inl h1
    · rcases h2 with h2 | ⟨rfl, h2⟩
      · exact .inl h2
      · exact .inr ⟨rfl, less_trans x y z h1 h2⟩
theorem less_total : ∀ x y : List UInt8, Op.bytesLess x y = true ∨ x = y ∨ Op.bytesLess y x = true
  | [], [] => .inr (.inl rfl)
  | [], _ :: _ => .inl rfl
  | _ :: _, [] => .inr (.inr rfl)
  | a :: x, b :: y => by
    rw [less_cons_iff, less_cons_iff]
    by_cases e : a = b
    · subst e
      rcases less_total x y with h | h | h
      · exact .inl (.inr ⟨rfl, h⟩)
      · subst h; exact .inr (.inl rfl)
      · exact .inr (.inr (.inr ⟨rfl, h⟩))
    · have : a.toNat ≠ b.toNat := fun h => e (UInt8.toNat_inj.1 h)
      rcases Nat.lt_or_gt_of_ne this with h | h
      · exact .inl (.inl h)
      · exact .inr (.inr (.inl h))
theorem less_asym {x y : List UInt8} (h : Op.bytesLess x y = true) : Op.bytesLess y x = false := by
  cases h' : Op.bytesLess y x with
  | false => rfl
  | true =>
    have := less_trans _ _ _ h h'
    rw [less_irr] at this
    cases this
theorem less_ne {x y : List UInt8} (h : Op.bytesLess x y = true) : x ≠ y := fun e => by
  subst e
  rw [less_irr] at h
  cases h
section
variable {α : Type} (k : α → List UInt8)
/-- A list that rises by its keys. -/
def Asc : List α → Prop
  | [] => True
  | b :: r => (∀ c ∈ r, Op.bytesLess (k b) (k c) = true) ∧ Asc r
/-- Where a key stands, or would. -/
def pos : List α → List UInt8 → Nat
  | [], _ => 0
  | b :: r, s => if Op.bytesLess (k b) s = true then pos r s + 1 else 0
/-- Whether a key is there. -/
def has (l : List α) (s : List UInt8) : Bool := l.any fun b => k b == s
/-- The place of a key, by going through; -1: it isn't there. -/
def findK : List α → List UInt8 → Option Nat
  | [], _ => none
  | b :: r, s => if k b = s then some 0 else (findK r s).map (· + 1)
/-- A list without a key. -/
def withoutK (l : List α) (s : List UInt8) : List α := l.filter fun b => !(k b == s)
/-- One step of 'a list in which a member is'. -/
def putStep (s : List UInt8) (m : α) (st : List α × Bool) (b : α) : List α × Bool :=
  (let o := if st.2 = false ∧ (Op.bytesLess s (k b) || s == k b) = true then st.1 ++ [m] else st.1
   if s = k b then o else o ++ [b],
   st.2 || (Op.bytesLess s (k b) || s == k b))
def putGo (s : List UInt8) (m : α) (l : List α) : List α × Bool := l.foldl (putStep k s m) ([], false)
def withK (l : List α) (s : List UInt8) (m : α) : List α := if (putGo k s m l).2 = true then (putGo k s m l).1 else (putGo k s m l).1 ++ [m]
variable {k}
theorem pos_lt {b : α} {r : List α} {s : List UInt8} (h : Op.bytesLess (k b) s = true) : pos k (b :: r) s = pos k r s + 1 := by
  rw [pos, if_pos h]
theorem pos_ge {b : α} {r : List α} {s : List UInt8} (h : ¬ Op.bytesLess (k b) s = true) : pos k (b :: r) s = 0 := by
  rw [pos, if_neg h]
theorem pos_le : ∀ (l : List α) (s), pos k l s ≤ l.length
  | [], _ => Nat.le_refl _
  | b :: r, s => by
    unfold pos
    split
    · have := pos_le r s
      simp only [List.length_cons]; omega
    · exact Nat.zero_le _
theorem pos_below : ∀ (l : List α) (s) (i : Nat) (h : i < l.length), i < pos k l s → Op.bytesLess (k l[i]) s = true
  | b :: r, s, i, h, hp => by
    unfold pos at hp
    split at hp
    · rename_i hb
      cases i with
      | zero => exact hb
      | succ i => exact pos_below r s i (by simpa using h) (by omega)
    · omega
theorem pos_at : ∀ (l : List α) (s) (h : pos k l s < l.length), Op.bytesLess (k l[pos k l s]) s = false
  | b :: r, s, h => by
    by_cases hb : Op.bytesLess (k b) s = true
    · have e : pos k (b :: r) s = pos k r s + 1 := pos_lt hb
      simp only [e, List.getElem_cons_succ] at h ⊢
      exact pos_at r s (by simpa using h)
    · have e : pos k (b :: r) s = 0 := pos_ge hb
      simp only [e, List.getElem_cons_zero] at h ⊢
      simpa using hb
theorem asc_get : ∀ {l : List α}, Asc k l → ∀ (i j : Nat) (hij : i < j) (hj : j < l.length), Op.bytesLess (k (l[i]'(by omega))) (k l[j]) = true
  | b :: r, h, 0, j + 1, _, hj => h.1 _ (List.getElem_mem _)
  | b :: r, h, i + 1, j + 1, hij, hj => asc_get h.2 i j (by omega) (by simpa using hj)
theorem asc_of : ∀ {l : List α}, (∀ i (h : i + 1 < l.length), Op.bytesLess (k (l[i]'(by omega))) (k l[i + 1]) = true) → Asc k l
  | [], _ => trivial
  | b :: r, h => by
    have hr : Asc k r := asc_of fun i hi => h (i + 1) (by simpa using hi)
    refine ⟨fun c hc => ?_, hr⟩
    cases r with
    | nil => cases hc
    | cons d r =>
      have h0 := h 0 (by simp)
      simp only [List.getElem_cons_zero, List.getElem_cons_succ] at h0
      rcases List.mem_cons.1 hc with rfl | hc
      · exact h0
      · exact less_trans _ _ _ h0 (hr.1 c hc)
theorem asc_adj {l : List α} (h : Asc k l) (i : Nat) (hi : i + 1 < l.length) : Op.bytesLess (k (l[i]'(by omega))) (k l[i + 1]) = true := asc_get h i (i + 1) (by omega) hi
/-- The place that a search finds. -/
theorem pos_unique {l : List α} (h : Asc k l) {s : List UInt8} {i : Nat} (hi : i ≤ l.length) (h1 : ∀ j (hj : j < l.length), j < i → Op.bytesLess (k l[j]) s = true) (h2 : ∀ j (hj : j < l.length), i ≤ j → Op.bytesLess (k l[j]) s = false) : i = pos k l s := by
  have hle := pos_le (k := k) l s
  by_cases hlt : i < pos k l s
  · have a := pos_below l s i (by omega) hlt
    have b := h2 i (by omega) (Nat.le_refl _)
    rw [a] at b; cases b
  · by_cases hgt : pos k l s < i
    · have a := pos_at (k := k) l s (by omega)
      have b := h1 (pos k l s) (by omega) hgt
      rw [a] at b; cases b
    · omega
theorem asc_above {l : List α} (h : Asc k l) {s : List UInt8} {j : Nat} (hj : j < l.length) (hp : pos k l s ≤ j) : Op.bytesLess (k l[j]) s = false := by
  by_cases e : j = pos k l s
  · subst e; exact pos_at l s hj
  · have a := pos_at (k := k) l s (by omega)
    have b := asc_get h (pos k l s) j (by omega) hj
    cases c : Op.bytesLess (k l[j]) s with
    | false => rfl
    | true =>
      rw [less_trans _ _ _ b c] at a
      cases a
theorem has_eq : ∀ {l : List α}, Asc k l → ∀ s, has k l s = (match l[pos k l s]? with | some b => k b == s | none => false)
  | [], _, s => rfl
  | b :: r, h, s => by
    have ih := has_eq h.2 s
    by_cases hb : Op.bytesLess (k b) s = true
    · rw [pos_lt hb, List.getElem?_cons_succ]
      unfold has at ih ⊢
      rw [List.any_cons, ih]
      have : (k b == s) = false := by
        rw [beq_eq_false_iff_ne]
        exact less_ne hb
      rw [this, Bool.false_or]
    · rw [pos_ge hb, List.getElem?_cons_zero]
      unfold has
      rw [List.any_cons]
      by_cases e : k b = s
      · simp [e]
      · have h0 : (k b == s) = false := by simpa using e
        simp only [h0, Bool.false_or]
        rw [List.any_eq_false]
        intro c hc hcs
        have hc1 := h.1 c hc
        have hcs : k c = s := by simpa using hcs
        rw [hcs] at hc1
        exact hb hc1
theorem has_iff {l : List α} {s : List UInt8} : has k l s = true ↔ ∃ b ∈ l, k b = s := by
  unfold has
  simp
theorem has_get {l : List α} (h : Asc k l) {s : List UInt8} (hs : has k l s = true) : ∃ hp : pos k l s < l.length, k l[pos k l s] = s := by
  rw [has_eq h] at hs
  split at hs
  · rename_i b hb
    obtain ⟨hp, e⟩ := List.getElem?_eq_some_iff.1 hb
    exact ⟨hp, by rw [e]; simpa using hs⟩
  · cases hs
theorem findK_eq : ∀ {l : List α}, Asc k l → ∀ s, findK k l s = if has k l s = true then some (pos k l s) else none
  | [], _, s => rfl
  | b :: r, h, s => by
    have ih := findK_eq h.2 s
    unfold findK
    by_cases e : k b = s
    · rw [if_pos e]
      have h1 : has k (b :: r) s = true := by unfold has; simp [e]
      rw [if_pos h1, pos_ge (by rw [e, less_irr]; decide)]
    · rw [if_neg e, ih]
      have h0 : (k b == s) = false := by simpa using e
      have h1 : has k (b :: r) s = has k r s := by unfold has; rw [List.any_cons, h0, Bool.false_or]
      rw [h1]
      by_cases hr : has k r s = true
      · rw [if_pos hr, if_pos hr]
        obtain ⟨c, hc, ec⟩ := has_iff.1 hr
        have := h.1 c hc
        rw [ec] at this
        rw [pos_lt this]
        rfl
      · rw [if_neg hr, if_neg hr]; rfl
theorem filter_all {l : List α} {p : α → Bool} (h : ∀ c ∈ l, p c = true) : l.filter p = l := List.filter_eq_self.2 h
theorem withoutK_eq : ∀ {l : List α}, Asc k l → ∀ s, withoutK k l s = if has k l s = true then l.take (pos k l s) ++ l.drop (pos k l s + 1) else l
  | [], _, s => rfl
  | b :: r, h, s => by
    have ih := withoutK_eq h.2 s
    unfold withoutK at ih ⊢
    rw [List.filter_cons]
    by_cases e : k b = s
    · have h0 : (!(k b == s)) = false := by simp [e]
      rw [h0, if_neg (by decide)]
      have h1 : has k (b :: r) s = true := by unfold has; simp [e]
      rw [if_pos h1]
      have hp : pos k (b :: r) s = 0 := pos_ge (by rw [e, less_irr]; decide)
      rw [hp]
      simp only [List.take_zero, List.nil_append, Nat.zero_add, List.drop_succ_cons, List.drop_zero]
      refine filter_all fun c hc => ?_
      have := less_ne (h.1 c hc)
      rw [e] at this
      simpa using fun h => this h.symm
    · have h0 : (k b == s) = false := by simpa using e
      rw [h0]
      simp only [Bool.not_false, if_true]
      have h1 : has k (b :: r) s = has k r s := by unfold has; rw [List.any_cons, h0, Bool.false_or]
      rw [h1, ih]
      by_cases hr : has k r s = true
      · rw [if_pos hr, if_pos hr]
        obtain ⟨c, hc, ec⟩ := has_iff.1 hr
        have := h.1 c hc
        rw [ec] at this
        have hp : pos k (b :: r) s = pos k r s + 1 := pos_lt this
        rw [hp, List.take_succ_cons, List.drop_succ_cons, List.cons_append]
      · rw [if_neg hr, if_neg hr]
theorem putStep_foldl_put {s : List UInt8} {m : α} : ∀ (r : List α) (o : List α), (∀ c ∈ r, Op.bytesLess s (k c) = true) → r.foldl (putStep k s m) (o, true) = (o ++ r, true)
  | [], o, _ => by simp
  | b :: r, o, h => by
    have hb := h b List.mem_cons_self
    rw [List.foldl_cons]
    have e : putStep k s m (o, true) b = (o ++ [b], true) := by
      unfold putStep
      simp [less_ne hb]
    rw [e, putStep_foldl_put r _ fun c hc => h c (List.mem_cons_of_mem _ hc)]
    simp
theorem putGo_eq {s : List UInt8} {m : α} : ∀ {l : List α} (o : List α), Asc k l → l.foldl (putStep k s m) (o, false) =
    (if pos k l s < l.length then (o ++ l.take (pos k l s) ++ m :: l.drop (if has k l s = true then pos k l s + 1 else pos k l s), true) else (o ++ l, false))
  | [], o, _ => by simp [pos]
  | b :: r, o, h => by
    rw [List.foldl_cons]
    by_cases hb : Op.bytesLess (k b) s = true
    · have hn := less_ne hb
      have e : putStep k s m (o, false) b = (o ++ [b], false) := by
        unfold putStep
        have h1 : (s == k b) = false := by simpa using fun h => hn h.symm
        simp [less_asym hb, h1, show ¬ s = k b from fun h => hn h.symm]
      rw [e, putGo_eq (o ++ [b]) h.2]
      have hp : pos k (b :: r) s = pos k r s + 1 := pos_lt hb
      have h0 : (k b == s) = false := by simpa using hn
      have h1 : has k (b :: r) s = has k r s := by unfold has; rw [List.any_cons, h0, Bool.false_or]
      rw [hp, h1]
      simp only [List.length_cons, Nat.add_lt_add_iff_right]
      by_cases hlt : pos k r s < r.length
      · rw [if_pos hlt, if_pos hlt]
        by_cases hh : has k r s = true
        · simp [hh]
        · simp [hh]
      · rw [if_neg hlt, if_neg hlt]
        simp
    · have hp : pos k (b :: r) s = 0 := pos_ge hb
      rw [hp, if_pos (by simp)]
      rcases less_total s (k b) with h1 | h1 | h1
      · have e : putStep k s m (o, false) b = (o ++ [m] ++ [b], true) := by
          unfold putStep
          simp [h1, less_ne h1]
        rw [e, putStep_foldl_put r _ fun c hc => less_trans _ _ _ h1 (h.1 c hc)]
        have hh : has k (b :: r) s = false := by
          rw [has_eq h, hp]
          simpa using fun e => less_ne h1 e.symm
        simp [hh]
      · have e : putStep k s m (o, false) b = (o ++ [m], true) := by
          unfold putStep
          simp [h1]
        rw [e, putStep_foldl_put r _ fun c hc => by rw [h1]; exact h.1 c hc]
        have hh : has k (b :: r) s = true := by unfold has; simp [h1]
        simp [hh]
      · exact absurd h1 hb
theorem withK_eq {l : List α} (h : Asc k l) (s : List UInt8) (m : α) : withK k l s m = l.take (pos k l s) ++ m :: l.drop (if has k l s = true then pos k l s + 1 else pos k l s) := by
  unfold withK putGo
  rw [putGo_eq [] h]
  by_cases hlt : pos k l s < l.length
  · rw [if_pos hlt]
    simp
  · rw [if_neg hlt]
    have hle := pos_le (k := k) l s
    have hh : has k l s = false := by
      rw [has_eq h, List.getElem?_eq_none (by omega)]
    simp only [List.nil_append, Bool.false_eq_true, if_false, hh]
    rw [List.take_of_length_le (by omega), List.drop_eq_nil_of_le (by omega)]
theorem withK_has {l : List α} (h : Asc k l) {s : List UInt8} (m : α) (hs : has k l s = true) : withK k l s m = l.set (pos k l s) m := by
  obtain ⟨hp, _⟩ := has_get h hs
  rw [withK_eq h, if_pos hs, List.set_eq_take_append_cons_drop, if_pos hp]
theorem withK_not {l : List α} (h : Asc k l) {s : List UInt8} (m : α) (hs : has k l s = false) : withK k l s m = l.take (pos k l s) ++ m :: l.drop (pos k l s) := by
  rw [withK_eq h, if_neg (by rw [hs]; decide)]
theorem asc_app : ∀ {a b : List α}, Asc k a → Asc k b → (∀ x ∈ a, ∀ y ∈ b, Op.bytesLess (k x) (k y) = true) → Asc k (a ++ b)
  | [], _, _, hb, _ => hb
  | x :: a, b, ha, hb, h => ⟨fun c hc => by
      rcases List.mem_append.1 hc with hc | hc
      · exact ha.1 c hc
      · exact h x List.mem_cons_self c hc, asc_app ha.2 hb fun y hy z hz => h y (List.mem_cons_of_mem _ hy) z hz⟩
theorem asc_sub : ∀ {a b : List α}, a.Sublist b → Asc k b → Asc k a := by
  intro a b h
  induction h with
  | slnil => exact id
  | cons x _ ih => exact fun h => ih h.2
  | cons_cons x hs ih => exact fun h => ⟨fun c hc => h.1 c (hs.subset hc), ih h.2⟩
theorem asc_without {l : List α} (h : Asc k l) (s : List UInt8) : Asc k (withoutK k l s) := asc_sub List.filter_sublist h
theorem asc_with {l : List α} (h : Asc k l) {s : List UInt8} {m : α} (hm : k m = s) : Asc k (withK k l s m) := by
  rw [withK_eq h]
  refine asc_app (asc_sub (List.take_sublist _ _) h) ⟨fun c hc => ?_, asc_sub (List.drop_sublist _ _) h⟩ fun x hx y hy => ?_
  · obtain ⟨i, hi, e⟩ := List.getElem_of_mem hc
    rw [List.getElem_drop] at e
    subst e
    rw [List.length_drop] at hi
    have hj : (if has k l s = true then pos k l s + 1 else pos k l s) + i < l.length := by omega
    have h1 := asc_above h (s := s) hj (by split <;> omega)
    rw [hm]
    rcases less_total s (k l[(if has k l s = true then pos k l s + 1 else pos k l s) + i]) with a | a | a
    · exact a
    · exfalso
      have hh : has k l s = true := has_iff.2 ⟨_, List.getElem_mem hj, a.symm⟩
      obtain ⟨hp, e⟩ := has_get h hh
      have hlt : pos k l s < (if has k l s = true then pos k l s + 1 else pos k l s) + i := by rw [if_pos hh]; omega
      have := asc_get h _ _ hlt hj
      rw [e, ← a] at this
      rw [less_irr] at this
      cases this
    · rw [a] at h1; cases h1
  · obtain ⟨i, hi, e⟩ := List.getElem_of_mem hx
    rw [List.getElem_take] at e
    rw [List.length_take] at hi
    subst e
    have hb := pos_below (k := k) l s i (by omega) (by omega)
    rcases List.mem_cons.1 hy with rfl | hy
    · rw [hm]; exact hb
    · obtain ⟨j, hj, e⟩ := List.getElem_of_mem hy
      rw [List.getElem_drop] at e
      subst e
      rw [List.length_drop] at hj
      exact asc_get h _ _ (by split <;> omega) (by omega)
end
end Go.SX
namespace Go.SX
section
variable {α : Type} {k : α → List UInt8}
theorem findK_idx (l : List α) (s : List UInt8) : findK k l s = l.findIdx? fun b => k b == s := by
  induction l with
  | nil => rfl
  | cons b r ih =>
    rw [List.findIdx?_cons, findK, ih]
    by_cases e : k b = s
    · simp [e]
    · simp [e]
theorem findK_at {l : List α} {s : List UInt8} {j : Nat} (hj : j < l.length) (h : k l[j] = s) (hb : ∀ i (hi : i < l.length), i < j → k l[i] ≠ s) : findK k l s = some j := by
  rw [findK_idx, List.findIdx?_eq_some_iff_getElem]
  refine ⟨hj, by simpa using h, fun i hi => ?_⟩
  have := hb i (by omega) hi
  simpa using this
theorem findK_not {l : List α} {s : List UInt8} (hb : ∀ i (hi : i < l.length), k l[i] ≠ s) : findK k l s = none := by
  rw [findK_idx, List.findIdx?_eq_none_iff]
  intro x hx
  obtain ⟨i, hi, e⟩ := List.getElem_of_mem hx
  subst e
  simpa using hb i hi
theorem findK_has (l : List α) (s : List UInt8) : (findK k l s).isSome = has k l s := by
  induction l with
  | nil => rfl
  | cons b r ih =>
    unfold has at ih ⊢
    rw [findK, List.any_cons]
    by_cases e : k b = s
    · simp [e]
    · rw [if_neg e, Option.isSome_map, ih]
      simp [e]
theorem findK_some {l : List α} {s : List UInt8} {j : Nat} (h : findK k l s = some j) : ∃ hj : j < l.length, k l[j] = s := by
  rw [findK_idx, List.findIdx?_eq_some_iff_getElem] at h
  obtain ⟨hj, h1, _⟩ := h
  exact ⟨hj, by simpa using h1⟩
theorem withoutK_step {l : List α} {s : List UInt8} {j : Nat} (hj : j < l.length) : withoutK k (l.take (j + 1)) s = if k l[j] = s then withoutK k (l.take j) s else withoutK k (l.take j) s ++ [l[j]] := by
  unfold withoutK
  rw [List.take_succ_eq_append_getElem hj, List.filter_append]
  by_cases e : k l[j] = s <;> simp [e]
theorem putGo_step {l : List α} {s : List UInt8} {m : α} {j : Nat} (hj : j < l.length) : putGo k s m (l.take (j + 1)) = putStep k s m (putGo k s m (l.take j)) l[j] := by
  unfold putGo
  rw [List.take_succ_eq_append_getElem hj, List.foldl_append]
  rfl
end
/-- A place as a number; -1: none. -/
def idxO (o : Option Nat) : Int := match o with | some i => i | none => -1
theorem idxO_nonneg (o : Option Nat) : decide (idxO o ≥ 0) = o.isSome := by
  cases o with
  | none => rfl
  | some i => simp [idxO]
end Go.SX
