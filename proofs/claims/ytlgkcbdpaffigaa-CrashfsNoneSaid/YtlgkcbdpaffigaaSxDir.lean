/- Directories of names. -/
import Derived.Test.YtlgkcbdpaffigaaSxKeys
set_option linter.unusedSimpArgs false
set_option linter.unusedVariables false
namespace Go.SX
open Go
/-! ### Directories of names: plain mathematics -/
/-- A name, and what it stands for. -/
abbrev Ent := List UInt8 × Int
/-- A change that waits. -/
structure Chg where
  fr : List UInt8
  tr : List UInt8
  id : Int
  deriving DecidableEq
def lookE (l : List Ent) (s : List UInt8) : Option Int := (l.find? fun x => x.1 == s).map (·.2)
abbrev withE (l : List Ent) (s : List UInt8) (id : Int) : List Ent := withK Prod.fst l s (s, id)
/-- The document's 'With': behind what is less. -/
def insStep (x : Ent) (st : List Ent × Bool) (b : Ent) : List Ent × Bool :=
  ((if st.2 = false ∧ Op.bytesLess x.1 b.1 = true then st.1 ++ [x] else st.1) ++ [b], st.2 || Op.bytesLess x.1 b.1)
def insGo (x : Ent) (l : List Ent) : List Ent × Bool := l.foldl (insStep x) ([], false)
def with5 (l : List Ent) (s : List UInt8) (id : Int) : List Ent :=
  if (insGo (s, id) (withoutK Prod.fst l s)).2 = true then (insGo (s, id) (withoutK Prod.fst l s)).1 else (insGo (s, id) (withoutK Prod.fst l s)).1 ++ [(s, id)]
theorem insStep_put {x : Ent} : ∀ (r o : List Ent), r.foldl (insStep x) (o, true) = (o ++ r, true)
  | [], o => by simp
  | b :: r, o => by
    rw [List.foldl_cons]
    have : insStep x (o, true) b = (o ++ [b], true) := by simp [insStep]
    rw [this, insStep_put r]
    simp
theorem insGo_eq {x : Ent} : ∀ {l : List Ent} (o : List Ent), Asc Prod.fst l → has Prod.fst l x.1 = false → l.foldl (insStep x) (o, false) =
    (if pos Prod.fst l x.1 < l.length then (o ++ l.take (pos Prod.fst l x.1) ++ x :: l.drop (pos Prod.fst l x.1), true) else (o ++ l, false))
  | [], o, _, _ => by simp [pos]
  | b :: r, o, h, hh => by
    have hne : b.1 ≠ x.1 := fun e => by
      have : has Prod.fst (b :: r) x.1 = true := has_iff.2 ⟨b, List.mem_cons_self, e⟩
      rw [hh] at this; cases this
    have hr : has Prod.fst r x.1 = false := by
      cases hc : has Prod.fst r x.1 with
      | false => rfl
      | true =>
        obtain ⟨c, hc1, hc2⟩ := has_iff.1 hc
        have : has Prod.fst (b :: r) x.1 = true := has_iff.2 ⟨c, List.mem_cons_of_mem _ hc1, hc2⟩
        rw [hh] at this; cases this
    rw [List.foldl_cons]
    by_cases hb : Op.bytesLess b.1 x.1 = true
    · have e : insStep x (o, false) b = (o ++ [b], false) := by simp [insStep, less_asym hb]
      rw [e, insGo_eq (o ++ [b]) h.2 hr]
      have hp : pos Prod.fst (b :: r) x.1 = pos Prod.fst r x.1 + 1 := pos_lt hb
      rw [hp]
      simp only [List.length_cons, Nat.add_lt_add_iff_right]
      by_cases hlt : pos Prod.fst r x.1 < r.length
      · rw [if_pos hlt, if_pos hlt]; simp
      · rw [if_neg hlt, if_neg hlt]; simp
    · have hp : pos Prod.fst (b :: r) x.1 = 0 := pos_ge hb
      have hl : Op.bytesLess x.1 b.1 = true := by
        rcases less_total x.1 b.1 with a | a | a
        · exact a
        · exact absurd a.symm hne
        · exact absurd a hb
      have e : insStep x (o, false) b = (o ++ [x] ++ [b], true) := by simp [insStep, hl]
      rw [e, insStep_put, hp, if_pos (by simp)]
      simp
theorem has_without {l : List Ent} (s : List UInt8) : has Prod.fst (withoutK Prod.fst l s) s = false := by
  cases h : has Prod.fst (withoutK Prod.fst l s) s with
  | false => rfl
  | true =>
    obtain ⟨b, hb, e⟩ := has_iff.1 h
    have := (List.mem_filter.1 hb).2
    simp [e] at this
theorem with5_eq {l : List Ent} (h : Asc Prod.fst l) (s : List UInt8) (id : Int) : with5 l s id = withE (withoutK Prod.fst l s) s id := by
  have ha := asc_without h s
  have hn := has_without (l := l) s
  have hle := pos_le (k := Prod.fst) (withoutK Prod.fst l s) s
  show _ = withK Prod.fst (withoutK Prod.fst l s) s (s, id)
  rw [withK_not ha _ hn]
  unfold with5 insGo
  rw [insGo_eq (x := (s, id)) [] ha hn]
  by_cases hlt : pos Prod.fst (withoutK Prod.fst l s) s < (withoutK Prod.fst l s).length
  · rw [if_pos hlt]; simp
  · rw [if_neg hlt]
    simp only [List.nil_append, Bool.false_eq_true, if_false]
    rw [List.take_of_length_le (by omega), List.drop_eq_nil_of_le (by omega)]
theorem mem_with {l : List Ent} (h : Asc Prod.fst l) {s : List UInt8} (hn : has Prod.fst l s = false) (id : Int) (x : Ent) : x ∈ withE l s id ↔ x = (s, id) ∨ x ∈ l := by
  show x ∈ withK Prod.fst l s (s, id) ↔ _
  rw [withK_not h _ hn]
  simp only [List.mem_append, List.mem_cons]
  have e : x ∈ l ↔ x ∈ l.take (pos Prod.fst l s) ∨ x ∈ l.drop (pos Prod.fst l s) := by
    rw [← List.mem_append, List.take_append_drop]
  rw [e]
  constructor
  · rintro (h | h | h)
    · exact .inr (.inl h)
    · exact .inl h
    · exact .inr (.inr h)
  · rintro (h | h | h)
    · exact .inr (.inl h)
    · exact .inl h
    · exact .inr (.inr h)
theorem mem_without {l : List Ent} {s : List UInt8} (x : Ent) : x ∈ withoutK Prod.fst l s ↔ x ∈ l ∧ x.1 ≠ s := by
  show x ∈ l.filter _ ↔ _
  rw [List.mem_filter]
  simp
theorem lookE_mem {l : List Ent} (h : Asc Prod.fst l) {s : List UInt8} {i : Int} : lookE l s = some i ↔ (s, i) ∈ l := by
  induction l with
  | nil => simp [lookE]
  | cons b r ih =>
    unfold lookE at ih ⊢
    rw [List.find?_cons]
    by_cases e : b.1 = s
    · simp only [e, beq_self_eq_true, Option.map_some, List.mem_cons]
      constructor
      · intro h'
        have : b.2 = i := by simpa using h'
        exact .inl (by rw [← e, ← this])
      · rintro (h' | h')
        · rw [← h']
        · have := h.1 _ h'
          rw [e] at this
          have : Op.bytesLess s s = true := this
          rw [less_irr] at this; cases this
    · have : (b.1 == s) = false := by simpa using e
      simp only [this, List.mem_cons]
      rw [ih h.2]
      constructor
      · exact .inr
      · rintro (h' | h')
        · rw [← h'] at e; exact absurd rfl e
        · exact h'
theorem look_has {l : List Ent} {s : List UInt8} : has Prod.fst l s = (lookE l s).isSome := by
  induction l with
  | nil => rfl
  | cons b r ih =>
    unfold has lookE at ih ⊢
    rw [List.any_cons, List.find?_cons]
    cases h : (b.1 == s) with
    | true => simp
    | false => simp only [Bool.false_or]; exact ih
/-- What a change makes of a list. -/
def doL (l : List Ent) (c : Chg) : List Ent :=
  if c.tr = [] then withoutK Prod.fst l c.fr else withE (withoutK Prod.fst (withoutK Prod.fst l c.fr) c.tr) c.tr ((lookE l c.fr).getD c.id)
/-- All that a list was, and is, behind changes. -/
def sts : List Ent → List Chg → List (List Ent)
  | S, [] => [S]
  | S, c :: r => S :: sts (doL S c) r
def lastE (S : List Ent) (ws : List Chg) : List Ent := ws.foldl doL S
theorem sts_len (S : List Ent) (ws : List Chg) : (sts S ws).length = ws.length + 1 := by
  induction ws generalizing S with
  | nil => rfl
  | cons c r ih => simp [sts, ih]
theorem sts_snoc (S : List Ent) (ws : List Chg) (c : Chg) : sts S (ws ++ [c]) = sts S ws ++ [doL (lastE S ws) c] := by
  induction ws generalizing S with
  | nil => rfl
  | cons d r ih => simp only [List.cons_append, sts, ih, lastE, List.foldl_cons]
theorem sts_get (S : List Ent) (ws : List Chg) (i : Nat) (h : i ≤ ws.length) : (sts S ws)[i]? = some (lastE S (ws.take i)) := by
  induction ws generalizing S i with
  | nil =>
    have : i = 0 := by simpa using h
    subst this; rfl
  | cons c r ih =>
    cases i with
    | zero => rfl
    | succ i => simp only [sts, List.getElem?_cons_succ, ih _ i (by simpa using h), List.take_succ_cons, lastE, List.foldl_cons]
/-- A list as a directory has it. -/
structure WfE (l : List Ent) : Prop where
  asc : Asc Prod.fst l
  len : l.length ≤ 16
  named : ∀ x ∈ l, 1 ≤ x.1.length ∧ x.1.length ≤ 100
theorem wfE_nil : WfE [] := ⟨trivial, by simp, fun x h => by cases h⟩
/-- A change that may be done to a list. -/
def okC (l : List Ent) (c : Chg) : Prop :=
  (c.fr = [] ∧ (1 ≤ c.tr.length ∧ c.tr.length ≤ 100) ∧ has Prod.fst l c.tr = false ∧ l.length < 16) ∨ (has Prod.fst l c.fr = true ∧ (c.tr = [] ∨ (1 ≤ c.tr.length ∧ c.tr.length ≤ 100)))
theorem WfE.no_empty {l : List Ent} (h : WfE l) : has Prod.fst l [] = false := by
  cases hh : has Prod.fst l [] with
  | false => rfl
  | true =>
    obtain ⟨b, hb, e⟩ := has_iff.1 hh
    have := (h.named b hb).1
    rw [e] at this
    simp at this
theorem without_none {l : List Ent} {s : List UInt8} (h : has Prod.fst l s = false) : withoutK Prod.fst l s = l := by
  refine filter_all fun c hc => ?_
  cases e : (c.1 == s) with
  | false => rfl
  | true =>
    have : has Prod.fst l s = true := has_iff.2 ⟨c, hc, by simpa using e⟩
    rw [h] at this; cases this
theorem len_without {l : List Ent} {s : List UInt8} (ha : Asc Prod.fst l) (h : has Prod.fst l s = true) : (withoutK Prod.fst l s).length + 1 = l.length := by
  show (withoutK Prod.fst l s).length + 1 = _
  rw [withoutK_eq ha, if_pos h]
  obtain ⟨hp, _⟩ := has_get ha h
  simp only [List.length_append, List.length_take, List.length_drop]
  omega
theorem len_with {l : List Ent} {s : List UInt8} (ha : Asc Prod.fst l) (h : has Prod.fst l s = false) (id : Int) : (withE l s id).length = l.length + 1 := by
  show (withK Prod.fst l s (s, id)).length = _
  rw [withK_not ha _ h]
  have := pos_le (k := Prod.fst) l s
  simp only [List.length_append, List.length_take, List.length_cons, List.length_drop]
  omega
theorem wf_do {l : List Ent} (h : WfE l) {c : Chg} (hc : okC l c) : WfE (doL l c) := by
  have ha1 := asc_without h.asc c.fr
  have ha2 := asc_without ha1 c.tr
  have hn2 := has_without (l := withoutK Prod.fst l c.fr) c.tr
  have hl1 : (withoutK Prod.fst l c.fr).length ≤ l.length := List.length_filter_le _ _
  have hl2 : (withoutK Prod.fst (withoutK Prod.fst l c.fr) c.tr).length ≤ (withoutK Prod.fst l c.fr).length := List.length_filter_le _ _
  have hlen := h.len
  have nm1 : ∀ x ∈ withoutK Prod.fst l c.fr, 1 ≤ x.1.length ∧ x.1.length ≤ 100 := fun x hx => h.named x ((mem_without x).1 hx).1
  unfold doL
  by_cases ht : c.tr = []
  · rw [if_pos ht]
    exact ⟨ha1, by omega, nm1⟩
  · rw [if_neg ht]
    have hnm : 1 ≤ c.tr.length ∧ c.tr.length ≤ 100 := by
      rcases hc with hc | hc
      · exact hc.2.1
      · rcases hc.2 with hc | hc
        · exact absurd hc ht
        · exact hc
    refine ⟨asc_with ha2 rfl, ?_, fun x hx => ?_⟩
    · rw [len_with ha2 hn2]
      rcases hc with hc | hc
      · have := hc.2.2.2; omega
      · have := len_without h.asc hc.1; omega
    · rcases (mem_with ha2 hn2 _ x).1 hx with hx | hx
      · rw [hx]; exact hnm
      · exact nm1 x ((mem_without x).1 hx).1
/-- Changes that may be done one behind the other. -/
def okCs : List Ent → List Chg → Prop
  | _, [] => True
  | S, c :: r => okC S c ∧ okCs (doL S c) r
theorem okCs_snoc {S : List Ent} {ws : List Chg} {c : Chg} : okCs S (ws ++ [c]) ↔ okCs S ws ∧ okC (lastE S ws) c := by
  induction ws generalizing S with
  | nil => simp [okCs, lastE]
  | cons d r ih => simp only [List.cons_append, okCs, ih, lastE, List.foldl_cons, and_assoc]
theorem okCs_take {S : List Ent} {ws : List Chg} (h : okCs S ws) (i : Nat) : okCs S (ws.take i) := by
  induction ws generalizing S i with
  | nil => simp [okCs]
  | cons c r ih =>
    cases i with
    | zero => trivial
    | succ i => exact ⟨h.1, ih h.2 i⟩
theorem wf_last {S : List Ent} (hS : WfE S) {ws : List Chg} (h : okCs S ws) : WfE (lastE S ws) := by
  induction ws generalizing S with
  | nil => exact hS
  | cons c r ih => exact ih (wf_do hS h.1) h.2
def idIn (l : List Ent) (i : Int) : Bool := l.any fun x => x.2 == i
theorem idIn_iff {l : List Ent} {i : Int} : idIn l i = true ↔ ∃ x ∈ l, x.2 = i := by simp [idIn]
def made (ws : List Chg) (i : Int) : Bool := ws.any fun c => c.fr == [] && c.id == i
theorem id_do {l : List Ent} (h : WfE l) {c : Chg} (hc : okC l c) {i : Int} (hi : idIn (doL l c) i = true) : idIn l i = true ∨ (c.fr = [] ∧ c.id = i) := by
  have ha1 := asc_without h.asc c.fr
  have ha2 := asc_without ha1 c.tr
  have hn2 := has_without (l := withoutK Prod.fst l c.fr) c.tr
  obtain ⟨x, hx, e⟩ := idIn_iff.1 hi
  unfold doL at hx
  by_cases ht : c.tr = []
  · rw [if_pos ht] at hx
    exact .inl (idIn_iff.2 ⟨x, ((mem_without x).1 hx).1, e⟩)
  · rw [if_neg ht] at hx
    rcases (mem_with ha2 hn2 _ x).1 hx with hx | hx
    · subst hx
      simp only at e
      rcases hc with hc | hc
      · have hno : lookE l c.fr = none := by
          have := look_has (l := l) (s := c.fr)
          rw [hc.1, h.no_empty] at this
          rw [hc.1]
          cases hl : lookE l [] with
          | none => rfl
          | some _ => rw [hl] at this; cases this
        rw [hno] at e
        exact .inr ⟨hc.1, e⟩
      · have := look_has (l := l) (s := c.fr)
        rw [hc.1] at this
        cases hl : lookE l c.fr with
        | none => rw [hl] at this; cases this
        | some k =>
          rw [hl] at e
          exact .inl (idIn_iff.2 ⟨(c.fr, k), (lookE_mem h.asc).1 hl, e⟩)
    · exact .inl (idIn_iff.2 ⟨x, ((mem_without x).1 ((mem_without x).1 hx).1).1, e⟩)
theorem id_made {l : List Ent} (h : WfE l) {c : Chg} (hc : okC l c) (hf : c.fr = []) : idIn (doL l c) c.id = true := by
  have ha1 := asc_without h.asc c.fr
  have ha2 := asc_without ha1 c.tr
  have hn2 := has_without (l := withoutK Prod.fst l c.fr) c.tr
  have hno : lookE l c.fr = none := by
    have := look_has (l := l) (s := c.fr)
    rw [hf, h.no_empty] at this
    rw [hf]
    cases hl : lookE l [] with
    | none => rfl
    | some _ => rw [hl] at this; cases this
  have ht : c.tr ≠ [] := fun ht => by
    rcases hc with hc | hc
    · have := hc.2.1.1; rw [ht] at this; simp at this
    · have := hc.1; rw [hf, h.no_empty] at this; cases this
  unfold doL
  rw [if_neg ht]
  exact idIn_iff.2 ⟨_, (mem_with ha2 hn2 _ _).2 (.inl rfl), by rw [hno]; rfl⟩
/-- Whether a name stands, or stood, for a number: said in two ways. -/
theorem linked_eq {S : List Ent} (hS : WfE S) {ws : List Chg} (h : okCs S ws) (i : Int) : ((sts S ws).any fun l => idIn l i) = (made ws i || (idIn (lastE S ws) i || idIn S i)) := by
  have fw : ∀ {S : List Ent} (hS : WfE S) {ws : List Chg} (h : okCs S ws), ((sts S ws).any fun l => idIn l i) = true → made ws i = true ∨ idIn S i = true := by
    intro S hS ws
    induction ws generalizing S with
    | nil => intro h hh; simp [sts] at hh; exact .inr hh
    | cons c r ih =>
      intro h hh
      simp only [sts, List.any_cons, Bool.or_eq_true] at hh
      rcases hh with hh | hh
      · exact .inr hh
      · rcases ih (wf_do hS h.1) h.2 hh with a | a
        · exact .inl (by unfold made at a ⊢; rw [List.any_cons, a, Bool.or_true])
        · rcases id_do hS h.1 a with b | ⟨b1, b2⟩
          · exact .inr b
          · exact .inl (by unfold made; rw [List.any_cons]; simp [b1, b2])
  have bw : ∀ {S : List Ent} (hS : WfE S) {ws : List Chg} (h : okCs S ws), made ws i = true → ((sts S ws).any fun l => idIn l i) = true := by
    intro S hS ws
    induction ws generalizing S with
    | nil => intro h hh; cases hh
    | cons c r ih =>
      intro h hh
      unfold made at hh ih
      rw [List.any_cons, Bool.or_eq_true] at hh
      simp only [sts, List.any_cons, Bool.or_eq_true]
      right
      rcases hh with hh | hh
      · simp only [Bool.and_eq_true, beq_iff_eq] at hh
        have := id_made hS h.1 hh.1
        rw [hh.2] at this
        cases r with
        | nil => simp [sts, this]
        | cons d r => simp [sts, this]
      · exact ih (wf_do hS h.1) h.2 hh
  have l0 : idIn S i = true → ((sts S ws).any fun l => idIn l i) = true := fun hh => by
    cases ws with
    | nil => simp [sts, hh]
    | cons c r => simp [sts, hh]
  have ln : idIn (lastE S ws) i = true → ((sts S ws).any fun l => idIn l i) = true := fun hh => by
    rw [List.any_eq_true]
    have := sts_get S ws ws.length (Nat.le_refl _)
    rw [List.take_length] at this
    exact ⟨_, List.mem_of_getElem? this, hh⟩
  rw [Bool.eq_iff_iff]
  simp only [Bool.or_eq_true]
  constructor
  · intro hh
    rcases fw hS h hh with a | a
    · exact .inl a
    · exact .inr (.inr a)
  · rintro (a | a | a)
    · exact bw hS h a
    · exact ln a
    · exact l0 a
/-- Two lists that rise and have the same elements are one. -/
theorem asc_ext {α : Type} {k : α → List UInt8} : ∀ {a b : List α}, Asc k a → Asc k b → (∀ x, x ∈ a ↔ x ∈ b) → a = b
  | [], [], _, _, _ => rfl
  | [], y :: b, _, _, h => by have := (h y).2 List.mem_cons_self; cases this
  | x :: a, [], _, _, h => by have := (h x).1 List.mem_cons_self; cases this
  | x :: a, y :: b, ha, hb, h => by
    have exy : x = y := by
      rcases List.mem_cons.1 ((h x).1 List.mem_cons_self) with e | h1
      · exact e
      · rcases List.mem_cons.1 ((h y).2 List.mem_cons_self) with e | h2
        · exact e.symm
        · have := less_trans _ _ _ (ha.1 y h2) (hb.1 x h1)
          rw [less_irr] at this; cases this
    subst exy
    have : a = b := asc_ext ha.2 hb.2 fun z => by
      constructor
      · intro hz
        rcases List.mem_cons.1 ((h z).1 (List.mem_cons_of_mem _ hz)) with e | hz'
        · subst e
          have := ha.1 z hz
          rw [less_irr] at this; cases this
        · exact hz'
      · intro hz
        rcases List.mem_cons.1 ((h z).2 (List.mem_cons_of_mem _ hz)) with e | hz'
        · subst e
          have := hb.1 z hz
          rw [less_irr] at this; cases this
        · exact hz'
    rw [this]
end Go.SX
