/- What an archive should be. -/
import Derived.Test.YtbpknjldphckgaaDoorSxKeys
import Derived.Test.YtbpknjldphckgaaDoorSxName
set_option linter.unusedSimpArgs false
set_option linter.unusedVariables false
namespace Go.SX
open Go
/-! ### What an archive should be: plain mathematics -/
/-- A file: its name, its data. -/
abbrev Fil := List UInt8 × List UInt8
structure Ans where
  e : Int
  data : List UInt8
  size : Int
  names : List (List UInt8)
  files : List Fil
  refused : Bool
  poisoned : Bool
structure Stp where
  kind : Int
  name : List UInt8
  data : List UInt8
structure MM where
  may : List (Bool × List Fil)
  opn : Bool
  poisoned : Bool
  streaming : Bool
  now : List Fil
  name : List UInt8
  data : List UInt8
def underF (l : List Fil) (f : List UInt8) : List (List UInt8) := (l.filter fun x => inF f x.1).map (·.1)
abbrev hasF (l : List Fil) (s : List UInt8) : Bool := has Prod.fst l s
/-- A name's data. -/
def findD (l : List Fil) (s : List UInt8) : List UInt8 := match l.find? (fun x => x.1 == s) with | some x => x.2 | none => []
def canM (m : MM) (s : Bool × List Fil) : Bool := m.may.any fun x => x.1 == s.1 && (!s.1 || decide (x.2 = s.2))
def someM (m : MM) (t : Bool) : Bool := m.may.any fun x => x.1 == t
def putEr (m : MM) (name : List UInt8) (size : Int) : Int :=
  if m.streaming = true then 8 else if m.poisoned = true then 11 else if okName name = false then 6 else if size > 65536 then 5 else
  if hasF m.now name = false ∧ 200 ≤ m.now.length then 14 else 0
def insE (m : MM) (o : Stp) : Int :=
  if o.kind = 3 then putEr m o.name o.data.length else
  if o.kind = 4 then putEr m o.name 0 else
  if o.kind = 5 ∨ o.kind = 6 ∨ o.kind = 7 then (if m.streaming = false then 15 else if o.kind = 5 ∧ (o.data.length : Int) > 65536 - m.data.length then 5 else 0) else
  if o.kind = 10 then 0 else
  if o.kind > 10 ∧ m.streaming = true then 8 else if o.kind > 10 ∧ m.poisoned = true then 11 else
  if o.kind < 12 ∧ hasF m.now o.name = false then 7 else 0
def toldM (m : MM) (o : Stp) (e : Int) : Bool :=
  if o.kind < 1 ∨ o.kind > 18 then e == 1 else
  if o.kind > 15 then e == 0 else
  if o.kind = 1 then (e == 0 && someM m false || e == 16 && someM m true) else
  if o.kind = 2 ∧ m.opn = true then e == 8 else
  if o.kind = 2 ∨ o.kind = 15 then (e == 0 && someM m true || e == 7 && someM m false) else
  if m.opn = false then e == 12 else e == insE m o
def callsM (k : Int) : Bool := decide ((1 ≤ k ∧ k ≤ 6) ∨ (11 ≤ k ∧ k ≤ 14))
/-- Whether an archive is open behind a step. -/
def openM (m : MM) (o : Stp) (a : Ans) : Bool :=
  if o.kind = 2 ∧ a.e = 0 then true else if o.kind = 18 ∨ (o.kind = 14 ∧ a.e ≠ 8) then false else m.opn
def bareA (a : Ans) : Bool := a.data == [] && a.size == 0 && a.names == [] && decide (a.files = [])
/-- What stands beside an error. -/
def plainM (m : MM) (o : Stp) (a : Ans) : Ans :=
  { e := a.e, refused := a.refused, poisoned := a.poisoned,
    data := if (a.e = 0 ∧ a.refused = false) ∧ o.kind = 8 then findD m.now o.name else [],
    size := if (a.e = 0 ∧ a.refused = false) ∧ o.kind = 9 then (findD m.now o.name).length else 0,
    names := if (a.e = 0 ∧ a.refused = false) ∧ o.kind = 10 then underF m.now o.name else [],
    files := if (a.e = 0 ∧ a.refused = false) ∧ (o.kind = 2 ∨ o.kind = 15) then a.files else [] }
def alikeA (a b : Ans) : Bool := a.e == b.e && a.data == b.data && a.size == b.size && a.names == b.names && decide (a.files = b.files) && a.refused == b.refused && a.poisoned == b.poisoned
def poisonM (m : MM) (o : Stp) (a : Ans) : Bool :=
  if openM m o a = false ∨ m.opn = false then !a.poisoned else
  if a.refused = true ∧ o.kind = 12 then a.poisoned else
  (a.refused && o.kind == 13) || a.poisoned == m.poisoned
def firstM (m : MM) (o : Stp) (a : Ans) : Bool :=
  if a.refused = true then callsM o.kind && toldM m o 0 && (a.e == 10 || a.e == 9) else toldM m o a.e
def secondM (m : MM) (o : Stp) (a : Ans) : Bool :=
  if a.refused = false ∧ a.e = 0 ∧ (o.kind = 2 ∨ o.kind = 15) then canM m (true, a.files) else true
def mayM (m : MM) (o : Stp) (a : Ans) : Bool := alikeA a (plainM m o a) && (firstM m o a && (secondM m o a && poisonM m o a))
/-- The program's. -/
def besideM (m : MM) (o : Stp) (a : Ans) : Bool :=
  if o.kind = 8 then findD m.now o.name == a.data && bareA { a with data := [] } else
  if o.kind = 9 then a.size == ((findD m.now o.name).length : Int) && bareA { a with size := 0 } else
  if o.kind = 10 then a.names == underF m.now o.name && bareA { a with names := [] } else
  if o.kind = 2 ∨ o.kind = 15 then canM m (true, a.files) && bareA { a with files := [] } else bareA a
def givenM (m : MM) (o : Stp) (a : Ans) : Bool :=
  if a.refused = true then callsM o.kind && (toldM m o 0 && ((a.e == 10 || a.e == 9) && bareA a)) else
  if toldM m o a.e = false then false else if a.e ≠ 0 then bareA a else besideM m o a
theorem bareA_iff (a : Ans) : bareA a = true ↔ a.data = [] ∧ a.size = 0 ∧ a.names = [] ∧ a.files = [] := by
  unfold bareA
  simp [and_assoc]
theorem given_may (m : MM) (o : Stp) (a : Ans) : (givenM m o a && poisonM m o a) = mayM m o a := by
  have key : givenM m o a = (alikeA a (plainM m o a) && (firstM m o a && secondM m o a)) := by
    obtain ⟨e, data, size, names, files, refused, poisoned⟩ := a
    unfold givenM firstM secondM
    cases refused with
    | true =>
      have h1 : plainM m o ⟨e, data, size, names, files, true, poisoned⟩ = ⟨e, [], 0, [], [], true, poisoned⟩ := by unfold plainM; simp
      rw [h1]
      simp only [if_true, Bool.true_eq_false, false_and, if_false, Bool.and_true]
      unfold alikeA bareA
      simp only [beq_self_eq_true, Bool.true_and, Bool.and_true]
      rw [Bool.eq_iff_iff]
      simp only [Bool.and_eq_true]
      constructor
      · rintro ⟨h1, h2, h3, h4⟩; exact ⟨h4, ⟨h1, h2⟩, h3⟩
      · rintro ⟨h4, ⟨h1, h2⟩, h3⟩; exact ⟨h1, h2, h3, h4⟩
    | false =>
      simp only [Bool.false_eq_true, if_false, true_and]
      by_cases he : e = 0
      · subst he
        by_cases ht : toldM m o 0 = true
        · rw [if_neg (by rw [ht]; decide), if_neg (by simp)]
          simp only [ht, Bool.true_and]
          unfold besideM plainM alikeA bareA
          simp only [true_and, and_true, beq_self_eq_true, Bool.and_true, Bool.true_and]
          by_cases h8 : o.kind = 8
          · simp [h8, Bool.beq_comm, BEq.comm, Bool.and_assoc]
          · by_cases h9 : o.kind = 9
            · simp [h9]
              cases hs : (size == ((findD m.now o.name).length : Int)) <;> simp
            · by_cases h10 : o.kind = 10
              · simp [h10]
                cases hs : (names == underF m.now o.name) <;> simp
              · by_cases h2 : o.kind = 2 ∨ o.kind = 15
                · simp only [h8, h9, h10, if_false, if_pos h2]
                  cases hs : canM m (true, files) <;> simp
                · simp only [h8, h9, h10, if_false, if_neg h2, Bool.and_true]
        · rw [if_pos (by simpa using ht)]
          have : toldM m o 0 = false := by simpa using ht
          rw [this]; simp
      · have h1 : plainM m o ⟨e, data, size, names, files, false, poisoned⟩ = ⟨e, [], 0, [], [], false, poisoned⟩ := by unfold plainM; simp [he]
        rw [h1]
        simp only [he, false_and, if_false, Bool.and_true, ne_eq, not_false_eq_true, if_true]
        unfold alikeA bareA
        simp only [beq_self_eq_true, Bool.true_and, Bool.and_true]
        cases ht : toldM m o e <;> simp
  rw [key]
  unfold mayM
  simp only [Bool.and_assoc]
/-- The document's model behind an answer. -/
def doneM (m n : MM) (o : Stp) (a : Ans) : MM :=
  if o.kind = 1 then { n with may := [(true, [])] } else
  if o.kind = 2 then { n with now := a.files, may := [(true, a.files)] } else
  if o.kind = 3 then { n with now := withK Prod.fst m.now o.name (o.name, o.data) } else
  if o.kind = 4 then { n with streaming := true, name := o.name, data := [] } else
  if o.kind = 5 then { n with data := m.data ++ o.data } else
  if o.kind = 6 then { n with now := withK Prod.fst m.now m.name (m.name, m.data), streaming := false } else
  if o.kind = 7 then { n with streaming := false } else
  if o.kind = 11 then { n with now := withoutK Prod.fst m.now o.name } else
  if o.kind = 12 ∨ o.kind = 13 ∨ o.kind = 14 then { n with may := [(true, m.now)] } else n
def baseM (m : MM) (o : Stp) (a : Ans) : MM :=
  { m with poisoned := a.poisoned, opn := openM m o a, streaming := if openM m o a = false then false else m.streaming, now := if openM m o a = false then [] else m.now,
           may := if o.kind = 2 ∧ a.e = 7 then [(false, [])] else m.may }
def stepM (m : MM) (o : Stp) (a : Ans) : MM :=
  if a.refused = true then
    { baseM m o a with may := if 12 ≤ o.kind ∧ o.kind ≤ 14 then m.may ++ [(true, m.now)] else if o.kind = 1 then m.may ++ [(true, [])] else (baseM m o a).may }
  else if a.e = 0 then doneM m (baseM m o a) o a else baseM m o a
/-- The program's model behind an answer. -/
def refusedP (m : MM) (o : Stp) : MM :=
  if o.kind = 1 then { m with may := m.may ++ [(true, [])] } else
  if o.kind = 12 ∨ o.kind = 13 ∨ o.kind = 14 then { m with may := m.may ++ [(true, m.now)] } else m
def doneP (m : MM) (o : Stp) (a : Ans) : MM :=
  if o.kind = 1 then { m with may := [(true, [])] } else
  if o.kind = 2 then { m with opn := true, now := a.files, may := [(true, a.files)] } else
  if o.kind = 3 then { m with now := withK Prod.fst m.now o.name (o.name, o.data) } else
  if o.kind = 4 then { m with streaming := true, name := o.name, data := [] } else
  if o.kind = 5 then { m with data := m.data ++ o.data } else
  if o.kind = 6 then { m with now := withK Prod.fst m.now m.name (m.name, m.data), streaming := false } else
  if o.kind = 7 then { m with streaming := false } else
  if o.kind = 11 then { m with now := withoutK Prod.fst m.now o.name } else
  if o.kind = 12 ∨ o.kind = 13 ∨ o.kind = 14 then { m with may := [(true, m.now)] } else m
def midP (m : MM) (o : Stp) (a : Ans) : MM :=
  if a.refused = true then refusedP m o else if a.e = 0 then doneP m o a else if a.e = 7 ∧ o.kind = 2 then { m with may := [(false, [])] } else m
def endP (m : MM) (a : Ans) (shut : Bool) : MM := if shut = true then { m with poisoned := a.poisoned, opn := false, streaming := false, now := [], data := [] } else { m with poisoned := a.poisoned }
def stepP (m : MM) (o : Stp) (a : Ans) : MM := endP (midP m o a) a (!openM m o a)
/-- Files as an archive has them. -/
def OkF (l : List Fil) : Prop := Asc Prod.fst l ∧ l.length ≤ 200
/-- The program's model p is the document's m. -/
structure RelM (p m : MM) : Prop where
  may : p.may = m.may
  opn : p.opn = m.opn
  poisoned : p.poisoned = m.poisoned
  streaming : p.streaming = m.streaming
  now : p.now = m.now
  text : m.streaming = true → p.name = m.name ∧ p.data = m.data ∧ m.data.length ≤ 65536 ∧ (hasF m.now m.name = true ∨ m.now.length < 200)
  shut : m.opn = false → m.streaming = false ∧ m.now = []
  okNow : OkF m.now
  okMay : ∀ x ∈ m.may, OkF x.2
/-- The model at its beginning. -/
def newM : MM := ⟨[(false, [])], false, false, false, [], [], []⟩
theorem okF_nil : OkF [] := ⟨trivial, by simp⟩
theorem relM_new : RelM newM newM := by
  refine ⟨rfl, rfl, rfl, rfl, rfl, fun h => ?_, fun _ => ⟨rfl, rfl⟩, okF_nil, fun x hx => ?_⟩
  · exact absurd h (by decide)
  · have : x = (false, []) := by simpa [newM] using hx
    subst this
    exact okF_nil
theorem okF_with {l : List Fil} (h : OkF l) (s d : List UInt8) (hl : hasF l s = true ∨ l.length < 200) : OkF (withK Prod.fst l s (s, d)) := by
  refine ⟨asc_with h.1 rfl, ?_⟩
  have hle := h.2
  cases hh : hasF l s with
  | true => rw [withK_has h.1 _ hh, List.length_set]; exact hle
  | false =>
    rw [withK_not h.1 _ hh]
    have := pos_le (k := Prod.fst) l s
    simp only [List.length_append, List.length_take, List.length_cons, List.length_drop]
    rw [hh] at hl
    rcases hl with hl | hl
    · cases hl
    · omega
theorem okF_without {l : List Fil} (h : OkF l) (s : List UInt8) : OkF (withoutK Prod.fst l s) := ⟨asc_without h.1 s, Nat.le_trans (List.length_filter_le _ _) h.2⟩
theorem canM_ok {m : MM} (h : ∀ x ∈ m.may, OkF x.2) {l : List Fil} (hc : canM m (true, l) = true) : OkF l := by
  unfold canM at hc
  rw [List.any_eq_true] at hc
  obtain ⟨x, hx, e⟩ := hc
  simp at e
  rw [← e.2]
  exact h x hx
/-- A step of an archive that must be open: it is. -/
theorem told_open {m : MM} {o : Stp} (h : toldM m o 0 = true) (hk : 3 ≤ o.kind ∧ o.kind ≤ 14) : m.opn = true ∧ insE m o = 0 := by
  unfold toldM at h
  rw [if_neg (by omega), if_neg (by omega), if_neg (by omega), if_neg (by omega), if_neg (by omega)] at h
  cases ho : m.opn with
  | false => rw [ho] at h; simp at h
  | true =>
    rw [ho] at h
    simp at h
    exact ⟨rfl, h.symm⟩
theorem putEr_zero {m : MM} {s : List UInt8} {z : Int} (h : putEr m s z = 0) : m.streaming = false ∧ okName s = true ∧ z ≤ 65536 ∧ (hasF m.now s = true ∨ m.now.length < 200) := by
  unfold putEr at h
  split at h
  · cases h
  · rename_i h1
    split at h
    · cases h
    · split at h
      · cases h
      · rename_i h2
        split at h
        · cases h
        · rename_i h3
          split at h
          · cases h
          · rename_i h4
            refine ⟨by simpa using h1, by simpa using h2, by omega, ?_⟩
            cases hh : hasF m.now s with
            | true => exact .inl rfl
            | false => exact .inr (by
                rcases Nat.lt_or_ge m.now.length 200 with hl | hl
                · exact hl
                · exact absurd ⟨hh, hl⟩ h4)
theorem may_first {m : MM} {o : Stp} {a : Ans} (h : mayM m o a = true) : firstM m o a = true ∧ secondM m o a = true := by
  unfold mayM at h
  simp only [Bool.and_eq_true] at h
  exact ⟨h.2.1, h.2.2.1⟩
theorem ins_rel {p m : MM} (r : RelM p m) (o : Stp) : insE p o = insE m o := by
  unfold insE putEr
  rw [r.streaming, r.poisoned, r.now]
  cases hs : m.streaming with
  | false => simp
  | true => rw [(r.text hs).2.1]
theorem told_rel {p m : MM} (r : RelM p m) (o : Stp) (e : Int) : toldM p o e = toldM m o e := by
  unfold toldM someM
  rw [ins_rel r, r.may, r.opn]
theorem open_rel {p m : MM} (r : RelM p m) (o : Stp) (a : Ans) : openM p o a = openM m o a := by unfold openM; rw [r.opn]
theorem may_rel {p m : MM} (r : RelM p m) (o : Stp) (a : Ans) : mayM p o a = mayM m o a := by
  unfold mayM alikeA plainM firstM secondM poisonM canM
  simp only [told_rel r, open_rel r, r.may, r.opn, r.poisoned, r.now]
/-- The ends of a step: the archive is open still, or not. -/
theorem rel_end {p m q n : MM} {a : Ans} {sh : Bool} (hmay : q.may = n.may) (hpo : n.poisoned = a.poisoned) (hst : sh = false → q.streaming = n.streaming ∧ q.now = n.now ∧ q.opn = n.opn ∧ n.opn = true) (hsh : sh = true → n.opn = false ∧ n.streaming = false ∧ n.now = [])
    (ht : n.streaming = true → q.name = n.name ∧ q.data = n.data ∧ n.data.length ≤ 65536 ∧ (hasF n.now n.name = true ∨ n.now.length < 200)) (hn : OkF n.now) (hm : ∀ x ∈ n.may, OkF x.2) : RelM (endP q a sh) n := by
  unfold endP
  cases sh with
  | false =>
    obtain ⟨h1, h2, h3, h4⟩ := hst rfl
    exact ⟨hmay, h3, hpo.symm, h1, h2, ht, fun h => (by rw [h4] at h; cases h), hn, hm⟩
  | true =>
    obtain ⟨h1, h2, h3⟩ := hsh rfl
    refine ⟨hmay, h1.symm, hpo.symm, h2.symm, h3.symm, fun h => ?_, fun _ => ⟨h2, h3⟩, hn, hm⟩
    rw [h2] at h; cases h
theorem rel_step {p m : MM} {o : Stp} {a : Ans} (r : RelM p m) (h : mayM m o a = true) : RelM (stepP p o a) (stepM m o a) := by
  obtain ⟨h1, h2⟩ := may_first h
  have hop := open_rel r o a
  have okn : OkF (if openM m o a = false then [] else m.now) := by
    split
    · exact okF_nil
    · exact r.okNow
  have base_shut : openM m o a = false → (baseM m o a).opn = false ∧ (baseM m o a).streaming = false ∧ (baseM m o a).now = [] := fun e => by
    unfold baseM
    rw [e]
    exact ⟨rfl, rfl, rfl⟩
  have base_open : openM m o a = true → (baseM m o a).opn = true ∧ (baseM m o a).streaming = m.streaming ∧ (baseM m o a).now = m.now := fun e => by
    unfold baseM
    rw [e]
    exact ⟨rfl, rfl, rfl⟩
  have base_text : (baseM m o a).streaming = true → p.name = (baseM m o a).name ∧ p.data = (baseM m o a).data ∧ (baseM m o a).data.length ≤ 65536 ∧ (hasF (baseM m o a).now (baseM m o a).name = true ∨ (baseM m o a).now.length < 200) := fun e => by
    cases ho : openM m o a with
    | false => rw [(base_shut ho).2.1] at e; cases e
    | true =>
      obtain ⟨_, b2, b3⟩ := base_open ho
      rw [b2] at e
      obtain ⟨t1, t2, t3, t4⟩ := r.text e
      exact ⟨t1, t2, t3, by rw [b3]; exact t4⟩
  have no_text : m.streaming = false → ∀ {A : Prop}, (baseM m o a).streaming = true → A := fun e A h => by
    have : (baseM m o a).streaming = false := by
      unfold baseM
      simp only [e]
      split <;> rfl
    rw [this] at h; cases h
  have snoc_ok : ∀ y : Bool × List Fil, OkF y.2 → ∀ x ∈ m.may ++ [y], OkF x.2 := fun y hy x hx => by
    rcases List.mem_append.1 hx with hx | hx
    · exact r.okMay x hx
    · rw [List.mem_singleton] at hx
      subst hx
      exact hy
  have one_ok : ∀ y : Bool × List Fil, OkF y.2 → ∀ x ∈ [y], OkF x.2 := fun y hy x hx => by
    rw [List.mem_singleton] at hx
    subst hx
    exact hy
  -- an open archive stays open where the step is none of the three that may shut it
  have stay : m.opn = true → o.kind ≠ 2 → o.kind ≠ 18 → o.kind ≠ 14 → openM m o a = true := fun ho k2 k18 k14 => by
    unfold openM
    rw [if_neg (fun h => k2 h.1), if_neg (by rintro (h | h); exact k18 h; exact k14 h.1)]
    exact ho
  have open_of : openM m o a = true → ¬ (o.kind = 2 ∧ a.e = 0) → m.opn = true := fun e hn => by
    unfold openM at e
    rw [if_neg hn] at e
    split at e
    · cases e
    · exact e
  unfold stepP
  rw [hop]
  unfold stepM midP
  cases hr : a.refused with
  | true =>
    simp only [if_true]
    unfold firstM at h1
    rw [hr] at h1
    simp only [if_true, Bool.and_eq_true, Bool.or_eq_true, beq_iff_eq] at h1
    obtain ⟨⟨hc, ht⟩, he⟩ := h1
    have hk : (1 ≤ o.kind ∧ o.kind ≤ 6) ∨ (11 ≤ o.kind ∧ o.kind ≤ 14) := by unfold callsM at hc; exact of_decide_eq_true hc
    have hbm : (baseM m o a).may = m.may := by
      unfold baseM
      simp only
      rw [if_neg (by omega)]
    have hmay : (refusedP p o).may = (if 12 ≤ o.kind ∧ o.kind ≤ 14 then m.may ++ [(true, m.now)] else if o.kind = 1 then m.may ++ [(true, [])] else (baseM m o a).may) := by
      unfold refusedP
      by_cases k1 : o.kind = 1
      · rw [if_pos k1, if_neg (by omega), if_pos k1, r.may]
      · by_cases k2 : o.kind = 12 ∨ o.kind = 13 ∨ o.kind = 14
        · rw [if_neg k1, if_pos k2, if_pos (by omega), r.may, r.now]
        · rw [if_neg k1, if_neg k2, if_neg (by omega), if_neg k1, hbm, r.may]
    have hsame : (refusedP p o).streaming = p.streaming ∧ (refusedP p o).now = p.now ∧ (refusedP p o).opn = p.opn ∧ (refusedP p o).name = p.name ∧ (refusedP p o).data = p.data := by
      unfold refusedP
      split
      · exact ⟨rfl, rfl, rfl, rfl, rfl⟩
      · split <;> exact ⟨rfl, rfl, rfl, rfl, rfl⟩
    obtain ⟨s1, s2, s3, s4, s5⟩ := hsame
    refine rel_end (p := p) (m := m) hmay rfl (fun e => ?_) (fun e => ?_) (fun e => ?_) okn ?_
    · have e' : openM m o a = true := by simpa using e
      obtain ⟨b1, b2, b3⟩ := base_open e'
      refine ⟨?_, ?_, ?_, b1⟩
      · rw [s1, r.streaming]; exact b2.symm
      · rw [s2, r.now]; exact b3.symm
      · rw [s3, r.opn, open_of e' (by omega)]; exact b1.symm
    · exact base_shut (by simpa using e)
    · rw [s4, s5]; exact base_text e
    · simp only
      split
      · exact snoc_ok _ r.okNow
      · split
        · exact snoc_ok _ okF_nil
        · rw [hbm]; exact r.okMay
  | false =>
    simp only [Bool.false_eq_true, if_false]
    unfold firstM at h1
    rw [hr] at h1
    simp only [Bool.false_eq_true, if_false] at h1
    by_cases he : a.e = 0
    · rw [if_pos he, if_pos he]
      rw [he] at h1
      have hbm : (baseM m o a).may = m.may := by
        unfold baseM
        simp only
        rw [if_neg (by omega)]
      unfold doneP doneM
      by_cases k1 : o.kind = 1
      · rw [if_pos k1, if_pos k1]
        refine rel_end (p := p) (m := m) rfl rfl (fun e => ?_) (fun e => base_shut (by simpa using e)) base_text okn (one_ok _ okF_nil)
        have e' : openM m o a = true := by simpa using e
        obtain ⟨b1, b2, b3⟩ := base_open e'
        exact ⟨r.streaming.trans b2.symm, r.now.trans b3.symm, by rw [r.opn, open_of e' (by omega)]; exact b1.symm, b1⟩
      rw [if_neg k1, if_neg k1]
      by_cases k2 : o.kind = 2
      · rw [if_pos k2, if_pos k2]
        have ho : openM m o a = true := by unfold openM; rw [if_pos ⟨k2, he⟩]
        obtain ⟨b1, b2, b3⟩ := base_open ho
        have hcan : canM m (true, a.files) = true := by
          unfold secondM at h2
          rw [if_pos ⟨hr, he, .inl k2⟩] at h2
          exact h2
        have hok := canM_ok r.okMay hcan
        have hns : m.streaming = false := by
          refine (r.shut ?_).1
          cases hmo : m.opn with
          | false => rfl
          | true =>
            unfold toldM at h1
            rw [if_neg (by omega), if_neg (by omega), if_neg (by omega), if_pos ⟨k2, hmo⟩] at h1
            cases h1
        exact rel_end (p := p) (m := m) rfl rfl (fun e => ⟨r.streaming.trans b2.symm, rfl, b1.symm, b1⟩) (fun e => by rw [ho] at e; cases e) (no_text hns) hok (one_ok _ hok)
      rw [if_neg k2, if_neg k2]
      by_cases kin : 3 ≤ o.kind ∧ o.kind ≤ 14
      · obtain ⟨mo, hi⟩ := told_open h1 kin
        by_cases k14 : o.kind = 12 ∨ o.kind = 13 ∨ o.kind = 14
        · rw [if_neg (by omega), if_neg (by omega), if_neg (by omega), if_neg (by omega), if_neg (by omega), if_neg (by omega), if_pos k14, if_neg (by omega), if_neg (by omega), if_neg (by omega), if_neg (by omega), if_neg (by omega), if_neg (by omega), if_pos k14]
          refine rel_end (p := p) (m := m) (by rw [← r.now]) rfl (fun e => ?_) (fun e => base_shut (by simpa using e)) base_text okn (one_ok _ r.okNow)
          have e' : openM m o a = true := by simpa using e
          obtain ⟨b1, b2, b3⟩ := base_open e'
          exact ⟨r.streaming.trans b2.symm, r.now.trans b3.symm, by rw [r.opn, mo]; exact b1.symm, b1⟩
        have ho : openM m o a = true := stay mo k2 (by omega) (by omega)
        obtain ⟨b1, b2, b3⟩ := base_open ho
        have nsh : ∀ {A : Prop}, (!openM m o a) = true → A := fun e => by rw [ho] at e; cases e
        have po : p.opn = (baseM m o a).opn := by rw [r.opn, mo, b1]
        have ps : p.streaming = (baseM m o a).streaming := r.streaming.trans b2.symm
        have pn : p.now = (baseM m o a).now := r.now.trans b3.symm
        have okb : OkF (baseM m o a).now := by rw [b3]; exact r.okNow
        have okm : ∀ x ∈ (baseM m o a).may, OkF x.2 := by rw [hbm]; exact r.okMay
        have pm : p.may = (baseM m o a).may := by rw [hbm]; exact r.may
        unfold insE at hi
        by_cases k3 : o.kind = 3
        · rw [if_pos k3] at hi
          obtain ⟨hns, _, _, hl⟩ := putEr_zero hi
          rw [if_pos k3, if_pos k3]
          exact rel_end (p := p) (m := m) pm rfl (fun _ => ⟨ps, by rw [← r.now], po, b1⟩) nsh (no_text hns) (okF_with r.okNow _ _ hl) okm
        rw [if_neg k3] at hi
        rw [if_neg k3, if_neg k3]
        by_cases k4 : o.kind = 4
        · rw [if_pos k4] at hi
          obtain ⟨_, _, _, hl⟩ := putEr_zero hi
          rw [if_pos k4, if_pos k4]
          exact rel_end (p := p) (m := m) pm rfl (fun _ => ⟨rfl, pn, po, b1⟩) nsh (fun _ => ⟨rfl, rfl, by simp, by simpa only [b3] using hl⟩) okb okm
        rw [if_neg k4] at hi
        rw [if_neg k4, if_neg k4]
        by_cases k5 : o.kind = 5
        · rw [if_pos (.inl k5)] at hi
          have hst : m.streaming = true := by
            cases hs : m.streaming with
            | true => rfl
            | false => rw [hs] at hi; simp at hi
          rw [if_neg (by rw [hst]; decide)] at hi
          have hle : (o.data.length : Int) ≤ 65536 - m.data.length := by
            split at hi
            · cases hi
            · rename_i hh
              omega
          obtain ⟨t1, t2, t3, t4⟩ := r.text hst
          rw [if_pos k5, if_pos k5]
          exact rel_end (p := p) (m := m) pm rfl (fun _ => ⟨ps, pn, po, b1⟩) nsh (fun _ => ⟨t1, by rw [← t2], by simp only [List.length_append]; omega, by
            show hasF (baseM m o a).now m.name = true ∨ (baseM m o a).now.length < 200
            rw [b3]; exact t4⟩) okb okm
        rw [if_neg k5, if_neg k5]
        by_cases k6 : o.kind = 6
        · rw [if_pos (.inr (.inl k6))] at hi
          have hst : m.streaming = true := by
            cases hs : m.streaming with
            | true => rfl
            | false => rw [hs] at hi; simp at hi
          obtain ⟨t1, t2, t3, t4⟩ := r.text hst
          rw [if_pos k6, if_pos k6]
          exact rel_end (p := p) (m := m) pm rfl (fun _ => ⟨rfl, by rw [t1, t2, r.now], po, b1⟩) nsh (fun e => by cases e) (okF_with r.okNow _ _ t4) okm
        rw [if_neg k6, if_neg k6]
        by_cases k7 : o.kind = 7
        · rw [if_pos k7, if_pos k7]
          exact rel_end (p := p) (m := m) pm rfl (fun _ => ⟨rfl, pn, po, b1⟩) nsh (fun e => by cases e) okb okm
        rw [if_neg k7, if_neg k7]
        by_cases k11 : o.kind = 11
        · have hns : m.streaming = false := by
            cases hs : m.streaming with
            | false => rfl
            | true =>
              rw [if_neg (by omega), if_neg (by omega), if_pos ⟨by omega, hs⟩] at hi
              cases hi
          rw [if_pos k11, if_pos k11]
          exact rel_end (p := p) (m := m) pm rfl (fun _ => ⟨ps, by rw [← r.now], po, b1⟩) nsh (no_text hns) (okF_without r.okNow _) okm
        rw [if_neg k11, if_neg k11, if_neg k14, if_neg k14]
        exact rel_end (p := p) (m := m) pm rfl (fun _ => ⟨ps, pn, po, b1⟩) nsh base_text okb okm
      · rw [if_neg (by omega), if_neg (by omega), if_neg (by omega), if_neg (by omega), if_neg (by omega), if_neg (by omega), if_neg (by omega), if_neg (by omega), if_neg (by omega), if_neg (by omega), if_neg (by omega), if_neg (by omega), if_neg (by omega), if_neg (by omega)]
        refine rel_end (p := p) (m := m) (by rw [hbm]; exact r.may) rfl (fun e => ?_) (fun e => base_shut (by simpa using e)) base_text okn (by rw [hbm]; exact r.okMay)
        have e' : openM m o a = true := by simpa using e
        obtain ⟨b1, b2, b3⟩ := base_open e'
        exact ⟨r.streaming.trans b2.symm, r.now.trans b3.symm, by rw [r.opn, open_of e' (by omega)]; exact b1.symm, b1⟩
    · rw [if_neg he, if_neg he]
      by_cases h7 : a.e = 7 ∧ o.kind = 2
      · rw [if_pos h7]
        have hbm : (baseM m o a).may = [(false, [])] := by
          unfold baseM
          simp only
          rw [if_pos ⟨h7.2, h7.1⟩]
        refine rel_end (p := p) (m := m) (by rw [hbm]) rfl (fun e => ?_) (fun e => base_shut (by simpa using e)) base_text okn (by rw [hbm]; exact one_ok _ okF_nil)
        have e' : openM m o a = true := by simpa using e
        obtain ⟨b1, b2, b3⟩ := base_open e'
        exact ⟨r.streaming.trans b2.symm, r.now.trans b3.symm, by rw [r.opn, open_of e' (by omega)]; exact b1.symm, b1⟩
      · rw [if_neg h7]
        have hbm : (baseM m o a).may = m.may := by
          unfold baseM
          simp only
          rw [if_neg (by omega)]
        refine rel_end (p := p) (m := m) (by rw [hbm]; exact r.may) rfl (fun e => ?_) (fun e => base_shut (by simpa using e)) base_text okn (by rw [hbm]; exact r.okMay)
        have e' : openM m o a = true := by simpa using e
        obtain ⟨b1, b2, b3⟩ := base_open e'
        exact ⟨r.streaming.trans b2.symm, r.now.trans b3.symm, by rw [r.opn, open_of e' (by omega)]; exact b1.symm, b1⟩
end Go.SX
