/- Names: plain mathematics. -/
import Derived.Test.YtbpknjldphckgaaDoorSxLib
import Derived.Lib.SplitLaws
import Derived.Lib.Split
set_option linter.unusedSimpArgs false
set_option linter.unusedVariables false
namespace Go.SX
open Go Go.Lib
/-! ### Names: texts of parts -/
def partsL (c : UInt8) : List UInt8 → List (List UInt8)
  | [] => [[]]
  | x :: r => if x = c then [] :: partsL c r else match partsL c r with | [] => [[x]] | p :: ps => (x :: p) :: ps
theorem partsL_ne (c : UInt8) : ∀ l, partsL c l ≠ []
  | [] => by simp [partsL]
  | x :: r => by
    unfold partsL
    split
    · simp
    · split <;> simp
theorem partsL_hit {c : UInt8} : ∀ {a b : List UInt8}, c ∉ a → partsL c (a ++ c :: b) = a :: partsL c b
  | [], b, _ => by simp [partsL]
  | x :: a, b, h => by
    have hx : x ≠ c := fun e => h (by simp [e])
    rw [List.cons_append, partsL, if_neg hx, partsL_hit (fun hh => h (by simp [hh]))]
theorem partsL_none {c : UInt8} : ∀ {a : List UInt8}, c ∉ a → partsL c a = [a]
  | [], _ => rfl
  | x :: a, h => by
    have hx : x ≠ c := fun e => h (by simp [e])
    rw [partsL, if_neg hx, partsL_none (fun hh => h (by simp [hh]))]
theorem index_one_eq (c : UInt8) (r : List UInt8) : index (c :: r) [c] = 0 := index_first (i := 0) (Nat.zero_le _) (by simp [occAt]) (fun _ h => absurd h (Nat.not_lt_zero _))
theorem split_cons_ne {x c : UInt8} (h : x ≠ c) (r : List UInt8) : ∀ k, splitK [c] 0 k (x :: r) = match splitK [c] 0 k r with | [] => [[x]] | p :: ps => (x :: p) :: ps
  | 0 => rfl
  | k + 1 => by
    have hno : NoOcc (x :: r) [c] 1 := fun j hj => by
      have : j = 0 := by omega
      subst this
      simp [occAt]
      have : (c == x) = false := by simpa using fun e : c = x => h e.symm
      simp [List.isPrefixOf, this]
    have hi := index_drop (i := 1) hno (by simp)
    rw [show (x :: r).drop 1 = r by rfl] at hi
    unfold splitK
    by_cases hr : index r [c] == -1
    · rw [if_pos hr] at hi
      rw [hi, if_pos (by rfl), if_pos hr]
    · rw [if_neg hr] at hi
      have hb : ∃ n : Nat, index r [c] = n := by
        have := indexB_cases (ByteArray.mk r.toArray) (ByteArray.mk [c].toArray)
        have e : indexB (ByteArray.mk r.toArray) (ByteArray.mk [c].toArray) = index r [c] := by simp [indexB]
        rw [e] at this
        rcases this with h1 | ⟨n, h1, _⟩
        · rw [h1] at hr; exact absurd rfl hr
        · exact ⟨n, h1⟩
      obtain ⟨n, hn⟩ := hb
      have h1 : ¬ (index (x :: r) [c] == -1) = true := by rw [hi, hn]; simp; omega
      rw [if_neg h1, if_neg hr, hi, hn]
      have e1 : ((n : Int) + ((1 : Nat) : Int)).toNat = n + 1 := by omega
      have e2 : ((n : Int)).toNat = n := by omega
      rw [e1, e2]
      simp
theorem split_parts (c : UInt8) : ∀ l, splitK [c] 0 (count l [c]) l = partsL c l
  | [] => by
    have : count [] [c] = 0 := by simp [count_one]
    rw [this]; rfl
  | x :: r => by
    by_cases h : x = c
    · subst h
      rw [count_cons_eq, Nat.add_comm, splitK, index_one_eq, if_neg (by decide), partsL, if_pos rfl]
      simp only [Int.toNat_zero, Nat.zero_add, Nat.add_zero, List.take_zero, List.length_singleton, List.drop_succ_cons, List.drop_zero]
      rw [split_parts x r]
    · rw [count_cons_ne x c r h, split_cons_ne h, split_parts c r, partsL, if_neg h]
/-- The pieces that the library's cut makes. -/
theorem splitB_parts (c : UInt8) (s : ByteArray) : (splitB ⟨#[c]⟩ 0 (countB s ⟨#[c]⟩) s).map (·.data.toList) = partsL c s.data.toList := by
  rw [splitB_data]
  exact split_parts c s.data.toList
def okByte (x : UInt8) : Bool := decide (33 ≤ x.toNat ∧ x.toNat ≤ 126)
def okPart (p : List UInt8) : Bool := p.all okByte && !(p == []) && !(p == [46]) && !(p == [46, 46])
/-- A name. -/
def okName (l : List UInt8) : Bool := decide (l.length ≤ 64) && (partsL 47 l).all okPart
theorem parts_all {c : UInt8} {f : UInt8 → Bool} (hc : f c = true) : ∀ l, ((partsL c l).all fun p => p.all f) = l.all f
  | [] => rfl
  | x :: r => by
    unfold partsL
    split
    · rename_i h
      subst h
      simp only [List.all_cons, List.all_nil, Bool.true_and, hc]
      exact parts_all hc r
    · have ih := parts_all hc r
      cases hp : partsL c r with
      | nil => exact absurd hp (partsL_ne c r)
      | cons p ps =>
        rw [hp] at ih
        simp only [List.all_cons] at ih ⊢
        rw [Bool.and_assoc, ih]
/-- The same, said as the document says it. -/
theorem okName_eq (l : List UInt8) : okName l = (decide (1 ≤ l.length ∧ l.length ≤ 64) && l.all okByte && (partsL 47 l).all fun p => !(p == []) && !(p == [46]) && !(p == [46, 46])) := by
  have h1 : (partsL 47 l).all okPart = ((partsL 47 l).all (fun p => p.all okByte) && (partsL 47 l).all fun p => !(p == []) && !(p == [46]) && !(p == [46, 46])) := by
    generalize partsL 47 l = ps
    induction ps with
    | nil => rfl
    | cons p ps ih =>
      simp only [List.all_cons, ih, okPart]
      cases p.all okByte <;> cases (!(p == [])) <;> cases (!(p == [46])) <;> cases (!(p == [46, 46])) <;> cases (ps.all fun p => p.all okByte) <;> simp
  unfold okName
  rw [h1, parts_all (by decide)]
  cases l with
  | nil => decide
  | cons x r =>
    have : decide (1 ≤ (x :: r).length ∧ (x :: r).length ≤ 64) = decide ((x :: r).length ≤ 64) := by
      rw [decide_eq_decide]
      simp
    rw [this, Bool.and_assoc]
/-- Whether a folder has a name. -/
def inF (f s : List UInt8) : Bool := okName s && (f == [] || (okName f && (f ++ [47]).isPrefixOf s))
theorem prefix_slash (f s : List UInt8) : (f ++ [47]).isPrefixOf s = (decide (f.length < s.length) && (s.take f.length == f) && (s[f.length]? == some 47)) := by
  rw [Bool.eq_iff_iff]
  simp only [List.isPrefixOf_iff_prefix, Bool.and_eq_true, decide_eq_true_eq, beq_iff_eq]
  constructor
  · rintro ⟨t, rfl⟩
    refine ⟨⟨by simp, by simp⟩, by simp⟩
  · rintro ⟨⟨h1, h2⟩, h3⟩
    rw [List.getElem?_eq_getElem h1] at h3
    have h3 : s[f.length] = 47 := Option.some.inj h3
    refine ⟨s.drop (f.length + 1), ?_⟩
    have := List.take_append_drop f.length s
    rw [h2, List.drop_eq_getElem_cons h1, h3] at this
    simpa using this
end Go.SX
