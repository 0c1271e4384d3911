/- Maps from names to numbers. -/
import Derived.Test.YtlgkcbdpaffigaaSxDir
import Derived.Test.YtlgkcbdpaffigaaSxMap
import Derived.Test.YtlgkcbdpaffigaaSxBy
import Derived.Maps.RangeRun
set_option linter.unusedSimpArgs false
set_option linter.unusedVariables false
namespace Go.SX
open Go Go.MapKept
/-! ### Maps from names to numbers -/
def strL (s : ByteArray) : List UInt8 := s.data.toList
theorem strL_ba (l : List UInt8) : strL (ba l) = l := by simp [strL, ba]
theorem ba_strL (s : ByteArray) : ba (strL s) = s := by cases s; simp [strL, ba]
theorem strL_inj {a b : ByteArray} (h : strL a = strL b) : a = b := by rw [← ba_strL a, h, ba_strL]
/-- What a list says of a key. -/
def gE (l : List Ent) : Value → Option Value := fun k => match k with | .string s => (lookE l (strL s)).map fun i => .int .i64 i | _ => none
def MapE (w : World) (r : Nat) (l : List Ent) : Prop := MapOf w r .string (gE l)
/-- A map that may be nil. -/
def MapO (w : World) (m : Option Nat) (l : List Ent) : Prop := match m with | none => l = [] | some r => MapE w r l
theorem MapE.kp {S : Nat → Prop} {w w' : World} {r : Nat} {l : List Ent} (h : MapE w r l) (hk : Kp S w w') (hs : ¬ S r) : MapE w' r l := MapOf.kp h hk hs
theorem MapO.kp {S : Nat → Prop} {w w' : World} {m : Option Nat} {l : List Ent} (h : MapO w m l) (hk : Kp S w w') (hs : ∀ r, m = some r → ¬ S r) : MapO w' m l := by
  cases m with
  | none => exact h
  | some r => exact MapE.kp h hk (hs r rfl)
theorem MapE.lt {w : World} {r : Nat} {l : List Ent} (h : MapE w r l) : r < w.heap.size := MapOf.lt h
theorem MapO.lt {w : World} {r : Nat} {l : List Ent} (h : MapO w (some r) l) : r < w.heap.size := MapOf.lt h
def NK (l : List Ent) : Prop := (l.map Prod.fst).Nodup
theorem lookE_nk {l : List Ent} (h : NK l) {s : List UInt8} {i : Int} : lookE l s = some i ↔ (s, i) ∈ l := by
  induction l with
  | nil => simp [lookE]
  | cons b r ih =>
    have h2 : b.1 ∉ r.map Prod.fst ∧ (r.map Prod.fst).Nodup := by
      have h : (b.1 :: r.map Prod.fst).Nodup := h
      exact List.nodup_cons.1 h
    unfold lookE at ih ⊢
    rw [List.find?_cons]
    by_cases e : b.1 = s
    · simp only [e, beq_self_eq_true, Option.map_some, List.mem_cons]
      constructor
      · intro h'
        have : b.2 = i := by simpa using h'
        exact .inl (by rw [← e, ← this])
      · rintro (h' | h')
        · rw [← h']
        · exact absurd (List.mem_map.2 ⟨_, h', e.symm⟩) h2.1
    · have : (b.1 == s) = false := by simpa using e
      simp only [this, List.mem_cons]
      rw [ih h2.2]
      constructor
      · exact .inr
      · rintro (h' | h')
        · rw [← h'] at e; exact absurd rfl e
        · exact h'
theorem asc_nk {l : List Ent} (h : Asc Prod.fst l) : NK l := by
  induction l with
  | nil => exact List.nodup_nil
  | cons b r ih =>
    show (b.1 :: r.map Prod.fst).Nodup
    refine List.nodup_cons.2 ⟨fun hm => ?_, ih h.2⟩
    obtain ⟨x, hx, e⟩ := List.mem_map.1 hm
    have := h.1 x hx
    rw [e, less_irr] at this
    cases this
theorem gE_some {l : List Ent} {s : ByteArray} {i : Int} : gE l (.string s) = some (.int .i64 i) ↔ lookE l (strL s) = some i := by
  simp [gE]
/-- An entry of a map. -/
def entOf (x : MapEntry) : Ent := (match x.key with | .string s => strL s | _ => [], match x.val with | .int _ i => i | _ => 0)
def Typed (x : MapEntry) : Prop := ∃ s i, x.key = .string (ba s) ∧ x.val = .int .i64 i ∧ entOf x = (s, i)
theorem perm_of_mem {α : Type} [DecidableEq α] {a b : List α} (ha : a.Nodup) (hb : b.Nodup) (h : ∀ x, x ∈ a ↔ x ∈ b) : a.Perm b := by
  rw [List.perm_iff_count]
  intro x
  rw [List.Nodup.count ha, List.Nodup.count hb]
  simp only [h x]
theorem MapE.ents {w : World} {r : Nat} {l : List Ent} (h : MapE w r l) (hn : NK l) : ∃ es clock, w.heap[r]? = some (.map es clock) ∧ Stamped es clock ∧ (∀ x ∈ es.toList, Typed x) ∧ (es.toList.map entOf).Perm l := by
  obtain ⟨es, clock, hb, hs, hks, hg⟩ := h
  have ht : ∀ x ∈ es.toList, Typed x ∧ entOf x ∈ l := fun x hx => by
    obtain ⟨k1, k2⟩ := hks x hx
    have : ∃ s, x.key = .string s := by
      revert k1
      cases x.key <;> intro k1 <;> first | exact ⟨_, rfl⟩ | exact absurd k1 (by simp [IsKey])
    obtain ⟨s, es⟩ := this
    rw [es] at k2
    obtain ⟨i, hi, ei⟩ : ∃ i, lookE l (strL s) = some i ∧ Value.int .i64 i = x.val := by simpa [gE] using k2
    have ee : entOf x = (strL s, i) := by simp [entOf, es, ← ei]
    exact ⟨⟨strL s, i, by rw [ba_strL]; exact es, ei.symm, ee⟩, by rw [ee]; exact (lookE_nk hn).1 hi⟩
  refine ⟨es, clock, hb, hs, fun x hx => (ht x hx).1, perm_of_mem ?_ ?_ fun y => ?_⟩
  · obtain ⟨_, _, hp⟩ := (stamped_iff es clock).1 hs
    refine List.pairwise_map.2 ((List.Pairwise.and_mem.1 hp).imp fun {x y} h => ?_)
    · obtain ⟨hx, hy, hne⟩ := h
      obtain ⟨⟨s, i, e1, _, e2⟩, _⟩ := ht x hx
      obtain ⟨⟨s', i', e1', _, e2'⟩, _⟩ := ht y hy
      rw [e2, e2']
      intro hh
      cases hh
      exact hne (e1.trans e1'.symm)
  · exact List.Pairwise.of_map Prod.fst (fun a b h e => h (by rw [e])) hn
  · constructor
    · intro hy
      obtain ⟨x, hx, rfl⟩ := List.mem_map.1 hy
      exact (ht x hx).2
    · intro hy
      obtain ⟨s, i⟩ := y
      obtain ⟨x, hx, e1, e2⟩ := hg (.string (ba s)) (.int .i64 i) (gE_some.2 (by rw [strL_ba]; exact (lookE_nk hn).2 hy))
      exact List.mem_map.2 ⟨x, hx, by simp [entOf, e1, e2, strL_ba]⟩
theorem MapE.of_ext {w : World} {r : Nat} {l l' : List Ent} (h : MapE w r l) (e : ∀ s, lookE l' s = lookE l s) : MapE w r l' := by
  have : gE l' = gE l := by
    funext k
    cases k <;> simp [gE, e]
  unfold MapE
  rw [this]
  exact h
theorem look_perm {l l' : List Ent} (hn : NK l) (hp : l.Perm l') (s : List UInt8) : lookE l' s = lookE l s := by
  have hn' : NK l' := (hp.map Prod.fst).nodup_iff.1 hn
  cases e : lookE l s with
  | some i => exact (lookE_nk hn').2 (hp.mem_iff.1 ((lookE_nk hn).1 e))
  | none =>
    cases e' : lookE l' s with
    | none => rfl
    | some i =>
      have := (lookE_nk hn).2 (hp.mem_iff.2 ((lookE_nk hn').1 e'))
      rw [e] at this; cases this
theorem MapE.perm {w : World} {r : Nat} {l l' : List Ent} (h : MapE w r l) (hn : NK l) (hp : l.Perm l') : MapE w r l' := h.of_ext (look_perm hn hp)
theorem MapE.new (w : World) : MapE (w.alloc (.map #[] 0)) w.heap.size [] := by
  have := MapOf.nil w .string
  have e : gE [] = fun _ => none := by
    funext k
    cases k <;> simp [gE, lookE]
  unfold MapE
  rw [e]
  exact this
section
variable {P : Program} {w : World} {mty kt et : TypeId}
theorem key_str (s : ByteArray) : IsKey .string (.string s) := trivial
/-- A name is given a number. -/
theorem MapE.put {r : Nat} {l l' : List Ent} (h : MapE w r l) (hm : P.underlying mty = some (.map kt et)) (hd : P.underlying kt = some .string) (s : ByteArray) (i : Int) (h1 : lookE l' (strL s) = some i) (h2 : ∀ t, t ≠ strL s → lookE l' t = lookE l t) {K : Unit → World → Prop}
    (hK : ∀ w', MapE w' r l' → Kp (one_ r) w w' → K () w') : Runs P (Instr.mapUpdate mty (.map (some r)) (.string s) (.int .i64 i)) w K := by
  obtain ⟨w', hr, hm', hk⟩ := MapOf.put h hm hd (key_str s) (v := .int .i64 i) (g' := gE l') (by simp [gE, h1]) (fun k' hne => by
    cases k' <;> simp only [gE]
    rename_i t
    rw [h2 (strL t) fun e => hne (by rw [strL_inj e])])
  exact ⟨(), w', hr, hK w' hm' hk⟩
/-- A name is looked up. -/
theorem MapO.look {m : Option Nat} {l : List Ent} (h : MapO w m l) (hm : P.underlying mty = some (.map kt et)) (hd : P.underlying kt = some .string) (hz : (zeroValue et).run P w = .ok (.int .i64 0) w) (s : ByteArray) (c : Bool) {K : Value → World → Prop}
    (hK : K (if c then .tuple #[.int .i64 ((lookE l (strL s)).getD 0), .bool (lookE l (strL s)).isSome] else .int .i64 ((lookE l (strL s)).getD 0)) w) : Runs P (Instr.lookup mty (.map m) (.string s) c) w K := by
  cases m with
  | none =>
    have : l = [] := h
    subst this
    refine ⟨_, w, ?_, hK⟩
    have f1 : Instr.findNow .string (.string s) [] 0 = some none := rfl
    cases c <;> simp [Instr.lookup, run_underlying hm, MapKept.run_checkKey hd (key_str s), MapKept.run_findKey hd f1, hz, Result.andThen, lookE]
  | some r =>
    refine ⟨_, w, MapOf.look h hm hd (key_str s) hz c, ?_⟩
    have e : (gE l (.string s)).getD (.int .i64 0) = .int .i64 ((lookE l (strL s)).getD 0) ∧ (gE l (.string s)).isSome = (lookE l (strL s)).isSome := by
      simp only [gE]
      cases lookE l (strL s) <;> simp
    rw [e.1, e.2]
    exact hK
/-- A name is taken out. -/
theorem MapE.drop {r : Nat} {l l' : List Ent} (h : MapE w r l) (hm : P.underlying mty = some (.map kt et)) (hd : P.underlying kt = some .string) (s : ByteArray) (h1 : lookE l' (strL s) = none) (h2 : ∀ t, t ≠ strL s → lookE l' t = lookE l t) (ty : TypeId) {K : Value → World → Prop}
    (hK : ∀ w', MapE w' r l' → Kp (one_ r) w w' → K (.tuple #[]) w') : Runs P (Builtin.delete_ #[mty, kt] ty #[.map (some r), .string s]) w K := by
  obtain ⟨es, clock, hb, hs, hks, hg⟩ := h
  have fz : ∀ (es' : Array MapEntry) (c' : Nat) (a : Addr), a.block = r → w.frozen? a = ({ w with heap := w.heap.setIfInBounds r (.map es' c') } : World).frozen? a := by
    intro es' c' a ha
    unfold World.frozen?
    rw [ha, hb, (heap_set (o' := .map es' c') hb).1]
  have g1 : gE l' (.string s) = none := by simp [gE, h1]
  have g2 : ∀ k, k ≠ .string s → gE l' k = gE l k := fun k hne => by
    cases k <;> simp only [gE]
    rename_i t
    rw [h2 (strL t) fun e => hne (by rw [strL_inj e])]
  rcases findNow_spec (key_str s) es.toList 0 (fun x hx => (hks x hx).1) with ⟨f1, f2⟩ | ⟨j, e, f1, f2, f3⟩
  · refine ⟨_, { w with heap := w.heap.setIfInBounds r (.map es clock) }, by simp [Builtin.delete_, run_underlying hm, MapKept.run_getObj_map hb, MapKept.run_checkKey hd (key_str s), MapKept.run_findKey hd f1, MapKept.run_setObj_map _ hb, Result.andThen], hK _ ⟨es, clock, (heap_set hb).1, hs, fun x hx => ⟨(hks x hx).1, ?_⟩, fun k v hv => ?_⟩ (setObj_kp _ hb (fz _ _))⟩
    · rw [g2 _ (f2 x hx)]; exact (hks x hx).2
    · by_cases e : k = .string s
      · rw [e, g1] at hv; cases hv
      · rw [g2 _ e] at hv; exact hg k v hv
  · have hj : es[j]? = some e := by simpa using f2
    have hjl : j < es.size := (Array.getElem?_eq_some_iff.1 hj).1
    have hje : es[j] = e := by rw [Array.getElem?_eq_getElem hjl] at hj; exact Option.some.inj hj
    have hsub : (es.eraseIdxIfInBounds j).toList = es.toList.eraseIdx j := by
      unfold Array.eraseIdxIfInBounds
      rw [dif_pos hjl, Array.toList_eraseIdx]
    obtain ⟨_, _, hp⟩ := (stamped_iff es clock).1 hs
    have mem : ∀ x, x ∈ es.toList.eraseIdx j ↔ x ∈ es.toList ∧ x.key ≠ .string s := fun x => by
      rw [List.mem_eraseIdx_iff_getElem?]
      constructor
      · rintro ⟨i, hne, hi⟩
        refine ⟨List.mem_of_getElem? hi, fun hk => ?_⟩
        have hil : i < es.toList.length := (List.getElem?_eq_some_iff.1 hi).1
        have hix : es.toList[i] = x := (List.getElem?_eq_some_iff.1 hi).2
        have hjx : es.toList[j]'(by simpa using hjl) = e := by simpa using hje
        rcases Nat.lt_or_gt_of_ne hne with hlt | hlt
        · have := List.pairwise_iff_getElem.1 hp i j hil (by simpa using hjl) hlt
          rw [hix, hjx] at this
          exact this (hk.trans f3.symm)
        · have := List.pairwise_iff_getElem.1 hp j i (by simpa using hjl) hil hlt
          rw [hix, hjx] at this
          exact this (f3.trans hk.symm)
      · rintro ⟨hx, hk⟩
        obtain ⟨i, hi⟩ := List.mem_iff_getElem?.1 hx
        refine ⟨i, fun e' => ?_, hi⟩
        subst e'
        have : es.toList[i]? = some e := by simpa using hj
        rw [hi] at this
        cases this
        exact hk f3
    refine ⟨_, { w with heap := w.heap.setIfInBounds r (.map (es.eraseIdxIfInBounds j) clock) }, by simp [Builtin.delete_, run_underlying hm, MapKept.run_getObj_map hb, MapKept.run_checkKey hd (key_str s), MapKept.run_findKey hd f1, MapKept.run_setObj_map _ hb, Result.andThen], hK _ ⟨_, clock, (heap_set hb).1, stamped_erase hs _, fun x hx => ?_, fun k v hv => ?_⟩ (setObj_kp _ hb (fz _ _))⟩
    · rw [hsub] at hx
      obtain ⟨hx, hk⟩ := (mem x).1 hx
      exact ⟨(hks x hx).1, by rw [g2 _ hk]; exact (hks x hx).2⟩
    · by_cases e' : k = .string s
      · rw [e', g1] at hv; cases hv
      · rw [g2 _ e'] at hv
        obtain ⟨x, hx, e1, e2⟩ := hg k v hv
        exact ⟨x, by rw [hsub]; exact (mem x).2 ⟨hx, by rw [e1]; exact e'⟩, e1, e2⟩
theorem MapO.len {m : Option Nat} {l : List Ent} (h : MapO w m l) (hn : NK l) (hm : P.underlying mty = some (.map kt et)) (ty : TypeId) {K : Value → World → Prop} (hK : K (.int .i64 l.length) w) : Runs P (Builtin.len_ #[mty] ty #[.map m]) w K := by
  cases m with
  | none =>
    have : l = [] := h
    subst this
    exact ⟨_, w, by simp [Builtin.len_, run_underlying hm, goInt], hK⟩
  | some r =>
    obtain ⟨es, clock, hb, _, _, hp⟩ := MapE.ents h hn
    have e : es.size = l.length := by rw [← hp.length_eq]; simp
    exact ⟨_, w, by simp [Builtin.len_, run_underlying hm, MapKept.run_getObj_map hb, goInt, e], hK⟩
end
/-! ### Going through a map -/
theorem filter_out (p : MapEntry → Bool) (e : MapEntry) : ∀ l : List MapEntry, (l.map (·.born)).Nodup → e ∈ l → p e = true → (l.filter p).Perm (e :: l.filter fun x => p x && !(x.born == e.born))
  | x :: r, hn, he, hp => by
    have h2 : x.born ∉ r.map (·.born) ∧ (r.map (·.born)).Nodup := by
      have hn : (x.born :: r.map (·.born)).Nodup := hn
      exact List.nodup_cons.1 hn
    by_cases hx : x.born = e.born
    · have hxe : x = e := by
        rcases List.mem_cons.1 he with h | h
        · exact h.symm
        · exact absurd (by rw [hx]; exact List.mem_map.2 ⟨e, h, rfl⟩) h2.1
      subst hxe
      have e1 : r.filter p = r.filter fun y => p y && !(y.born == x.born) := by
        refine List.filter_congr fun y hy => ?_
        have : (y.born == x.born) = false := by
          simp only [beq_eq_false_iff_ne, ne_eq]
          intro h
          exact h2.1 (by rw [← h]; exact List.mem_map.2 ⟨y, hy, rfl⟩)
        rw [this]; simp
      rw [List.filter_cons, if_pos hp, List.filter_cons, if_neg (by simp), ← e1]
    · have he' : e ∈ r := by
        rcases List.mem_cons.1 he with h | h
        · rw [h] at hx; exact absurd rfl hx
        · exact h
      have ih := filter_out p e r h2.2 he' hp
      have hb : (x.born == e.born) = false := by simpa using hx
      rw [List.filter_cons, List.filter_cons]
      cases hpx : p x with
      | false => simpa [hpx] using ih
      | true =>
        simp only [hpx, hb, if_true, Bool.not_false, Bool.and_self]
        exact (List.Perm.cons x ih).trans (List.Perm.swap e x _)
/-- Block q is an iterator over a map, which will tell L, in some order. -/
def IterE (w : World) (q : Nat) (m : Option Nat) (L : List Ent) : Prop :=
  (m = none ∧ L = [] ∧ ∃ a s b, w.heap[q]? = some (.mapIter none a s b)) ∨
  ∃ r es clock seen, m = some r ∧ w.heap[r]? = some (.map es clock) ∧ w.heap[q]? = some (.mapIter (some r) clock seen clock) ∧ Stamped es clock ∧ (∀ x ∈ es.toList, Typed x) ∧ ((leftOf es seen).toList.map entOf).Perm L
/-- It has told e just now. -/
def IterAt (w : World) (q : Nat) (m : Option Nat) (e : Ent) (L : List Ent) : Prop :=
  ∃ (r : Nat) (es : Array MapEntry) (clock : Nat) (seen : Array Nat) (x : MapEntry), m = some r ∧ w.heap[r]? = some (.map es clock) ∧ w.heap[q]? = some (.mapIter (some r) clock (seen.push x.born) clock) ∧ Stamped es clock ∧ (∀ x ∈ es.toList, Typed x) ∧ x ∈ es.toList ∧ entOf x = e ∧ ((leftOf es (seen.push x.born)).toList.map entOf).Perm L
theorem heap_lt {w : World} {r : Nat} {o : Obj} (h : w.heap[r]? = some o) : r < w.heap.size := (Array.getElem?_eq_some_iff.1 h).1
theorem IterE.kp {S : Nat → Prop} {w w' : World} {q : Nat} {m : Option Nat} {L : List Ent} (h : IterE w q m L) (k : Kp S w w') (hq : ¬ S q) (hm : ∀ r, m = some r → ¬ S r) : IterE w' q m L := by
  rcases h with ⟨h1, h2, a, s, b, h3⟩ | ⟨r, es, clock, seen, h1, h2, h3, h4⟩
  · exact .inl ⟨h1, h2, a, s, b, (k.same q (heap_lt h3) hq).trans h3⟩
  · exact .inr ⟨r, es, clock, seen, h1, (k.same r (heap_lt h2) (hm r h1)).trans h2, (k.same q (heap_lt h3) hq).trans h3, h4⟩
theorem IterAt.on {w : World} {q : Nat} {m : Option Nat} {e : Ent} {L : List Ent} (h : IterAt w q m e L) : IterE w q m L := by
  obtain ⟨r, es, clock, seen, x, h1, h2, h3, h4, h5, h6, h7, h8⟩ := h
  exact .inr ⟨r, es, clock, _, h1, h2, h3, h4, h5, h8⟩
section
variable {P : Program} {w : World}
theorem range_map {m : Option Nat} {l : List Ent} (h : MapO w m l) (hn : NK l) {t k e : TypeId} (ht : P.underlying t = some (.map k e)) {K : Value → World → Prop}
    (hK : ∀ w', IterE w' w.heap.size m l → Kp none_ w w' → w'.heap.size = w.heap.size + 1 → K (.pointer (some ⟨w.heap.size, 0, none⟩)) w') : Runs P (Instr.range t (.map m)) w K := by
  cases m with
  | none =>
    have : l = [] := h
    subst this
    exact ⟨_, _, run_range_nilMap w t k e ht, hK _ (.inl ⟨rfl, rfl, _, _, _, by rw [alloc_get, if_pos rfl]⟩) ((Kp.refl none_ w).alloc1 _) (alloc_size _ _)⟩
  | some r =>
    obtain ⟨es, clock, hb, hs, ht', hp⟩ := MapE.ents h hn
    have hr := heap_lt hb
    refine ⟨_, _, run_range_map w t k e r es clock ht hb, hK _ (.inr ⟨r, es, clock, #[], rfl, ?_, by rw [alloc_get, if_pos rfl], hs, ht', ?_⟩) ((Kp.refl none_ w).alloc1 _) (alloc_size _ _)⟩
    · rw [alloc_get, if_neg (by omega)]; exact hb
    · have : leftOf es #[] = es := by
        unfold leftOf
        exact Array.filter_eq_self.2 fun x _ => by simp
      rw [this]; exact hp
theorem next_map {q : Nat} {m : Option Nat} {L : List Ent} (h : IterE w q m L) (hqm : ∀ r, m = some r → r ≠ q) (ty : TypeId) {K : Value → World → Prop}
    (h0 : L = [] → K (.tuple #[.bool false]) w)
    (h1 : ∀ e L' w', L.Perm (e :: L') → IterAt w' q m e L' → Kp (one_ q) w w' → K (.tuple #[.bool true, .string (ba e.1), .int .i64 e.2]) w') : Runs P (Instr.next (.pointer (some ⟨q, 0, none⟩)) false ty) w K := by
  rcases h with ⟨_, rfl, a, s, b, hq⟩ | ⟨r, es, clock, seen, rfl, hb, hq, hs, ht, hp⟩
  · refine ⟨_, w, ?_, h0 rfl⟩
    simp only [Instr.next, getObj, Sem.run_bind, Sem.run, hq, Result.andThen]
    rfl
  · obtain ⟨hs1, hs2, hs3⟩ := (stamped_iff es clock).1 hs
    rcases run_next_at (P := P) w ty q r clock clock seen es clock hq hb hs1 (Nat.le_refl _) with ⟨hz, hr⟩ | ⟨e, he, w1, hw1, hr⟩
    · refine ⟨_, w, hr, h0 ?_⟩
      have : (leftOf es seen).toList = [] := by
        apply List.eq_nil_of_length_eq_zero
        simpa using hz
      rw [this] at hp
      exact hp.symm.eq_nil
    · have hqr : q ≠ r := fun e => hqm r rfl e.symm
      have hmem : e ∈ es.toList ∧ seen.contains e.born = false := by
        unfold leftOf at he
        simpa using he
      have hq1 : w1.heap[q]? = some (.mapIter (some r) clock seen clock) := by rcases hw1 with rfl | rfl <;> exact hq
      have hb1 : w1.heap[r]? = some (.map es clock) := by rcases hw1 with rfl | rfl <;> exact hb
      obtain ⟨s, i, ek, ev, ee⟩ := ht e hmem.1
      have hperm : ((leftOf es seen).toList.map entOf).Perm (entOf e :: (leftOf es (seen.push e.born)).toList.map entOf) := by
        have := filter_out (fun x => !seen.contains x.born) e es.toList hs2 hmem.1 (by rw [hmem.2]; rfl)
        have e1 : (leftOf es seen).toList = es.toList.filter fun x => !seen.contains x.born := by unfold leftOf; simp
        have e2 : (leftOf es (seen.push e.born)).toList = es.toList.filter fun x => !seen.contains x.born && !(x.born == e.born) := by
          unfold leftOf
          rw [Array.toList_filter]
          refine List.filter_congr fun x _ => ?_
          rw [contains_push, Bool.not_or]
        rw [e1, e2]
        exact this.map entOf
      refine ⟨_, _, hr, ?_⟩
      rw [ek, ev]
      have := h1 (entOf e) ((leftOf es (seen.push e.born)).toList.map entOf) (ChangeMaps.setBlock w1 q (.mapIter (some r) clock (seen.push e.born) clock)) (hp.symm.trans hperm) ⟨r, es, clock, seen, e, rfl, ?_, ?_, hs, ht, hmem.1, rfl, List.Perm.refl _⟩ ?_
      · rw [ee] at this; exact this
      · exact ((heap_set (o' := _) hq1).2 r (Ne.symm hqr)).trans hb1
      · exact (heap_set hq1).1
      · have kw : Kp (one_ q) w w1 := by
          rcases hw1 with rfl | rfl
          · exact Kp.refl _ _
          · exact Kp.drew1
        refine kw.trans (setObj_kp _ hq1 fun a ha => ?_)
        unfold World.frozen?
        rw [ha, hq1, (heap_set (o' := .mapIter (some r) clock (seen.push e.born) clock) hq1).1]
theorem entry_map {q : Nat} {m : Option Nat} {e : Ent} {L : List Ent} (h : IterAt w q m e L) {K : Value → World → Prop} (hK : K (.tuple #[.string (ba e.1), .int .i64 e.2]) w) : Runs P (Instr.entry (.pointer (some ⟨q, 0, none⟩))) w K := by
  obtain ⟨r, es, clock, seen, x, rfl, hb, hq, hs, ht, hx, he, hp⟩ := h
  obtain ⟨_, hs2, _⟩ := (stamped_iff es clock).1 hs
  refine ⟨_, w, run_entry_at (P := P) w q r clock seen es clock x hq hb hx hs2, ?_⟩
  obtain ⟨s, i, ek, ev, ee⟩ := ht x hx
  rw [ek, ev]
  rw [ee] at he
  subst he
  exact hK
end
/-- How many entries an iterator has not told. -/
def leftN (w : World) (q : Nat) : Nat := match w.heap[q]? with | some (.mapIter (some r) _ seen _) => (match w.heap[r]? with | some (.map es _) => (leftOf es seen).size | _ => 0) | _ => 0
theorem IterE.left {w : World} {q : Nat} {m : Option Nat} {L : List Ent} (h : IterE w q m L) : leftN w q = L.length := by
  rcases h with ⟨h1, rfl, a, s, b, h3⟩ | ⟨r, es, clock, seen, h1, h2, h3, h4, h5, h6⟩
  · unfold leftN; rw [h3]; rfl
  · unfold leftN
    rw [h3]
    simp only
    rw [h2]
    simp only
    rw [← h6.length_eq]
    simp
end Go.SX
