/- Maps in memory. -/
import Derived.Test.YtlgkcbdpaffigaaSxLib
import Derived.MapKept
set_option linter.unusedSimpArgs false
set_option linter.unusedVariables false
namespace Go.SX
open Go Go.MapKept

/-- A map in memory: what each key stands for. -/
def MapOf (w : World) (r : Nat) (d : TypeDesc) (g : Value → Option Value) : Prop :=
  ∃ es clock, w.heap[r]? = some (.map es clock) ∧ Stamped es clock ∧ (∀ x ∈ es.toList, IsKey d x.key ∧ g x.key = some x.val) ∧ ∀ k v, g k = some v → ∃ x ∈ es.toList, x.key = k ∧ x.val = v
theorem MapOf.nil (w : World) (d : TypeDesc) : MapOf (w.alloc (.map #[] 0)) w.heap.size d (fun _ => none) :=
  ⟨#[], 0, by rw [alloc_get, if_pos rfl], stamped_empty 0, by simp, by simp⟩
theorem MapOf.lt {w : World} {r : Nat} {d : TypeDesc} {g : Value → Option Value} (h : MapOf w r d g) : r < w.heap.size := by
  obtain ⟨es, clock, h1, _⟩ := h
  exact (Array.getElem?_eq_some_iff.1 h1).1
theorem MapOf.kp {S : Nat → Prop} {w w' : World} {r : Nat} {d : TypeDesc} {g : Value → Option Value} (h : MapOf w r d g) (hk : Kp S w w') (hs : ¬ S r) : MapOf w' r d g := by
  obtain ⟨es, clock, h1, h2⟩ := h
  exact ⟨es, clock, (hk.same r (Array.getElem?_eq_some_iff.1 h1).1 hs).trans h1, h2⟩
theorem MapOf.drew {w : World} {r : Nat} {d : TypeDesc} {g : Value → Option Value} (h : MapOf w r d g) : MapOf w.drew r d g := h
/-- No cell lies in it. -/
theorem MapOf.setCell {w : World} {r : Nat} {d : TypeDesc} {g : Value → Option Value} (h : MapOf w r d g) (a : Addr) {u : Value} (hc : w.cell? a = some u) (v : Value) : MapOf (w.setCell a v) r d g := by
  obtain ⟨es, clock, h1, h2⟩ := h
  have hne : a.block ≠ r := by
    rintro rfl
    unfold World.cell? at hc
    rw [h1] at hc
    simp at hc
  exact ⟨es, clock, by rw [heap_set_far v hne]; exact h1, h2⟩
theorem MapOf.look {w : World} {r : Nat} {d : TypeDesc} {g : Value → Option Value} (h : MapOf w r d g) {P : Program} {mty kt et : TypeId} (hm : P.underlying mty = some (.map kt et)) (hd : P.underlying kt = some d) {k z : Value} (hk : IsKey d k)
    (hz : (zeroValue et).run P w = .ok z w) (c : Bool) : (Instr.lookup mty (.map (some r)) k c).run P w = .ok (if c then .tuple #[(g k).getD z, .bool (g k).isSome] else (g k).getD z) w := by
  obtain ⟨es, clock, hb, hs, hks, hg⟩ := h
  rcases findNow_spec hk es.toList 0 (fun x hx => (hks x hx).1) with ⟨h1, h2⟩ | ⟨j, e, h1, h2, h3⟩
  · have hn : g k = none := by
      cases hgk : g k with
      | none => rfl
      | some v =>
        obtain ⟨x, hx, e, _⟩ := hg k v hgk
        exact absurd e (h2 x hx)
    simp [Instr.lookup, run_underlying hm, Go.MapKept.run_getObj_map hb, Go.MapKept.run_checkKey hd hk, Go.MapKept.run_findKey hd h1, hz, Result.andThen, hn]
  · have hmem : e ∈ es.toList := List.mem_of_getElem? h2
    have hs : g k = some e.val := by rw [← h3]; exact (hks e hmem).2
    simp [Instr.lookup, run_underlying hm, Go.MapKept.run_getObj_map hb, Go.MapKept.run_checkKey hd hk, Go.MapKept.run_findKey hd h1, Result.andThen, hs]
theorem setObj_kp {w : World} {r : Nat} (o : Obj) {o0 : Obj} (hb : w.heap[r]? = some o0) (hf : ∀ a : Addr, a.block = r → w.frozen? a = ({ w with heap := w.heap.setIfInBounds r o } : World).frozen? a) : Kp (one_ r) w { w with heap := w.heap.setIfInBounds r o } := by
  refine ⟨rfl, rfl, rfl, fun a _ => ?_, by simp, fun i _ hi => (heap_set hb).2 i hi⟩
  by_cases ha : a.block = r
  · exact (hf a ha).symm
  · unfold World.frozen?
    have := (heap_set (o' := o) hb).2 a.block ha
    simp only [this]
theorem MapOf.put {w : World} {r : Nat} {d : TypeDesc} {g g' : Value → Option Value} (h : MapOf w r d g) {P : Program} {mty kt et : TypeId} (hm : P.underlying mty = some (.map kt et)) (hd : P.underlying kt = some d) {k v : Value} (hk : IsKey d k)
    (h1 : g' k = some v) (h2 : ∀ k', k' ≠ k → g' k' = g k') : ∃ w', (Instr.mapUpdate mty (.map (some r)) k v).run P w = .ok () w' ∧ MapOf w' r d g' ∧ Kp (one_ r) w w' := by
  obtain ⟨es, clock, hb, hs, hks, hg⟩ := h
  have fz : ∀ (es' : Array MapEntry) (c' : Nat) (a : Addr), a.block = r → w.frozen? a = ({ w with heap := w.heap.setIfInBounds r (.map es' c') } : World).frozen? a := by
    intro es' c' a ha
    unfold World.frozen?
    rw [ha, hb, (heap_set (o' := .map es' c') hb).1]
  rcases findNow_spec hk es.toList 0 (fun x hx => (hks x hx).1) with ⟨f1, f2⟩ | ⟨j, e, f1, f2, f3⟩
  · refine ⟨_, by simp [Instr.mapUpdate, run_underlying hm, Go.MapKept.run_getObj_map hb, Go.MapKept.run_checkKey hd hk, Go.MapKept.run_findKey hd f1, Go.MapKept.run_setObj_map _ hb, Result.andThen]; rfl, ⟨_, _, (heap_set hb).1, stamped_push hs f2, ?_, ?_⟩, setObj_kp _ hb (fz _ _)⟩
    · intro x hx
      simp only [Array.toList_push, List.mem_append, List.mem_singleton] at hx
      rcases hx with hx | rfl
      · exact ⟨(hks x hx).1, by rw [h2 _ (f2 x hx)]; exact (hks x hx).2⟩
      · exact ⟨hk, h1⟩
    · intro k' v' hv
      by_cases e : k' = k
      · subst e
        rw [h1] at hv; cases hv
        exact ⟨⟨k', v, clock⟩, by simp, rfl, rfl⟩
      · rw [h2 _ e] at hv
        obtain ⟨x, hx, e1, e2⟩ := hg k' v' hv
        exact ⟨x, by simp [Array.toList_push]; exact .inl (by simpa using hx), e1, e2⟩
  · have hj : es[j]? = some e := by simpa using f2
    have hkey : ∀ e', e' ∈ es.toList → es[j]? = some e' → ({ e' with key := k, val := v } : MapEntry).key = e'.key := fun e' _ he' => by rw [hj] at he'; cases he'; exact f3.symm
    have hjl : j < es.size := (Array.getElem?_eq_some_iff.1 hj).1
    refine ⟨{ w with heap := w.heap.setIfInBounds r (.map (es.modify j fun e => { e with key := k, val := v }) clock) }, by simp [Instr.mapUpdate, run_underlying hm, Go.MapKept.run_getObj_map hb, Go.MapKept.run_checkKey hd hk, Go.MapKept.run_findKey hd f1, hj, f3, Go.MapKept.run_keyThatStays hk, Go.MapKept.run_setObj_map _ hb, Result.andThen],
      ⟨_, _, (heap_set hb).1, stamped_modify hs _ _ (fun _ _ => rfl) hkey, ?_, ?_⟩, setObj_kp _ hb (fz _ _)⟩
    · intro x hx
      obtain ⟨i, hi, hx⟩ := List.getElem_of_mem hx
      simp only [Array.getElem_toList] at hx
      have hi' : i < es.size := by simpa using hi
      rw [Array.getElem_modify] at hx
      by_cases hij : j = i
      · rw [if_pos hij] at hx
        subst hx
        exact ⟨hk, h1⟩
      · rw [if_neg hij] at hx
        have hmem : x ∈ es.toList := by rw [← hx]; simp
        refine ⟨(hks x hmem).1, ?_⟩
        rw [h2]
        · exact (hks x hmem).2
        · intro e'
          obtain ⟨_, _, hnd⟩ := hs
          have h3 : (es.toList.map (·.key))[i]? = (es.toList.map (·.key))[j]? := by
            have hjj : es[j] = e := by have := Array.getElem?_eq_getElem hjl; rw [hj] at this; exact (Option.some.inj this).symm
            simp [hi', hjl, hx, e', hjj, f3]
          exact hij ((List.getElem?_inj (by simpa using hi') hnd).1 h3).symm
    · intro k' v' hv
      by_cases e' : k' = k
      · subst e'
        rw [h1] at hv; cases hv
        refine ⟨{ e with key := k', val := v }, ?_, rfl, rfl⟩
        rw [List.mem_iff_getElem?]
        exact ⟨j, by simp [Array.getElem?_modify, hj]⟩
      · rw [h2 _ e'] at hv
        obtain ⟨x, hx, e1, e2⟩ := hg k' v' hv
        obtain ⟨i, hi⟩ := List.mem_iff_getElem?.1 hx
        refine ⟨x, List.mem_iff_getElem?.2 ⟨i, ?_⟩, e1, e2⟩
        have hij : j ≠ i := by
          rintro rfl
          rw [f2] at hi; cases hi
          exact e' (e1.symm.trans f3)
        simpa [Array.getElem?_modify, hij] using hi

/-- One element, made just before, behind a row of one's own. -/
theorem append_new {P : Program} {w : World} {own : Nat → Prop} {t ty e : TypeId} {size : Nat} {v : Value} {n : Nat} {xs : List Value} (news : Array Value) {K : Value → World → Prop}
    (ht : P.underlying t = some (.slice e)) (he : elemOk P e size = true) (hsz : 0 < size) (hown : OwnRow w own e size v n xs) (hl : news.size = size) (h1 : ∀ u ∈ news.toList, u.oneCell' = true) (hb : n + 1 ≤ 137438953472)
    (hK : ∀ q c w', OwnRow w' (fun i => own i ∨ fresh w i) e size (.slice q (n + 1) c) (n + 1) (xs ++ news.toList) → Kp own w w' → Kp own (w.alloc (.cells news e)) w' → K (.slice q (n + 1) c) w') :
    Runs P (Builtin.append_ #[t, t] ty #[v, .slice (some ⟨w.heap.size, 0, none⟩) 1 1]) (w.alloc (.cells news e)) K := by
  have ka : Kp none_ w (w.alloc (.cells news e)) := (Kp.refl none_ w).alloc _ _
  refine append_own (own := own) (xs := xs) (news := news.toList) (m := 1) ht he hsz (hown.kp ka fun _ _ _ _ _ => id) (by simpa using hl) ?_ h1 (by omega) hb ?_
  · intro j u hj
    rw [ad_add, Nat.zero_add]
    exact cell_alloc_new (by simpa using hj)
  · intro v' w' hrow hk
    obtain ⟨q, c, rfl⟩ := hrow.slice
    refine hK q c w' (hrow.mono fun i hi _ => hi.imp id fun hf => ?_) ((ka.mono fun _ _ h => h.elim).trans hk) hk
    exact Nat.le_trans ka.size hf

/-! ### Iterators: functions that tell a list's elements to a function value, one by one -/
/-- The function value fv tells 'all', till it is told 'false'; the blocks of Q are what it reads and nobody may change, those of P0 its own. J: what stands when so many are told, with the blocks that are fv's own; Inv: what stands of these. -/
def IterSpec (P : Program) (fv : Value) (all : List Value) (Q P0 : Nat → Prop) (Inv : (Nat → Prop) → World → Prop) (w : World) : Prop :=
  (∃ k first cap, fv = .func (.func k) first cap) ∧
  ∀ (w0 : World), Kp (fun i => ¬ Q i ∧ ¬ P0 i) w w0 → ∀ (y : Value) (J : List Value → (Nat → Prop) → World → Prop) (E : (Nat → Prop) → World → Prop),
    J [] P0 w0 →
    (∀ l Pv w1 w2, J l Pv w1 → Kp Pv w1 w2 → J l (fun i => Pv i ∨ (w1.heap.size ≤ i ∧ i < w2.heap.size)) w2) →
    (∀ l t r Pv w1, all = l ++ t :: r → J l Pv w1 → CallsVal P y #[t] w1 fun v w2 => Kp (fun i => ¬ Pv i ∧ ¬ Q i) w1 w2 ∧ ∃ b, v = .bool b ∧ cond b (J (l ++ [t]) Pv w2) (E Pv w2)) →
    CallsVal P fv #[y] w0 fun v w2 => v = .tuple #[] ∧ ∃ Pv, Inv Pv w2 ∧ (J all Pv w2 ∨ E Pv w2)
theorem rangeVal_of {P : Program} {k : FuncId} {first cap : Array Value} {y : Value} {w : World} {R : Value → World → Prop} (h : CallsVal P (.func (.func k) first cap) #[y] w R) : RangeVal P (.func (.func k) first cap) y w fun w' => ∃ v, R v w' :=
  ⟨h.1, h.2.mono fun v w' h => ⟨v, h⟩⟩
theorem RangeVal.mono {P : Program} {fv y : Value} {w : World} {R R' : World → Prop} (h : RangeVal P fv y w R) (hr : ∀ w', R w' → R' w') : RangeVal P fv y w R' := by
  unfold RangeVal at h ⊢
  split at h
  · exact ⟨h.1, h.2.mono fun v w' h => hr w' h⟩
  · exact h.elim
theorem IterSpec.range {P : Program} {fv : Value} {all : List Value} {Q P0 : Nat → Prop} {Inv : (Nat → Prop) → World → Prop} {w : World} (h : IterSpec P fv all Q P0 Inv w) (w0 : World) (hk : Kp (fun i => ¬ Q i ∧ ¬ P0 i) w w0) (y : Value) (J : List Value → (Nat → Prop) → World → Prop) (E : (Nat → Prop) → World → Prop)
    (h0 : J [] P0 w0) (h1 : ∀ l Pv w1 w2, J l Pv w1 → Kp Pv w1 w2 → J l (fun i => Pv i ∨ (w1.heap.size ≤ i ∧ i < w2.heap.size)) w2)
    (h2 : ∀ l t r Pv w1, all = l ++ t :: r → J l Pv w1 → CallsVal P y #[t] w1 fun v w2 => Kp (fun i => ¬ Pv i ∧ ¬ Q i) w1 w2 ∧ ∃ b, v = .bool b ∧ cond b (J (l ++ [t]) Pv w2) (E Pv w2)) :
    RangeVal P fv y w0 fun w2 => ∃ Pv, Inv Pv w2 ∧ (J all Pv w2 ∨ E Pv w2) := by
  obtain ⟨⟨k, first, cap, rfl⟩, hi⟩ := h
  exact (rangeVal_of (hi w0 hk y J E h0 h1 h2)).mono fun w' ⟨_, _, h⟩ => h
/-- The world moved on, and Q's blocks are as they were. -/
theorem IterSpec.later {P : Program} {fv : Value} {all : List Value} {Q P0 : Nat → Prop} {Inv : (Nat → Prop) → World → Prop} {w w' : World} (h : IterSpec P fv all Q P0 Inv w) (hk : Kp (fun i => ¬ Q i ∧ ¬ P0 i) w w') : IterSpec P fv all Q P0 Inv w' :=
  ⟨h.1, fun w0 hk0 => h.2 w0 (hk.trans hk0)⟩
end Go.SX
