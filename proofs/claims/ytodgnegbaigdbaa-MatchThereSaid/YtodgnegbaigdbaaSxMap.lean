/- Maps in memory. -/
import Derived.Test.YtodgnegbaigdbaaSxLib
import Derived.MapKept
set_option linter.unusedSimpArgs false
set_option linter.unusedVariables false
namespace Go.SX
open Go Go.MapKept

/-- A map in memory: what each key stands for. -/
def MapOf (w : World) (r : Nat) (d : TypeDesc) (g : Value → Option Value) : Prop :=
  ∃ es clock, w.heap[r]? = some (.map es clock) ∧ Stamped es clock ∧ (∀ x ∈ es.toList, IsKey d x.key ∧ g x.key = some x.val) ∧ ∀ k v, g k = some v → ∃ x ∈ es.toList, x.key = k ∧ x.val = v
theorem MapOf.nil (w : World) (d : TypeDesc) : MapOf (w.alloc (.map #[] 0)) w.heap.size d (fun _ => none) :=
  ⟨#[], 0, by rw [alloc_get, if_pos rfl], stamped_empty 0, by simp, by simp⟩
theorem MapOf.lt {w : World} {r : Nat} {d : TypeDesc} {g : Value → Option Value} (h : MapOf w r d g) : r < w.heap.size := by
  obtain ⟨es, clock, h1, _⟩ := h
  exact (Array.getElem?_eq_some_iff.1 h1).1
theorem MapOf.kp {S : Nat → Prop} {w w' : World} {r : Nat} {d : TypeDesc} {g : Value → Option Value} (h : MapOf w r d g) (hk : Kp S w w') (hs : ¬ S r) : MapOf w' r d g := by
  obtain ⟨es, clock, h1, h2⟩ := h
  exact ⟨es, clock, (hk.same r (Array.getElem?_eq_some_iff.1 h1).1 hs).trans h1, h2⟩
theorem MapOf.drew {w : World} {r : Nat} {d : TypeDesc} {g : Value → Option Value} (h : MapOf w r d g) : MapOf w.drew r d g := h
/-- No cell lies in it. -/
theorem MapOf.setCell {w : World} {r : Nat} {d : TypeDesc} {g : Value → Option Value} (h : MapOf w r d g) (a : Addr) {u : Value} (hc : w.cell? a = some u) (v : Value) : MapOf (w.setCell a v) r d g := by
  obtain ⟨es, clock, h1, h2⟩ := h
  have hne : a.block ≠ r := by
    rintro rfl
    unfold World.cell? at hc
    rw [h1] at hc
    simp at hc
  exact ⟨es, clock, by rw [heap_set_far v hne]; exact h1, h2⟩
theorem MapOf.look {w : World} {r : Nat} {d : TypeDesc} {g : Value → Option Value} (h : MapOf w r d g) {P : Program} {mty kt et : TypeId} (hm : P.underlying mty = some (.map kt et)) (hd : P.underlying kt = some d) {k z : Value} (hk : IsKey d k)
    (hz : (zeroValue et).run P w = .ok z w) (c : Bool) : (Instr.lookup mty (.map (some r)) k c).run P w = .ok (if c then .tuple #[(g k).getD z, .bool (g k).isSome] else (g k).getD z) w := by
  obtain ⟨es, clock, hb, hs, hks, hg⟩ := h
  rcases findNow_spec hk es.toList 0 (fun x hx => (hks x hx).1) with ⟨h1, h2⟩ | ⟨j, e, h1, h2, h3⟩
  · have hn : g k = none := by
      cases hgk : g k with
      | none => rfl
      | some v =>
        obtain ⟨x, hx, e, _⟩ := hg k v hgk
        exact absurd e (h2 x hx)
    simp [Instr.lookup, run_underlying hm, Go.MapKept.run_getObj_map hb, Go.MapKept.run_checkKey hd hk, Go.MapKept.run_findKey hd h1, hz, Result.andThen, hn]
  · have hmem : e ∈ es.toList := List.mem_of_getElem? h2
    have hs : g k = some e.val := by rw [← h3]; exact (hks e hmem).2
    simp [Instr.lookup, run_underlying hm, Go.MapKept.run_getObj_map hb, Go.MapKept.run_checkKey hd hk, Go.MapKept.run_findKey hd h1, Result.andThen, hs]
theorem setObj_kp {w : World} {r : Nat} (o : Obj) {o0 : Obj} (hb : w.heap[r]? = some o0) (hf : ∀ a : Addr, a.block = r → w.frozen? a = ({ w with heap := w.heap.setIfInBounds r o } : World).frozen? a) : Kp (one_ r) w { w with heap := w.heap.setIfInBounds r o } := by
  refine ⟨rfl, rfl, rfl, fun a _ => ?_, by simp, fun i _ hi => (heap_set hb).2 i hi⟩
  by_cases ha : a.block = r
  · exact (hf a ha).symm
  · unfold World.frozen?
    have := (heap_set (o' := o) hb).2 a.block ha
    simp only [this]
theorem MapOf.put {w : World} {r : Nat} {d : TypeDesc} {g g' : Value → Option Value} (h : MapOf w r d g) {P : Program} {mty kt et : TypeId} (hm : P.underlying mty = some (.map kt et)) (hd : P.underlying kt = some d) {k v : Value} (hk : IsKey d k)
    (h1 : g' k = some v) (h2 : ∀ k', k' ≠ k → g' k' = g k') : ∃ w', (Instr.mapUpdate mty (.map (some r)) k v).run P w = .ok () w' ∧ MapOf w' r d g' ∧ Kp (one_ r) w w' := by
  obtain ⟨es, clock, hb, hs, hks, hg⟩ := h
  have fz : ∀ (es' : Array MapEntry) (c' : Nat) (a : Addr), a.block = r → w.frozen? a = ({ w with heap := w.heap.setIfInBounds r (.map es' c') } : World).frozen? a := by
    intro es' c' a ha
    unfold World.frozen?
    rw [ha, hb, (heap_set (o' := .map es' c') hb).1]
  rcases findNow_spec hk es.toList 0 (fun x hx => (hks x hx).1) with ⟨f1, f2⟩ | ⟨j, e, f1, f2, f3⟩
  · refine ⟨_, by simp [Instr.mapUpdate, run_underlying hm, Go.MapKept.run_getObj_map hb, Go.MapKept.run_checkKey hd hk, Go.MapKept.run_findKey hd f1, Go.MapKept.run_setObj_map _ hb, Result.andThen]; rfl, ⟨_, _, (heap_set hb).1, stamped_push hs f2, ?_, ?_⟩, setObj_kp _ hb (fz _ _)⟩
    · intro x hx
      simp only [Array.toList_push, List.mem_append, List.mem_singleton] at hx
      rcases hx with hx | rfl
      · exact ⟨(hks x hx).1, by rw [h2 _ (f2 x hx)]; exact (hks x hx).2⟩
      · exact ⟨hk, h1⟩
    · intro k' v' hv
      by_cases e : k' = k
      · subst e
        rw [h1] at hv; cases hv
        exact ⟨⟨k', v, clock⟩, by simp, rfl, rfl⟩
      · rw [h2 _ e] at hv
        obtain ⟨x, hx, e1, e2⟩ := hg k' v' hv
        exact ⟨x, by simp [Array.toList_push]; exact .inl (by simpa using hx), e1, e2⟩
  · have hj : es[j]? = some e := by simpa using f2
    have hkey : ∀ e', e' ∈ es.toList → es[j]? = some e' → ({ e' with key := k, val := v } : MapEntry).key = e'.key := fun e' _ he' => by rw [hj] at he'; cases he'; exact f3.symm
    have hjl : j < es.size := (Array.getElem?_eq_some_iff.1 hj).1
    refine ⟨{ w with heap := w.heap.setIfInBounds r (.map (es.modify j fun e => { e with key := k, val := v }) clock) }, by simp [Instr.mapUpdate, run_underlying hm, Go.MapKept.run_getObj_map hb, Go.MapKept.run_checkKey hd hk, Go.MapKept.run_findKey hd f1, hj, f3, Go.MapKept.run_keyThatStays hk, Go.MapKept.run_setObj_map _ hb, Result.andThen],
      ⟨_, _, (heap_set hb).1, stamped_modify hs _ _ (fun _ _ => rfl) hkey, ?_, ?_⟩, setObj_kp _ hb (fz _ _)⟩
    · intro x hx
      obtain ⟨i, hi, hx⟩ := List.getElem_of_mem hx
      simp only [Array.getElem_toList] at hx
      have hi' : i < es.size := by simpa using hi
      rw [Array.getElem_modify] at hx
      by_cases hij : j = i
      · rw [if_pos hij] at hx
        subst hx
        exact ⟨hk, h1⟩
      · rw [if_neg hij] at hx
        have hmem : x ∈ es.toList := by rw [← hx]; simp
        refine ⟨(hks x hmem).1, ?_⟩
        rw [h2]
        · exact (hks x hmem).2
        · intro e'
          obtain ⟨_, _, hnd⟩ := hs
          have h3 : (es.toList.map (·.key))[i]? = (es.toList.map (·.key))[j]? := by
            have hjj : es[j] = e := by have := Array.getElem?_eq_getElem hjl; rw [hj] at this; exact (Option.some.inj this).symm
            simp [hi', hjl, hx, e', hjj, f3]
          exact hij ((List.getElem?_inj (by simpa using hi') hnd).1 h3).symm
    · intro k' v' hv
      by_cases e' : k' = k
      · subst e'
        rw [h1] at hv; cases hv
        refine ⟨{ e with key := k', val := v }, ?_, rfl, rfl⟩
        rw [List.mem_iff_getElem?]
        exact ⟨j, by simp [Array.getElem?_modify, hj]⟩
      · rw [h2 _ e'] at hv
        obtain ⟨x, hx, e1, e2⟩ := hg k' v' hv
        obtain ⟨i, hi⟩ := List.mem_iff_getElem?.1 hx
        refine ⟨x, List.mem_iff_getElem?.2 ⟨i, ?_⟩, e1, e2⟩
        have hij : j ≠ i := by
          rintro rfl
          rw [f2] at hi; cases hi
          exact e' (e1.symm.trans f3)
        simpa [Array.getElem?_modify, hij] using hi
end Go.SX
