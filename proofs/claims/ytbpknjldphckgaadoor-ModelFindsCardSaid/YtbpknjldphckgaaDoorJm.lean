/- Model: what is its own; its cells set anew. -/
import Derived.Test.YtbpknjldphckgaaDoorJl
import Derived.Test.YtbpknjldphckgaaDoorVmd
namespace Go.Proofs.YtbpknjldphckgaaDoor
open Go Go.SX Go.Proofs Go.Lib
set_option maxRecDepth 100000
set_option linter.unusedVariables false
set_option linter.unusedSimpArgs false
def stC (x : Stx) : List Value := [.bool x.t, .slice x.q x.L.length x.c]
def stsC : List Stx → List Value
  | [] => []
  | b :: r => stC b ++ stsC r
theorem stsC_app (a b : List Stx) : stsC (a ++ b) = stsC a ++ stsC b := by
  induction a with
  | nil => simp [stsC]
  | cons x r ih => simp only [List.cons_append, stsC, ih, List.append_assoc]
theorem stsC_get : ∀ (l : List Stx) (i : Nat) (h : i < l.length) (k : Nat), k < 2 → (stsC l)[i * 2 + k]? = (stC l[i])[k]?
  | b :: r, 0, h, k, hk => by
    rw [stsC, List.getElem?_append_left (by simp [stC]; omega)]
    simp
  | b :: r, i + 1, h, k, hk => by
    have hl : (stC b).length = 2 := rfl
    rw [stsC, List.getElem?_append_right (by rw [hl]; omega), hl, show (i + 1) * 2 + k - 2 = i * 2 + k by omega]
    exact stsC_get r i (by simpa using h) k hk
theorem elem130 : elemOk Tryd.prog 130 2 = true := by kernel_rfl
theorem und183 : Tryd.prog.underlying 183 = some (.slice 130) := Tryd.underlying183
/-- States that lie in blocks of one's own: the row in some, the files in others. -/
def SOwn (w : World) (O : Nat → Prop) (v : Value) (M : List (Bool × List Fil)) : Prop := ∃ (l : List Stx) (own : Nat → Prop), l.map Stx.sta = M ∧ (∀ i, own i → O i) ∧ OwnRow w own 130 2 v l.length (stsC l) ∧ ∀ x ∈ l, FOwn w (fun i => O i ∧ ¬ own i) (.slice x.q x.L.length x.c) x.L
theorem SOwn.kp {S O O' : Nat → Prop} {w w' : World} {v : Value} {M : List (Bool × List Fil)} (h : SOwn w O v M) (k : Kp S w w') (hs : ∀ i, i < w.heap.size → O i → ¬ S i ∧ O' i) : SOwn w' O' v M := by
  obtain ⟨l, own, h1, ho, hr, h3⟩ := h
  refine ⟨l, fun i => own i ∧ i < w.heap.size, h1, fun i hi => (hs i hi.2 (ho i hi.1)).2, (hr.mono (own' := fun i => own i ∧ i < w.heap.size) fun i hi hl => ⟨hi, hl⟩).kp k fun g n cap _ hg => (hs g hg.2 (ho g hg.1)).1, fun x hx => (h3 x hx).kp k fun i hl hi => ⟨(hs i hl hi.1).1, (hs i hl hi.1).2, fun hh => hi.2 hh.1⟩⟩
theorem SOwn.mono {O O' : Nat → Prop} {w : World} {v : Value} {M : List (Bool × List Fil)} (h : SOwn w O v M) (hs : ∀ i, i < w.heap.size → O i → O' i) : SOwn w O' v M := h.kp (Kp.refl none_ w) fun i hl hi => ⟨id, hs i hl hi⟩
theorem SOwn.rd {w : World} {O : Nat → Prop} {v : Value} {M : List (Bool × List Fil)} (h : SOwn w O v M) : ∃ q c, v = .slice q M.length c ∧ SRd w q M.length M := by
  obtain ⟨l, own, rfl, _, h2, h3⟩ := h
  obtain ⟨q, c, rfl⟩ := h2.slice
  refine ⟨q, c, by simp, l, rfl, by simp, fun i hi => ?_⟩
  have at_ : ∀ k u, k < 2 → (stC l[i])[k]? = some u → ∃ a, q = some a ∧ w.cell? (a.add (i * 2 + k)) = some u := fun k u hk hu => h2.at (by rw [stsC_get l i hi k hk]; exact hu)
  obtain ⟨a, e, c0⟩ := at_ 0 _ (by omega) rfl
  have go : ∀ k u, k < 2 → (stC l[i])[k]? = some u → w.cell? ((a.add (i * 2)).add k) = some u := fun k u hk hu => by
    obtain ⟨a', e', c⟩ := at_ k u hk hu
    rw [e] at e'
    cases e'
    rw [add_add]
    exact c
  obtain ⟨q', c', ev, r⟩ := (h3 _ (List.getElem_mem hi)).rd
  cases ev
  exact ⟨a, e, go 0 _ (by omega) rfl, go 1 _ (by omega) rfl, r⟩
/-- One state, laid just before. -/
theorem SOwn.one {w : World} {N : Nat → Prop} (t : Bool) {v : Value} {L : List Fil} (hf : FOwn w N v L) : SOwn (w.alloc (.cells #[.bool t, v] 130)) (fun i => N i ∨ fresh w i) (.slice (some ⟨w.heap.size, 0, none⟩) 1 1) [(t, L)] := by
  obtain ⟨q, c, rfl, _⟩ := hf.rd
  have k : Kp none_ w (w.alloc (.cells #[.bool t, .slice q L.length c] 130)) := (Kp.refl none_ w).alloc1 _
  refine ⟨[⟨t, L, q, c⟩], fun i => i = w.heap.size, rfl, fun i hi => .inr (by show w.heap.size ≤ i; omega), ⟨rfl, .inr ⟨w.heap.size, 1, _, rfl, rfl, by rw [alloc_get, if_pos rfl], Nat.le_refl _, by simp [maxLen], rfl, rfl⟩⟩, fun x hx => ?_⟩
  rw [List.mem_singleton] at hx
  subst hx
  exact hf.kp k fun i hl hi => ⟨id, .inl hi, by omega⟩
/-- One more state. -/
theorem SOwn.push {w : World} {O : Nat → Prop} {v : Value} {M : List (Bool × List Fil)} (h : SOwn w O v M) {N : Nat → Prop} (t : Bool) {u : Value} {L : List Fil} (hf : FOwn w N u L) (hN : ∀ i, i < w.heap.size → O i → ¬ N i) (hM : M.length ≤ 1000000) {K : Value → World → Prop}
    (hK : ∀ q n c w', SOwn w' (fun i => O i ∨ N i ∨ fresh w i) (.slice q n c) (M ++ [(t, L)]) → Kp O w w' → Kp O (w.alloc (.cells #[.bool t, u] 130)) w' → K (.slice q n c) w') :
    Runs Tryd.prog (Builtin.append_ #[183, 183] 183 #[v, .slice (some ⟨w.heap.size, 0, none⟩) 1 1]) (w.alloc (.cells #[.bool t, u] 130)) K := by
  obtain ⟨l, own, rfl, ho, hr, h3⟩ := h
  obtain ⟨q, c, rfl, _⟩ := hf.rd
  have hl : l.length ≤ 1000000 := by simpa using hM
  refine append_new (own := fun i => own i ∧ i < w.heap.size) (xs := stsC l) #[.bool t, .slice q L.length c] und183 elem130 (by omega) (hr.mono fun i hi hl => ⟨hi, hl⟩) rfl (fun u hu => by simp at hu; rcases hu with rfl | rfl <;> simp [Value.oneCell']) (by omega) fun q' c' w' r k1 k2 => hK q' _ c' w' ⟨l ++ [⟨t, L, q, c⟩], fun i => (own i ∧ i < w.heap.size) ∨ fresh w i, by simp, ?_, ?_, fun x hx => ?_⟩ (k1.mono fun i _ hi => ho i hi.1) (k2.mono fun i _ hi => ho i hi.1)
  · rintro i (hi | hi)
    · exact .inl (ho i hi.1)
    · exact .inr (.inr hi)
  · rw [stsC_app, List.length_append]
    exact r
  · rcases List.mem_append.1 hx with hx | hx
    · refine (h3 x hx).kp k1 fun i hl hi => ⟨fun hh => hi.2 hh.1, .inl hi.1, fun hh => hh.elim (fun h => hi.2 h.1) fun h => ?_⟩
      have h : w.heap.size ≤ i := h
      omega
    · rw [List.mem_singleton] at hx
      subst hx
      refine hf.kp k1 fun i hl hi => ⟨fun hh => hN i hl (ho i hh.1) hi, .inr (.inl hi), fun hh => hh.elim (fun h => hN i hl (ho i h.1) hi) fun h => ?_⟩
      have h : w.heap.size ≤ i := h
      omega
/-- Bytes behind a row of bytes of one's own. -/
theorem bytes_app {w : World} {own : Nat → Prop} {v : Value} {l : List UInt8} {K : Value → World → Prop} (h : OwnRow w own 5 1 v l.length (strCells (ba l))) {q : Option Addr} {c : Nat} {new : List UInt8} (hb : BytesAt w q (ba new)) (hmax : l.length + new.length ≤ 137438953472)
    (hK : ∀ q' n' c' w', OwnRow w' (fun i => own i ∨ fresh w i) 5 1 (.slice q' n' c') (l ++ new).length (strCells (ba (l ++ new))) → Kp own w w' → K (.slice q' n' c') w') : Runs Tryd.prog (Builtin.append_ #[27, 27] 27 #[v, .slice q new.length c]) w K := by
  have hby := byte5
  obtain ⟨i, hi, hz, hsz, hby⟩ := hby
  by_cases h0 : new.length = 0
  · have : new = [] := List.eq_nil_of_length_eq_zero h0
    subst this
    rw [List.append_nil] at hK
    obtain ⟨q1, c1, rfl⟩ := h.slice
    refine ⟨_, w, ?_, hK q1 _ c1 _ (h.mono fun i hi _ => .inl hi) (Kp.refl _ _)⟩
    have hnc := h.lens
    rcases h.2 with ⟨e, e0⟩ | ⟨g, cap, cur, e, _, _, hnc, _⟩
    · have : l = [] := List.eq_nil_of_length_eq_zero e0
      subst this
      cases e
      cases q <;> simp [Builtin.append_, run_underlying und27, sizeOf, typeInfo, hi, Builtin.lenOf, Builtin.firstCells, loadCells, loadCellsFrom]
    · cases e
      cases q <;> simp [Builtin.append_, run_underlying und27, sizeOf, typeInfo, hi, Builtin.lenOf, Builtin.firstCells, loadCells, loadCellsFrom, hnc, storeCells]
  · obtain ⟨a, rfl, _⟩ := hb 0 (by rw [ba_size]; omega)
    refine append_own (own := own) (xs := strCells (ba l)) (news := strCells (ba new)) und27 (byteT_elem byte5) (by omega) h (by rw [strCells_length, ba_size, Nat.mul_one]) (fun j u hj => ?_) (fun u hu => ?_) (by omega) hmax fun v' w' r k => ?_
    · have hj' : j < (ba new).size := by have := (List.getElem?_eq_some_iff.1 hj).1; rwa [strCells_length] at this
      rw [strCells_get hj'] at hj
      cases hj
      obtain ⟨a', e', hc⟩ := hb j hj'
      cases e'
      exact hc
    · unfold strCells at hu
      obtain ⟨x, _, rfl⟩ := List.mem_map.1 hu
      rfl
    · obtain ⟨q', c', rfl⟩ := r.slice
      refine hK q' _ c' w' ?_ k
      rw [List.length_append, ← ba_app, strCells_app]
      exact r
def upd (D : Nat → Nat) (E F c : Nat) : Nat → Nat := fun i => if E ≤ i then (if i < F then c else 0) else D i
/-- A model in memory; D tells what each block is: 4 its struct, 1 of the states, 2 of the map, 3 of the stream's data. -/
structure MD (w : World) (D : Nat → Nat) (b : Nat) (p : MM) (cm cn cd : Value) : Prop where
  big : Big w b 185 [cm, .bool p.opn, .bool p.poisoned, .bool p.streaming, cn, .string (ba p.name), cd]
  db : D b = 4
  sm : SOwn w (fun i => D i = 1) cm p.may
  sn : FOwn w (fun i => D i = 2) cn p.now
  sd : OwnRow w (fun i => D i = 3) 5 1 cd p.data.length (strCells (ba p.data))
variable {w w5 : World} {D : Nat → Nat} {b : Nat} {p : MM} {cm cn cd : Value}
theorem MD.kp {S : Nat → Prop} (h : MD w D b p cm cn cd) (k : Kp S w w5) (hs : ∀ i, i < w.heap.size → D i ≠ 0 → ¬ S i) : MD w5 D b p cm cn cd :=
  ⟨h.big.kp k (hs b h.big.lt (by rw [h.db]; decide)), h.db, h.sm.kp k fun i hl hi => ⟨hs i hl (by rw [hi]; decide), hi⟩, h.sn.kp k fun i hl hi => ⟨hs i hl (by rw [hi]; decide), hi⟩,
    ((h.sd.mono (own' := fun i => D i = 3 ∧ i < w.heap.size) fun i hi hl => ⟨hi, hl⟩).kp k fun g n cap _ hg => hs g hg.2 (by rw [hg.1]; decide)).mono fun i hi _ => hi.1⟩
theorem MD.kp0 (h : MD w D b p cm cn cd) (k : Kp none_ w w5) : MD w5 D b p cm cn cd := h.kp k fun _ _ _ => id
theorem MD.rd (h : MD w D b p cm cn cd) : MRd w b p := by
  obtain ⟨q1, c1, e1, r1⟩ := h.sm.rd
  obtain ⟨q2, c2, e2, r2⟩ := h.sn.rd
  obtain ⟨q3, c3, e3⟩ := h.sd.slice
  subst e1 e2 e3
  have hl := h.sd.lens
  have cell : ∀ i v, ([.slice q1 p.may.length c1, .bool p.opn, .bool p.poisoned, .bool p.streaming, .slice q2 p.now.length c2, .string (ba p.name), .slice q3 p.data.length c3] : List Value)[i]? = some v → w.cell? ⟨b, i, none⟩ = some v := fun i v e => by rw [h.big.cell]; exact e
  refine ⟨⟨q1, _, c1, cell 0 _ rfl, r1⟩, cell 1 _ rfl, cell 2 _ rfl, cell 3 _ rfl, ⟨q2, _, c2, cell 4 _ rfl, r2⟩, cell 5 _ rfl, ⟨q3, _, c3, cell 6 _ rfl, fun i hi => ?_, rfl, hl.2, ?_⟩⟩
  · obtain ⟨a, e, c⟩ := h.sd.at (strCells_get hi)
    exact ⟨a, e, c⟩
  · rcases h.sd.2 with ⟨e, _⟩ | ⟨g, cap, cur, e, _, _, _, hm, _⟩
    · simp only [Value.slice.injEq] at e
      rw [e.2.2]; simp [maxLen]
    · cases e; exact hm
/-- What is asked where a cell is set. -/
theorem Big.slot {w : World} {g : Nat} {e : TypeId} {cs : List Value} (h : Big w g e cs) {i : Nat} (hi : i < cs.length) : (∃ v, w.cell? ⟨g, i, none⟩ = some v) ∧ w.frozen? ⟨g, i, none⟩ = false := ⟨⟨cs[i], by rw [h.cell]; exact List.getElem?_eq_getElem hi⟩, h.frz i⟩
theorem MD.flag (h : MD w D b p cm cn cd) (i : Nat) (v : Value) (p' : MM) (hb : ([cm, .bool p.opn, .bool p.poisoned, .bool p.streaming, cn, .string (ba p.name), cd] : List Value).set i v = [cm, .bool p'.opn, .bool p'.poisoned, .bool p'.streaming, cn, .string (ba p'.name), cd])
    (h1 : p'.may = p.may) (h2 : p'.now = p.now) (h3 : p'.data = p.data) : MD (w.setCell ⟨b, i, none⟩ v) D b p' cm cn cd ∧ Kp (fun i => D i ≠ 0) w (w.setCell ⟨b, i, none⟩ v) := by
  have k1 : Kp (one_ b) w (w.setCell ⟨b, i, none⟩ v) := Big.setKp i v rfl
  have hne : ∀ j c, c ≠ 4 → D j = c → ¬ one_ b j := fun j c hc e hb => by
    have hb : j = b := hb
    rw [hb, h.db] at e
    exact hc e.symm
  refine ⟨⟨?_, h.db, ?_, ?_, ?_⟩, k1.mono fun j _ hj => by have hj : j = b := hj; rw [hj, h.db]; decide⟩
  · have := h.big.set i v
    rw [hb] at this
    exact this
  · rw [h1]; exact h.sm.kp k1 fun j _ hj => ⟨hne j 1 (by decide) hj, hj⟩
  · rw [h2]; exact h.sn.kp k1 fun j _ hj => ⟨hne j 2 (by decide) hj, hj⟩
  · rw [h3]
    exact ((h.sd.mono (own' := fun i => D i = 3 ∧ i < w.heap.size) fun i hi hl => ⟨hi, hl⟩).kp k1 fun g n cap _ hg => hne g 3 (by decide) hg.1).mono fun i hi _ => hi.1
theorem upd_lt {D : Nat → Nat} {E F c i : Nat} (h : i < E) : upd D E F c i = D i := if_neg (by omega)
theorem upd_ge {D : Nat → Nat} {E F c i : Nat} (h : E ≤ i) (h2 : i < F) : upd D E F c i = c := by unfold upd; rw [if_pos h, if_pos h2]
theorem upd_nz {D : Nat → Nat} {E F c i : Nat} (h : upd D E F c i ≠ 0) : i < E ∧ D i ≠ 0 ∨ E ≤ i ∧ i < F := by
  by_cases hi : E ≤ i
  · by_cases hf : i < F
    · exact .inr ⟨hi, hf⟩
    · unfold upd at h
      rw [if_pos hi, if_neg hf] at h
      exact absurd rfl h
  · rw [upd_lt (by omega)] at h
    exact .inl ⟨by omega, h⟩
theorem MD.setMay {E : Nat} (h : MD w D b p cm cn cd) (hDE : ∀ i, D i ≠ 0 → i < E) (k : Kp (fun i => D i = 1) w w5) {N : Nat → Prop} {cm' : Value} {M' : List (Bool × List Fil)} (s : SOwn w5 N cm' M') (hN : ∀ i, N i → D i = 1 ∨ E ≤ i) :
    MD (w5.setCell ⟨b, 0, none⟩ cm') (upd D E w5.heap.size 1) b { p with may := M' } cm' cn cd ∧ Kp (fun i => D i ≠ 0) w (w5.setCell ⟨b, 0, none⟩ cm') := by
  have hbl := hDE b (by rw [h.db]; decide)
  have hb5 := h.big.kp k (fun e => by rw [h.db] at e; cases e)
  have k1 : Kp (one_ b) w5 (w5.setCell ⟨b, 0, none⟩ cm') := Big.setKp 0 cm' rfl
  have K : Kp (fun i => D i = 1 ∨ i = b) w (w5.setCell ⟨b, 0, none⟩ cm') := (k.mono fun i _ hi => .inl hi).then k1 fun i _ hi => .inr hi
  have hne : ∀ j c, c ≠ 4 → c ≠ 1 → D j = c → ¬ (D j = 1 ∨ j = b) := fun j c hc hc1 e hb => by
    rcases hb with hb | hb
    · omega
    · rw [hb, h.db] at e
      exact hc e.symm
  refine ⟨⟨hb5.set 0 cm', by rw [upd_lt hbl]; exact h.db, ?_, ?_, ?_⟩, K.mono fun j _ hj => by
    rcases hj with hj | hj
    · rw [hj]; decide
    · rw [hj, h.db]; decide⟩
  · refine s.kp k1 fun i hl hi => ?_
    have := hN i hi
    refine ⟨fun e => ?_, ?_⟩
    · have e : i = b := e
      subst e
      rw [h.db] at this
      omega
    · show upd D E w5.heap.size 1 i = 1
      by_cases hi2 : E ≤ i
      · exact upd_ge hi2 hl
      · rw [upd_lt (by omega)]; omega
  · exact h.sn.kp K fun j hl hj => ⟨hne j 2 (by decide) (by decide) hj, by show upd D E _ 1 j = 2; rw [upd_lt (hDE j (by rw [hj]; decide))]; exact hj⟩
  · refine ((h.sd.mono (own' := fun i => D i = 3 ∧ i < w.heap.size) fun i hi hl => ⟨hi, hl⟩).kp K fun g n cap _ hg => hne g 3 (by decide) (by decide) hg.1).mono fun i hi _ => ?_
    show upd D E _ 1 i = 3
    rw [upd_lt (hDE i (by rw [hi.1]; decide))]; exact hi.1
theorem MD.setNow {E : Nat} (h : MD w D b p cm cn cd) (hDE : ∀ i, D i ≠ 0 → i < E) (k : Kp none_ w w5) {N : Nat → Prop} {cn' : Value} {L' : List Fil} (s : FOwn w5 N cn' L') (hN : ∀ i, N i → E ≤ i) :
    MD (w5.setCell ⟨b, 4, none⟩ cn') (upd D E w5.heap.size 2) b { p with now := L' } cm cn' cd ∧ Kp (fun i => D i ≠ 0) w (w5.setCell ⟨b, 4, none⟩ cn') := by
  have hbl := hDE b (by rw [h.db]; decide)
  have hb5 := h.big.kp k id
  have k1 : Kp (one_ b) w5 (w5.setCell ⟨b, 4, none⟩ cn') := Big.setKp 4 cn' rfl
  have K : Kp (one_ b) w (w5.setCell ⟨b, 4, none⟩ cn') := k.wide.trans k1
  have hne : ∀ j c, c ≠ 4 → D j = c → ¬ one_ b j := fun j c hc e hb => by
    have hb : j = b := hb
    rw [hb, h.db] at e
    exact hc e.symm
  refine ⟨⟨hb5.set 4 cn', by rw [upd_lt hbl]; exact h.db, ?_, ?_, ?_⟩, K.mono fun j _ hj => by have hj : j = b := hj; rw [hj, h.db]; decide⟩
  · exact h.sm.kp K fun j hl hj => ⟨hne j 1 (by decide) hj, by show upd D E _ 2 j = 1; rw [upd_lt (hDE j (by rw [hj]; decide))]; exact hj⟩
  · refine s.kp k1 fun i hl hi => ?_
    have := hN i hi
    exact ⟨fun e => by have e : i = b := e; omega, upd_ge this hl⟩
  · refine ((h.sd.mono (own' := fun i => D i = 3 ∧ i < w.heap.size) fun i hi hl => ⟨hi, hl⟩).kp K fun g n cap _ hg => hne g 3 (by decide) hg.1).mono fun i hi _ => ?_
    show upd D E _ 2 i = 3
    rw [upd_lt (hDE i (by rw [hi.1]; decide))]; exact hi.1
theorem MD.setDat {E : Nat} (h : MD w D b p cm cn cd) (hDE : ∀ i, D i ≠ 0 → i < E) (k : Kp (fun i => D i = 3) w w5) {N : Nat → Prop} {cd' : Value} {d' : List UInt8} (s : OwnRow w5 N 5 1 cd' d'.length (strCells (ba d'))) (hN : ∀ i, N i → D i = 3 ∨ E ≤ i) :
    MD (w5.setCell ⟨b, 6, none⟩ cd') (upd D E w5.heap.size 3) b { p with data := d' } cm cn cd' ∧ Kp (fun i => D i ≠ 0) w (w5.setCell ⟨b, 6, none⟩ cd') := by
  have hbl := hDE b (by rw [h.db]; decide)
  have hb5 := h.big.kp k (fun e => by rw [h.db] at e; cases e)
  have k1 : Kp (one_ b) w5 (w5.setCell ⟨b, 6, none⟩ cd') := Big.setKp 6 cd' rfl
  have K : Kp (fun i => D i = 3 ∨ i = b) w (w5.setCell ⟨b, 6, none⟩ cd') := (k.mono fun i _ hi => .inl hi).then k1 fun i _ hi => .inr hi
  have hne : ∀ j c, c ≠ 4 → c ≠ 3 → D j = c → ¬ (D j = 3 ∨ j = b) := fun j c hc hc1 e hb => by
    rcases hb with hb | hb
    · omega
    · rw [hb, h.db] at e
      exact hc e.symm
  refine ⟨⟨hb5.set 6 cd', by rw [upd_lt hbl]; exact h.db, ?_, ?_, ?_⟩, K.mono fun j _ hj => by
    rcases hj with hj | hj
    · rw [hj]; decide
    · rw [hj, h.db]; decide⟩
  · exact h.sm.kp K fun j hl hj => ⟨hne j 1 (by decide) (by decide) hj, by show upd D E _ 3 j = 1; rw [upd_lt (hDE j (by rw [hj]; decide))]; exact hj⟩
  · exact h.sn.kp K fun j hl hj => ⟨hne j 2 (by decide) (by decide) hj, by show upd D E _ 3 j = 2; rw [upd_lt (hDE j (by rw [hj]; decide))]; exact hj⟩
  · refine (s.mono (own' := fun i => upd D E w5.heap.size 3 i = 3 ∧ i ≠ b) fun i hi hl => ?_).kp k1 (fun g n cap _ hg e => hg.2 e) |>.mono fun i hi _ => hi.1
    have := hN i hi
    refine ⟨?_, fun e => ?_⟩
    · by_cases hi2 : E ≤ i
      · exact upd_ge hi2 hl
      · rw [upd_lt (by omega)]; omega
    · subst e
      rw [h.db] at this
      omega
/-- A model of one's own. -/
def MOwn (w : World) (O : Nat → Prop) (b : Nat) (p : MM) : Prop := ∃ (D : Nat → Nat) (cm cn cd : Value), MD w D b p cm cn cd ∧ ∀ i, D i ≠ 0 → O i
end Go.Proofs.YtbpknjldphckgaaDoor
