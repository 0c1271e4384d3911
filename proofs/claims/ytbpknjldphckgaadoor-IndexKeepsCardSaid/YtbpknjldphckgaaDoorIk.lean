/- IndexKeeps walked. -/
import Derived.Test.YtbpknjldphckgaaDoorIj
import Derived.Test.YtbpknjldphckgaaDoorVck
namespace Go.Proofs.YtbpknjldphckgaaDoor
open Go Go.SX Go.Proofs Go.Lib
set_option maxRecDepth 100000
set_option linter.unusedVariables false
set_option linter.unusedSimpArgs false
theorem ks0 {w w' : World} {bs : List Nat} (k : Kp none_ w w') (h : ∀ b ∈ bs, b < w.heap.size) : Keeps w w' bs := k.keeps fun b hb => ⟨h b hb, id⟩
/-! ### A member that is put is got, and no other one is changed -/
theorem putErr_zero {l : List Mb} {m : Mb} (h : putErr l m = 0) : putL l m = withK kM l m.s m := by unfold putL; rw [if_pos h]
theorem has_with {l : List Mb} (ha : Asc kM l) (m : Mb) (t : List UInt8) : has kM (withK kM l m.s m) t = (decide (t = m.s) || has kM l t) := by
  rw [Bool.eq_iff_iff, Bool.or_eq_true, decide_eq_true_eq, has_iff, has_iff, withK_eq ha]
  constructor
  · rintro ⟨b, hb, e⟩
    rcases List.mem_append.1 hb with hb | hb
    · exact .inr ⟨b, List.mem_of_mem_take hb, e⟩
    · rcases List.mem_cons.1 hb with rfl | hb
      · exact .inl e.symm
      · exact .inr ⟨b, List.mem_of_mem_drop hb, e⟩
  · rintro (e | ⟨b, hb, e⟩)
    · exact ⟨m, by simp, e.symm⟩
    · by_cases em : b.s = m.s
      · exact ⟨m, by simp, em.symm.trans e⟩
      · refine ⟨b, ?_, e⟩
        obtain ⟨i, hi, ei⟩ := List.getElem_of_mem hb
        by_cases hlt : i < pos kM l m.s
        · refine List.mem_append.2 (.inl ?_)
          rw [List.mem_take_iff_getElem]
          exact ⟨i, by omega, ei⟩
        · refine List.mem_append.2 (.inr (List.mem_cons.2 (.inr ?_)))
          rw [List.mem_drop_iff_getElem]
          have hne : (if has kM l m.s = true then pos kM l m.s + 1 else pos kM l m.s) ≤ i := by
            split
            · rename_i hh
              obtain ⟨hp, ep⟩ := has_get ha hh
              have : i ≠ pos kM l m.s := fun h => em (by subst h; rw [← ei]; exact ep)
              omega
            · omega
          exact ⟨i - (if has kM l m.s = true then pos kM l m.s + 1 else pos kM l m.s), by omega, by
            have e2 : (if has kM l m.s = true then pos kM l m.s + 1 else pos kM l m.s) + (i - (if has kM l m.s = true then pos kM l m.s + 1 else pos kM l m.s)) = i := by omega
            simp only [e2]
            exact ei⟩
/-- What Get tells is the one member of that name. -/
theorem getM_mem {l : List Mb} (ha : Asc kM l) {b : Mb} (hb : b ∈ l) : getM l b.s = (b, true) := by
  have hh : has kM l b.s = true := has_iff.2 ⟨b, hb, rfl⟩
  obtain ⟨hp, e⟩ := getM_has ha hh
  obtain ⟨_, ep⟩ := has_get ha hh
  rw [e]
  obtain ⟨i, hi, ei⟩ := List.getElem_of_mem hb
  have : i = pos kM l b.s := by
    rcases Nat.lt_trichotomy i (pos kM l b.s) with h | h | h
    · have := asc_get ha _ _ h hp
      rw [ep, ei, less_irr] at this; cases this
    · exact h
    · have := asc_get ha _ _ h hi
      rw [ep, ei, less_irr] at this; cases this
  have e3 : l[pos kM l b.s]'hp = l[i] := by simp only [← this]
  rw [e3, ei]
theorem getM_no {l : List Mb} {s : List UInt8} (h : has kM l s = false) : getM l s = (mb0, false) := by unfold getM; rw [if_neg (by rw [h]; decide)]
theorem mem_withK {l : List Mb} (ha : Asc kM l) {m b : Mb} (hb : b ∈ l) (hne : b.s ≠ m.s) : b ∈ withK kM l m.s m := by
  have h1 : has kM (withK kM l m.s m) b.s = true := by rw [has_with ha, (has_iff.2 ⟨b, hb, rfl⟩ : has kM l b.s = true), Bool.or_true]
  obtain ⟨c, hc, e⟩ := has_iff.1 h1
  rw [withK_eq ha] at hc
  have hc' : c = m ∨ c ∈ l := by
    rcases List.mem_append.1 hc with hc | hc
    · exact .inr (List.mem_of_mem_take hc)
    · rcases List.mem_cons.1 hc with rfl | hc
      · exact .inl rfl
      · exact .inr (List.mem_of_mem_drop hc)
  rcases hc' with rfl | hc'
  · exact absurd e.symm hne
  · have e1 := getM_mem ha hb
    have e2 := getM_mem ha hc'
    have e : c.s = b.s := e
    rw [e, e1] at e2
    have : b = c := congrArg Prod.fst e2
    rw [this, withK_eq ha]; exact hc
theorem getM_put {l : List Mb} (ha : Asc kM l) (m : Mb) {t : List UInt8} (hne : t ≠ m.s) : getM (putL l m) t = getM l t := by
  unfold putL
  split
  · have ha' : Asc kM (withK kM l m.s m) := asc_with ha rfl
    cases hh : has kM l t with
    | false => rw [getM_no hh, getM_no (by rw [has_with ha, hh, decide_eq_false hne]; rfl)]
    | true =>
      obtain ⟨b, hb, e⟩ := has_iff.1 hh
      have e : b.s = t := e
      subst e
      rw [getM_mem ha hb, getM_mem ha' (mem_withK ha hb hne)]
  · rfl
theorem getM_own {l : List Mb} (ha : Asc kM l) {m : Mb} (h : putErr l m = 0) : getM (putL l m) m.s = (m, true) := by
  rw [putErr_zero h]
  refine getM_mem (asc_with ha rfl) ?_
  rw [withK_eq ha]; simp
theorem without_put {l : List Mb} (ha : Asc kM l) (m : Mb) : withoutK kM (putL l m) m.s = withoutK kM l m.s := by
  unfold putL
  split
  · rw [withK_eq ha]
    unfold withoutK
    rw [List.filter_append, List.filter_cons]
    have e0 : (!(kM m == m.s)) = false := by simp
    rw [e0, if_neg (by decide), ← List.filter_append]
    by_cases hh : has kM l m.s = true
    · rw [if_pos hh]
      obtain ⟨hp, ep⟩ := has_get ha hh
      have hspl : l = l.take (pos kM l m.s) ++ l[pos kM l m.s] :: l.drop (pos kM l m.s + 1) := by
        rw [← List.drop_eq_getElem_cons hp, List.take_append_drop]
      conv => rhs; rw [hspl]
      rw [List.filter_append, List.filter_append, List.filter_cons]
      have e1 : (!(kM l[pos kM l m.s] == m.s)) = false := by simp [ep]
      rw [e1, if_neg (by decide)]
    · rw [if_neg hh, List.take_append_drop]
  · rfl
theorem has_without_own (l : List Mb) (s : List UInt8) : has kM (withoutK kM l s) s = false := by
  cases h : has kM (withoutK kM l s) s with
  | false => rfl
  | true =>
    obtain ⟨b, hb, e⟩ := has_iff.1 h
    have := (List.mem_filter.1 hb).2
    simp [e] at this
theorem len_put {l : List Mb} (ha : Asc kM l) {m : Mb} (h : putErr l m = 0) : (putL l m).length = if has kM l m.s = true then l.length else l.length + 1 := by
  rw [putErr_zero h]
  cases hh : has kM l m.s with
  | true => rw [withK_has ha _ hh, List.length_set]; rfl
  | false =>
    have := pos_le (k := kM) l m.s
    rw [withK_not ha _ hh]
    simp only [List.length_append, List.length_take, List.length_cons, List.length_drop, Bool.false_eq_true, if_false]
    omega
theorem len_withoutM {l : List Mb} (ha : Asc kM l) (s : List UInt8) : (withoutK kM l s).length = if has kM l s = true then l.length - 1 else l.length := by
  rw [withoutK_eq ha]
  split
  · rename_i hh
    obtain ⟨hp, _⟩ := has_get ha hh
    simp only [List.length_append, List.length_take, List.length_drop]; omega
  · rfl
end Go.Proofs.YtbpknjldphckgaaDoor
namespace Go.Proofs.YtbpknjldphckgaaDoor
open Go Go.SX Go.Proofs Go.Lib
set_option maxRecDepth 100000
set_option linter.unusedVariables false
set_option linter.unusedSimpArgs false
/-- An index of one's own, apart from some blocks. -/
def IxF (E : Nat) (bs : List Nat) (w : World) (b : Nat) (l : List Mb) : Prop := ∃ O, IxAt w O b l ∧ (∀ i, O i → E ≤ i ∧ i < w.heap.size) ∧ ∀ g ∈ bs, ¬ O g
theorem IxF.kp0 {E : Nat} {bs : List Nat} {w w' : World} {b : Nat} {l : List Mb} (h : IxF E bs w b l) (k : Kp none_ w w') : IxF E bs w' b l := by
  obtain ⟨O, h1, h2, h3⟩ := h
  exact ⟨O, h1.kp0 k, fun i hi => ⟨(h2 i hi).1, Nat.lt_of_lt_of_le (h2 i hi).2 k.size⟩, h3⟩
/-- What is laid later is apart. -/
theorem IxF.add {E : Nat} {bs : List Nat} {w w' : World} {b : Nat} {l : List Mb} (h : IxF E bs w b l) (k : Kp none_ w w') {g : Nat} (hg : w.heap.size ≤ g) : IxF E (g :: bs) w' b l := by
  obtain ⟨O, h1, h2, h3⟩ := h
  refine ⟨O, h1.kp0 k, fun i hi => ⟨(h2 i hi).1, Nat.lt_of_lt_of_le (h2 i hi).2 k.size⟩, fun x hx => ?_⟩
  rcases List.mem_cons.1 hx with rfl | hx
  · exact fun ho => by have := (h2 _ ho).2; omega
  · exact h3 x hx
theorem IxF.get {E : Nat} {bs : List Nat} {w : World} {b : Nat} {l : List Mb} (h : IxF E bs w b l) : ∃ O, IxAt w O b l := by
  obtain ⟨O, h1, _⟩ := h
  exact ⟨O, h1⟩
theorem IxF.put {E : Nat} {bs : List Nat} {w : World} (hml : ML w) (hE : 0 < E) {b : Nat} {l : List Mb} (h : IxF E bs w b l) (hbs : ∀ g ∈ bs, g < w.heap.size) (hEw : E ≤ w.heap.size) (ha : Asc kM l) (hl : l.length ≤ 1000000) (m : Mb) (hms : m.s.length ≤ 1000000) :
    Rets Tryd.prog 74 #[.pointer (some ⟨b, 0, none⟩), mbV m] w fun v w' => v = .int .i64 (putErr l m) ∧ IxF E bs w' b (putL l m) ∧ Kp (fun i => E ≤ i) w w' ∧ Keeps w w' bs := by
  obtain ⟨O, h1, h2, h3⟩ := h
  refine (c74 hml h1 ha hl m hms).mono ?_
  rintro v w' ⟨rfl, x, k⟩
  refine ⟨rfl, ⟨fun i => (O i ∨ w.heap.size ≤ i) ∧ i < w'.heap.size, x.mono fun i hi ho => ⟨ho, hi⟩, fun i hi => ⟨?_, hi.2⟩, fun g hg ho => ?_⟩, k.mono fun i _ hi => (h2 i hi).1, k.keeps fun g hg => ⟨hbs g hg, h3 g hg⟩⟩
  · rcases hi.1 with h | h
    · exact (h2 i h).1
    · omega
  · rcases ho.1 with h | h
    · exact h3 g hg h
    · have := hbs g hg; omega
theorem IxF.drop {E : Nat} {bs : List Nat} {w : World} {b : Nat} {l : List Mb} (h : IxF E bs w b l) (hbs : ∀ g ∈ bs, g < w.heap.size) (ha : Asc kM l) (hl : l.length ≤ 1000000) (s : ByteArray) :
    Rets Tryd.prog 75 #[.pointer (some ⟨b, 0, none⟩), .string s] w fun v w' => v = .bool (has kM l (bytesL s)) ∧ IxF E bs w' b (withoutK kM l (bytesL s)) ∧ Kp (fun i => E ≤ i) w w' ∧ Keeps w w' bs := by
  obtain ⟨O, h1, h2, h3⟩ := h
  refine (c75 h1 ha hl s).mono ?_
  rintro v w' ⟨rfl, x, k⟩
  exact ⟨rfl, ⟨O, x, fun i hi => ⟨(h2 i hi).1, Nat.lt_of_lt_of_le (h2 i hi).2 k.size⟩, h3⟩, k.mono fun i _ hi => (h2 i hi).1, k.keeps fun g hg => ⟨hbs g hg, h3 g hg⟩⟩
/-- The world behind a struct that was just laid. -/
theorem laid7 {w : World} {b : Mb} : Kp none_ w (set7 (w.alloc (.cells #[.string { data := #[] }, .int .i64 0, .int .i64 0, .int .i64 0, .int .i64 0, .int .u32 0, .int .i64 0] 50)) w.heap.size (.string (ba b.s)) (.int .i64 b.a) (.int .i64 b.f) (.int .i64 b.r) (.int .i64 b.z) (.int .u32 b.u) (.int .i64 b.m)) ∧
    w.heap.size < (set7 (w.alloc (.cells #[.string { data := #[] }, .int .i64 0, .int .i64 0, .int .i64 0, .int .i64 0, .int .u32 0, .int .i64 0] 50)) w.heap.size (.string (ba b.s)) (.int .i64 b.a) (.int .i64 b.f) (.int .i64 b.r) (.int .i64 b.z) (.int .u32 b.u) (.int .i64 b.m)).heap.size :=
  ⟨newset7 (Kp.refl none_ w), newset7_lt⟩
theorem c17 {W : World} (hml : ML W) (h00 : 0 < W.heap.size) {q : Option Addr} {c : Nat} {l : List Mb} (hq : MemsAt W q l) (m : Mb) (t : List UInt8) :
    Rets Tryd.prog 17 #[.slice q l.length c, mbV m, .string (ba t)] W fun v w' => v = .bool true ∧ Kp none_ W w' := by
  refine ent [_, _, _] Tryd.func17 ((vcTryd17 _ _ _ _ _ _ _ _ _ _ _ W _).mpr ?_)
  unfold VCTryd17
  simp (config := { maxSteps := 10000000 }) only [set7_def]
  intro _
  have k0 : Kp none_ W (W.alloc (.cells #[.string (ba m.s), .int .i64 m.a, .int .i64 m.f, .int .i64 m.r, .int .i64 m.z, .int .u32 m.u, .int .i64 m.m] 50)) := (Kp.refl none_ W).alloc1 _
  have z0 : W.heap.size < (W.alloc (.cells #[.string (ba m.s), .int .i64 m.a, .int .i64 m.f, .int .i64 m.r, .int .i64 m.z, .int .u32 m.u, .int .i64 m.m] 50)).heap.size := by rw [alloc_size]; omega
  generalize W.alloc (.cells #[.string (ba m.s), .int .i64 m.a, .int .i64 m.f, .int .i64 m.r, .int .i64 m.z, .int .u32 m.u, .int .i64 m.m] 50) = w0 at *
  have live : ∀ {w : World} {bs : List Nat} {A : World → Prop}, Kp (fun i => W.heap.size ≤ i) W w → (∀ g ∈ bs, g < w.heap.size) → Rets Tryd.prog 66 #[] w fun v w' => ∃ t, v = .bool t ∧ Keeps w w' bs ∧ (A w' → ∃ v, Ending.returned (Value.bool t) = Ending.returned v ∧ v = .bool true ∧ Kp none_ W w') := fun k hb => (c66 (hml.far k (Nat.le_refl _))).mono (by
    rintro v w' ⟨rfl, k2⟩
    exact ⟨_, rfl, ks0 k2 hb, fun _ => ⟨_, rfl, rfl, (k.trans k2.wide).narrow (Nat.le_refl _)⟩⟩)
  refine (c65 (hq.kp0 k0)).mono ?_
  rintro v wx ⟨t0, rfl, e, ht⟩
  obtain rfl := e.symm
  have one : ∀ {w : World}, W.heap.size < w.heap.size → ∀ g ∈ [W.heap.size], g < w.heap.size := fun h g hg => by rw [List.mem_singleton] at hg; omega
  refine ⟨_, rfl, ks0 (Kp.refl _ _) (one z0), bif_b (fun _ _ => live k0.wide (one z0)) (fun h1 => bif_dec (fun _ _ => live k0.wide (one z0)) (fun h2 => bif_b (fun _ _ => live k0.wide (one z0)) (fun hne _ => ?_)))⟩
  rw [ba_size] at h2
  rw [beq_ba, bytesL_ba] at hne
  have hne : t ≠ m.s := by simpa using hne
  obtain ⟨hl, hn⟩ := ht h1
  refine (c67 (hml.kp0 k0) (hq.kp0 k0) (fun b hb => by have := hn b hb; omega) (by omega)).mono ?_
  rintro v w1 ⟨k1, hcase⟩
  have K1 : Kp (fun i => W.heap.size ≤ i) W w1 := (k0.trans k1).wide
  have z1 := Nat.lt_of_lt_of_le z0 k1.size
  rcases hcase with ⟨hk, rfl⟩ | ⟨hk, b, hb, rfl, x1⟩
  · exact ⟨_, _, rfl, ks0 k1 (one z0), bif_ne (fun _ => bif_b (fun _ _ => live K1 (one z1)) (fun h => by cases h)) (fun h => by cases h)⟩
  have okl := okL_of hk
  have hlen := okl.len
  have X1 : IxF W.heap.size [W.heap.size] w1 b l := ⟨fun i => w0.heap.size ≤ i ∧ i < w1.heap.size, x1.mono fun i hi ho => ⟨ho, hi⟩, fun i hi => ⟨by omega, hi.2⟩, fun g hg ho => by rw [List.mem_singleton] at hg; omega⟩
  obtain ⟨O1, y1⟩ := X1.get
  refine ⟨_, _, rfl, ks0 k1 (one z0), bif_ne (fun h => absurd rfl h) (fun _ => bif_b (fun h => by cases h) (fun _ _ => (c73 y1 okl.asc (by omega) (ba t)).mono ?_))⟩
  rw [bytesL_ba]
  rintro v w2 ⟨rfl, k2⟩
  have z2 := Nat.lt_of_lt_of_le z1 k2.size
  refine ⟨_, _, _, _, _, _, _, _, rfl, ks0 k2 (one z1), fun _ => ?_⟩
  obtain ⟨ka, za⟩ := laid7 (w := w2) (b := (getM l t).1)
  have Xa := (X1.kp0 k2).add ka (Nat.le_refl _)
  have Ka := (K1.trans k2.wide).trans ka.wide
  generalize set7 (w2.alloc (.cells #[.string { data := #[] }, .int .i64 0, .int .i64 0, .int .i64 0, .int .i64 0, .int .u32 0, .int .i64 0] 50)) w2.heap.size (.string (ba (getM l t).1.s)) (.int .i64 (getM l t).1.a) (.int .i64 (getM l t).1.f) (.int .i64 (getM l t).1.r) (.int .i64 (getM l t).1.z) (.int .u32 (getM l t).1.u) (.int .i64 (getM l t).1.m) = wa at *
  obtain ⟨Oa, ya⟩ := Xa.get
  refine (c73 ya okl.asc (by omega) (ba m.s)).mono ?_
  rw [bytesL_ba]
  rintro v w3 ⟨rfl, k3⟩
  have z3 := Nat.lt_of_lt_of_le za k3.size
  refine ⟨_, _, _, _, _, _, _, _, rfl, ks0 k3 (by simp; omega), fun _ => ?_⟩
  obtain ⟨kb, zb⟩ := laid7 (w := w3) (b := (getM l m.s).1)
  have Xb := (Xa.kp0 k3).add kb (Nat.le_refl _)
  have Kb := (Ka.trans k3.wide).trans kb.wide
  generalize set7 (w3.alloc (.cells #[.string { data := #[] }, .int .i64 0, .int .i64 0, .int .i64 0, .int .i64 0, .int .u32 0, .int .i64 0] 50)) w3.heap.size (.string (ba (getM l m.s).1.s)) (.int .i64 (getM l m.s).1.a) (.int .i64 (getM l m.s).1.f) (.int .i64 (getM l m.s).1.r) (.int .i64 (getM l m.s).1.z) (.int .u32 (getM l m.s).1.u) (.int .i64 (getM l m.s).1.m) = wb at *
  obtain ⟨Ob, yb⟩ := Xb.get
  refine (c69 yb).mono ?_
  rintro v wx ⟨rfl, e⟩
  obtain rfl := e.symm
  have l3 : ∀ {w : World}, wb.heap.size ≤ w.heap.size → ∀ g ∈ [W.heap.size, w2.heap.size, w3.heap.size], g < w.heap.size := fun h g hg => by
    simp only [List.mem_cons, List.not_mem_nil, or_false] at hg
    rcases hg with rfl | rfl | rfl <;> omega
  have hag : (getM l m.s).2 = has kM l m.s := by unfold getM; split <;> simp_all
  refine ⟨_, rfl, ks0 (Kp.refl _ _) (l3 (Nat.le_refl _)), fun s' _ _ _ _ _ _ s2 a2 f2 r2 x2 u2 m2 _ _ _ _ _ _ _ w' => s' = ba m.s ∧ (s2 = ba (getM l t).1.s ∧ a2 = (getM l t).1.a ∧ f2 = (getM l t).1.f ∧ r2 = (getM l t).1.r ∧ x2 = (getM l t).1.z ∧ u2 = (getM l t).1.u ∧ m2 = (getM l t).1.m) ∧ IxF W.heap.size [W.heap.size, w2.heap.size, w3.heap.size] w' b (putL l m) ∧ Kp (fun i => W.heap.size ≤ i) W w' ∧ wb.heap.size ≤ w'.heap.size, ?_, ?_⟩
  rotate_left
  · -- Put
    intro _
    have Xb' : IxF W.heap.size [W.heap.size, w2.heap.size, w3.heap.size] wb b l := by
      obtain ⟨O, h1, h2, h3⟩ := Xb
      exact ⟨O, h1, h2, fun g hg => h3 g (by simp only [List.mem_cons, List.not_mem_nil, or_false] at hg ⊢; rcases hg with h | h | h <;> simp [h])⟩
    refine (Xb'.put (hml.far Kb (Nat.le_refl _)) h00 (l3 (Nat.le_refl _)) Kb.size okl.asc (by omega) m (by omega)).mono ?_
    rintro v w4 ⟨rfl, X4, k4, kp4⟩
    have K4 := Kb.trans k4
    have z4 := k4.size
    refine ⟨_, rfl, kp4, bif_eq (fun he _ => ?_) (fun he => ⟨rfl, ⟨rfl, rfl, rfl, rfl, rfl, rfl, rfl⟩, X4, K4, z4⟩)⟩
    obtain ⟨O4, y4⟩ := X4.get
    have ok4 := okL_put okl m
    have hlen4 := ok4.len
    have eg := getM_own okl.asc he
    have elen := len_put okl.asc he
    refine (c73 y4 ok4.asc (by omega) (ba m.s)).mono ?_
    rw [bytesL_ba, eg]
    rintro v w5 ⟨rfl, k5⟩
    have z5 := k5.size
    refine ⟨_, _, _, _, _, _, _, _, rfl, ks0 k5 (l3 z4), bif_not (fun h => by cases h) (fun _ => ⟨by first | rfl | trivial, bif_not (fun h => ?_) (fun _ _ => ?_)⟩)⟩
    · rw [mb_eq] at h; simp at h
    obtain ⟨kc, zc⟩ := laid7 (w := w5) (b := m)
    have Xc := (X4.kp0 k5).kp0 kc
    have Kc := (K4.trans k5.wide).trans kc.wide
    have zc' := kc.size
    generalize set7 (w5.alloc (.cells #[.string { data := #[] }, .int .i64 0, .int .i64 0, .int .i64 0, .int .i64 0, .int .u32 0, .int .i64 0] 50)) w5.heap.size (.string (ba m.s)) (.int .i64 m.a) (.int .i64 m.f) (.int .i64 m.r) (.int .i64 m.z) (.int .u32 m.u) (.int .i64 m.m) = wc at *
    obtain ⟨Oc, yc⟩ := Xc.get
    have l4 : ∀ g ∈ [W.heap.size, w2.heap.size, w3.heap.size, w5.heap.size], g < wc.heap.size := fun g hg => by
      simp only [List.mem_cons, List.not_mem_nil, or_false] at hg
      rcases hg with rfl | rfl | rfl | rfl <;> omega
    refine (c69 yc).mono ?_
    rintro v wx ⟨rfl, e⟩
    obtain rfl := e.symm
    have fin : ∀ {w' : World}, w' = wc → ba m.s = ba m.s ∧ (ba (getM l t).1.s = ba (getM l t).1.s ∧ (getM l t).1.a = (getM l t).1.a ∧ (getM l t).1.f = (getM l t).1.f ∧ (getM l t).1.r = (getM l t).1.r ∧ (getM l t).1.z = (getM l t).1.z ∧ (getM l t).1.u = (getM l t).1.u ∧ (getM l t).1.m = (getM l t).1.m) ∧ IxF W.heap.size [W.heap.size, w2.heap.size, w3.heap.size] w' b (putL l m) ∧ Kp (fun i => W.heap.size ≤ i) W w' ∧ wb.heap.size ≤ w'.heap.size := fun e => by
      subst e
      exact ⟨rfl, ⟨rfl, rfl, rfl, rfl, rfl, rfl, rfl⟩, Xc, Kc, by omega⟩
    refine ⟨_, rfl, ks0 (Kp.refl _ _) l4, ?_⟩
    rw [hag, elen]
    cases hh : has kM l m.s with
    | true =>
      refine bif_not (fun h => by simp at h) (fun _ => bif_not (fun h => by cases h) (fun _ => fin rfl))
    | false =>
      refine bif_not (fun h => ?_) (fun _ => bif_not (fun _ _ => (c69 yc).mono ?_) (fun h => by cases h))
      · exfalso
        simp only [Bool.false_eq_true, if_false] at h
        have : (((l.length + 1 : Nat) : Int) == (l.length : Int)) = false := by
          rw [beq_eq_false_iff_ne]; omega
        rw [this] at h
        cases h
      · rintro v wx ⟨rfl, e⟩
        obtain rfl := e.symm
        refine ⟨_, rfl, ks0 (Kp.refl _ _) l4, wr64 (by omega) (bif_ne (fun h _ => absurd ?_ h) (fun _ => fin rfl))⟩
        rw [elen, hh]
        simp
  · -- Get, Drop, All
    rintro s' a' f' r' x' u' m' s2 a2 f2 r2 x2 u2 m2 s3 a3 f3 r3 x3 u3 m3 w5 ⟨rfl, ⟨rfl, rfl, rfl, rfl, rfl, rfl, rfl⟩, X5, K5, z5⟩ _ _
    have ok5 := okL_put okl m
    have hlen5 := ok5.len
    obtain ⟨O5, y5⟩ := X5.get
    refine (c73 y5 ok5.asc (by omega) (ba t)).mono ?_
    rw [bytesL_ba, getM_put okl.asc m hne]
    rintro v w6 ⟨rfl, k6⟩
    refine ⟨_, _, _, _, _, _, _, _, rfl, ks0 k6 (l3 z5), fun s' _ _ _ _ _ _ _ _ _ _ _ _ _ _ _ _ _ _ _ _ _ _ _ _ _ _ _ w' => s' = ba m.s ∧ IxF W.heap.size [W.heap.size, w2.heap.size, w3.heap.size, w6.heap.size] w' b (putL l m) ∧ Kp (fun i => W.heap.size ≤ i) W w' ∧ wb.heap.size ≤ w6.heap.size ∧ w6.heap.size < w'.heap.size, ?_, ?_⟩
    rotate_left
    · obtain ⟨kc, zc⟩ := laid7 (w := w6) (b := (getM l t).1)
      have Xc := (X5.kp0 k6).add kc (Nat.le_refl _)
      have Kc := (K5.trans k6.wide).trans kc.wide
      have z6 := k6.size
      refine ⟨by first | rfl | trivial, bif_not (fun h => ?_) (fun _ => bif_not (fun h => ?_) (fun _ => ⟨rfl, ?_, Kc, by omega, zc⟩))⟩
      · rw [mb_eq] at h; simp at h
      · simp at h
      · obtain ⟨O, h1, h2, h3⟩ := Xc
        exact ⟨O, h1, h2, fun g hg => h3 g (by simp only [List.mem_cons, List.not_mem_nil, or_false] at hg ⊢; rcases hg with h | h | h | h <;> simp [h])⟩
    · rintro s' a' f' r' x' u' m' s2 a2 f2 r2 x2 u2 m2 s3 a3 f3 r3 x3 u3 m3 s4 a4 f4 r4 x4 u4 m4 w7 ⟨rfl, X7, K7, z6, z7⟩ _ _
      have l5 : ∀ {w : World}, w7.heap.size ≤ w.heap.size → ∀ g ∈ [W.heap.size, w2.heap.size, w3.heap.size, w6.heap.size], g < w.heap.size := fun h g hg => by
        simp only [List.mem_cons, List.not_mem_nil, or_false] at hg
        rcases hg with rfl | rfl | rfl | rfl <;> omega
      refine (X7.drop (l5 (Nat.le_refl _)) ok5.asc (by omega) (ba m.s)).mono ?_
      rw [bytesL_ba, without_put okl.asc]
      rintro v w8 ⟨rfl, X8, k8, kp8⟩
      have ok8 := okL_without okl m.s
      have hlen8 := ok8.len
      have K8 := K7.trans k8
      have z8 := k8.size
      obtain ⟨O8, y8⟩ := X8.get
      refine ⟨_, rfl, kp8, fun _ => (c73 y8 ok8.asc (by omega) (ba m.s)).mono ?_⟩
      rw [bytesL_ba, getM_no (has_without_own l m.s)]
      rintro v w9 ⟨rfl, k9⟩
      have z9 := k9.size
      refine ⟨_, _, _, _, _, _, _, _, rfl, ks0 k9 (l5 z8), fun _ => ?_⟩
      obtain ⟨kc, zc⟩ := laid7 (w := w9) (b := mb0)
      have X10 := (X8.kp0 k9).kp0 kc
      have K10 := (K8.trans k9.wide).trans kc.wide
      obtain ⟨O10, y10⟩ := X10.get
      generalize set7 (w9.alloc (.cells #[.string { data := #[] }, .int .i64 0, .int .i64 0, .int .i64 0, .int .i64 0, .int .u32 0, .int .i64 0] 50)) w9.heap.size (.string (ba mb0.s)) (.int .i64 mb0.a) (.int .i64 mb0.f) (.int .i64 mb0.r) (.int .i64 mb0.z) (.int .u32 mb0.u) (.int .i64 mb0.m) = wc at *
      have l6 : ∀ {w : World}, wc.heap.size ≤ w.heap.size → ∀ g ∈ [W.heap.size, w2.heap.size, w3.heap.size, w6.heap.size, w9.heap.size], g < w.heap.size := fun h g hg => by
        simp only [List.mem_cons, List.not_mem_nil, or_false] at hg
        rcases hg with rfl | rfl | rfl | rfl | rfl <;> omega
      refine (c70 y10 (by omega)).mono ?_
      rintro v w11 ⟨q', c', rfl, r11, k11⟩
      have K11 := K10.trans k11.wide
      have z11 := k11.size
      have elen := len_withoutM okl.asc m.s
      refine ⟨_, _, _, rfl, ks0 k11 (l6 (Nat.le_refl _)), fun s' _ _ _ _ _ _ _ _ _ _ _ _ _ _ _ _ _ _ _ _ _ _ _ _ _ _ _ _ _ _ _ _ _ _ w' => s' = ba m.s ∧ w' = w11, ?_, ?_⟩
      rotate_left
      · refine bif_b (fun h => by cases h) (fun _ => ?_)
        rw [hag, elen]
        cases hh : has kM l m.s with
        | true =>
          have hpos : 0 < l.length := by
            obtain ⟨x, hx, _⟩ := has_iff.1 hh
            exact List.length_pos_of_mem hx
          refine bif_b (fun _ => wr64 (by omega) (bif_ne (fun h => absurd ?_ h) (fun _ => bif_not (fun h => by cases h) (fun _ => ⟨rfl, rfl⟩)))) (fun h => by cases h)
          rw [if_pos rfl]; omega
        | false =>
          refine bif_b (fun h => by cases h) (fun _ => bif_not (fun _ => bif_ne (fun h => absurd ?_ h) (fun _ => ⟨rfl, rfl⟩)) (fun h => by cases h))
          rw [if_neg (by decide)]
      · rintro s' a' f' r' x' u' m' s2 a2 f2 r2 x2 u2 m2 s3 a3 f3 r3 x3 u3 m3 s4 a4 f4 r4 x4 u4 m4 s5 a5 f5 r5 x5 u5 m5 w12 ⟨rfl, rfl⟩ _
        have m11 := mems_of r11
        have q11 : MemsAt w12 q l := hq.far K11 (Nat.le_refl _)
        refine ⟨fun i w' => ∃ j : Nat, i = j ∧ 1 ≤ j ∧ Kp none_ w12 w', fun i _ => ((withoutK kM l m.s).length - i).toNat, ⟨1, rfl, by omega, Kp.refl _ _⟩, ?_⟩
        rintro i w13 ⟨j, rfl, hj1, k13⟩ _
        have kd13 : Kp none_ w12 w13.drew := k13.drew
        refine bif_dec (fun hlt => wr64 (by omega) ?_) (fun hge => ?_)
        · have ej : ((j : Int) - 1) = ((j - 1 : Nat) : Int) := by omega
          rw [ej]
          refine ⟨⟨by omega, by omega⟩, mem_at (m11.kp0 kd13) (i := j - 1) (by omega) fun x _ mx => ⟨_, mx.c0, ⟨by omega, by omega⟩, mem_at (m11.kp0 kd13) (i := j) (by omega) fun y _ my => ⟨_, my.c0, ?_⟩⟩⟩
          rw [toList_ba, toList_ba]
          have hasc := asc_get ok8.asc (j - 1) j (by omega) (by omega)
          exact bif_not (fun h => by rw [show Op.bytesLess ((withoutK kM l m.s)[j - 1]'(by omega)).s ((withoutK kM l m.s)[j]'(by omega)).s = true from hasc] at h; cases h) (fun _ => wr64 (by omega) ⟨rfl, ⟨j + 1, by omega, by omega, kd13⟩, by first | omega | (dsimp only; omega)⟩)
        · refine ⟨fun i k w' => ∃ (j : Nat), i = j ∧ j ≤ l.length ∧ k = ((withoutK kM (l.take j) m.s).length : Int) ∧ Kp none_ w12 w', fun i _ _ => (l.length - i).toNat, ⟨0, rfl, by omega, by simp [withoutK], k13⟩, ?_⟩
          rintro i k w14 ⟨j, rfl, hj, rfl, k14⟩ _
          have kd1 : Kp none_ w12 w14.drew := k14.drew
          have kd2 : Kp none_ w12 w14.drew.drew := k14.drew.drew
          have hpre : withoutK kM l m.s = withoutK kM (l.take j) m.s ++ withoutK kM (l.drop j) m.s := by
            unfold withoutK
            rw [← List.filter_append, List.take_append_drop]
          have hple : (withoutK kM (l.take j) m.s).length ≤ (l.take j).length := List.length_filter_le _ _
          have htl : (l.take j).length ≤ j := by rw [List.length_take]; omega
          refine bif_dec (fun hlt => ⟨⟨by omega, by omega⟩, mem_at (q11.kp0 kd1) (i := j) (by omega) fun x _ mx => ⟨_, mx.c0, ?_⟩⟩) (fun hge => ?_)
          · have hjl : j < l.length := by omega
            have hst := withoutK_step (k := kM) (s := m.s) hjl
            rw [beq_ba, bytesL_ba]
            refine bif_b (fun h => wr64 (by omega) ⟨rfl, ⟨j + 1, by omega, by omega, ?_, kd1⟩, by first | omega | (dsimp only; omega)⟩) (fun h => ?_)
            · rw [hst, if_pos (by simpa using h)]
            · have hns : kM l[j] ≠ m.s := by simpa using h
              rw [if_neg hns] at hst
              have hnext : withoutK kM l m.s = withoutK kM (l.take j) m.s ++ l[j] :: withoutK kM (l.drop (j + 1)) m.s := by
                have : withoutK kM l m.s = withoutK kM (l.take (j + 1)) m.s ++ withoutK kM (l.drop (j + 1)) m.s := by
                  unfold withoutK
                  rw [← List.filter_append, List.take_append_drop]
                rw [this, hst]; simp
              have hlt2 : (withoutK kM (l.take j) m.s).length < (withoutK kM l m.s).length := by rw [hnext]; simp
              have hat : (withoutK kM l m.s)[(withoutK kM (l.take j) m.s).length]'hlt2 = l[j] := by
                simp only [hnext]
                rw [List.getElem_append_right (Nat.le_refl _)]
                simp
              refine bif_dec (fun h2 => absurd h2 (by omega)) (fun _ => ⟨⟨by omega, by omega⟩, mem_at (m11.kp0 kd2) hlt2 fun y _ my => ⟨_, _, _, _, _, _, _, ⟨my.c0, my.c1, my.c2, my.c3, my.c4, my.c5, my.c6, trivial⟩, ⟨by omega, by omega⟩, mem_at (q11.kp0 kd2) hjl fun z _ mz => ⟨_, _, _, _, _, _, _, ⟨mz.c0, mz.c1, mz.c2, mz.c3, mz.c4, mz.c5, mz.c6, trivial⟩, by first | rfl | trivial, ?_⟩⟩⟩)
              rw [hat]
              refine bif_not (fun h3 => by rw [mb_eq] at h3; simp at h3) (fun _ => wr64 (by omega) (wr64 (by omega) ⟨rfl, ⟨j + 1, by omega, by omega, ?_, kd2⟩, by first | omega | (dsimp only; omega)⟩))
              rw [hst]; simp
          · have ej : j = l.length := by omega
            subst ej
            rw [List.take_length]
            refine bif_eq (fun _ _ => live (K11.trans k14.wide) (l6 (by have := k14.size; omega))) (fun h => absurd rfl h)
end Go.Proofs.YtbpknjldphckgaaDoor
