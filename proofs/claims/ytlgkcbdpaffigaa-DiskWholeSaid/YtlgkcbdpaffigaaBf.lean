import Derived.Test.YtlgkcbdpaffigaaBe
namespace Go.Proofs.Ytlgkcbdpaffigaa
open Go Go.SX Go.Proofs
set_option maxRecDepth 100000
set_option linter.unusedVariables false
set_option linter.unusedSimpArgs false
theorem ok5 (x : Int) : Value.oneCell' (.int .u8 x) = true := by simp [Value.oneCell']
theorem byF_one (f : Int → Int) (n : Nat) : ∀ u ∈ byF f n, u.oneCell' = true := fun u hu => by
  obtain ⟨i, _, rfl⟩ := List.mem_map.1 hu
  exact ok5 _
theorem cut0 (g c : Nat) : cutA (some ⟨g, 0, none⟩) c 0 1 = some ⟨g, 0, none⟩ := by
  unfold cutA
  split
  · rfl
  · simp [ad_add]
theorem cutn {g c o : Nat} (h : o ≠ c) : cutA (some ⟨g, 0, none⟩) c o 1 = some ⟨g, o, none⟩ := by
  unfold cutA
  rw [if_neg (by omega)]
  simp [ad_add]
/-- Bytes laid over others, in a row. -/
theorem byF_over (f g : Int → Int) (n o m : Nat) (h : o + m ≤ n) : (byF f n).take o ++ byF g m ++ (byF f n).drop (o + m) = byF (fun p => if (o : Int) ≤ p ∧ p < o + m then g (p - o) else f p) n := by
  apply List.ext_getElem
  · simp only [List.length_append, List.length_take, List.length_drop, byF_len]; omega
  · intro i h1 h2
    rw [byF_len] at h2
    simp only [byF, List.getElem_map, List.getElem_range]
    by_cases c1 : i < o
    · rw [List.getElem_append_left (by simp; omega), List.getElem_append_left (by simp; omega), List.getElem_take]
      simp only [List.getElem_map, List.getElem_range]
      rw [if_neg (by omega)]
    · by_cases c2 : i < o + m
      · rw [List.getElem_append_left (by simp; omega), List.getElem_append_right (by simp; omega)]
        simp only [List.getElem_map, List.getElem_range, List.length_take, List.length_map, List.length_range]
        rw [if_pos (by omega)]
        congr 2
        omega
      · rw [List.getElem_append_right (by simp; omega), List.getElem_drop]
        simp only [List.getElem_map, List.getElem_range, List.length_append, List.length_take, List.length_map, List.length_range]
        rw [if_neg (by omega)]
        congr 2
        omega
section
variable {w w' : World} {col col' : Col} {D : Nat} {s : St} {S : Nat → Prop}
/-- The bytes from a place on. -/
def readF (s : St) (at_ : Int) : Int → Int := fun p => if at_ + p < 512 * s.size then s.now (at_ + p) else 0
theorem c17 (h : Dsk w col D s) (at_ : Int) (n : Nat) (hr : rightF at_ n = true) (hn : n = 0 → s.size = 0) : Rets Try.prog 17 #[.pointer (some ⟨D, 0, none⟩), .int .i64 at_, .int .i64 n] w fun v w' =>
    ∃ q c, v = .tuple #[.slice q n c, .int .i64 0] ∧ Kp none_ w w' ∧ OwnRow w' (fresh w) 5 1 (.slice q n c) n (byF (readF s at_) n) := by
  refine ent [_, _, _] Try.func17 ((vcTry17 _ _ _ w _).mpr ?_)
  unfold VCTry17
  have hs := h.ok.size
  have hr' := hr
  unfold rightF at hr'
  have hr' := of_decide_eq_true hr'
  show cond false _ _
  simp only [cond_false]
  refine (c63 w at_ n).mono ?_
  rintro v wx ⟨rfl, e⟩
  obtain rfl := e.symm
  rw [hr]
  refine ⟨_, rfl, (Kp.refl none_ _).keeps0, bif_b (fun h => by cases h) (fun _ => ?_)⟩
  obtain ⟨i5, i51, i52, i53, i54⟩ := info5
  refine make_own Try.underlying25 ⟨i5, .int .u8 0, i51, i52, i53, rfl, by omega, fun w2 r2 k2 => ?_⟩ (by omega)
  obtain ⟨q1, c1, n1, n2⟩ := h.now
  have zrow : List.replicate n (Value.int .u8 0) = byF (fun _ => 0) n := by
    apply List.ext_getElem
    · simp [byF]
    · intro i h1 h2; simp [byF]
  rw [zrow] at r2
  simp only [ptr_some, ad_add, Nat.zero_add]
  refine ⟨_, _, _, rfl, k2.keeps0, _, _, _, k2.cell0 n1, bif_dec (fun hlt => ?_) (fun hge => ⟨_, rfl, _, _, rfl, k2, ?_⟩)⟩
  rotate_left
  · rw [byF_congr (g := fun _ => 0)]
    · exact r2
    · intro i hi
      exact if_neg (by omega)
  obtain ⟨g, cur, rfl, _, hgc, _, hcn, _⟩ := n2.parts (by omega)
  have e1 : cutA (some ⟨g, 0, none⟩) c1 at_.toNat 1 = some ⟨g, at_.toNat, none⟩ := cutn (by omega)
  refine ⟨_, _, _, k2.cell0 n1, by omega, ?_⟩
  rw [e1, ← cut0 w.heap.size n]
  have h2 := h.kp0 k2
  have hm : (byF (fun p => s.now (at_ + p)) (min (512 * s.size - at_.toNat) n)).length = Nat.min (512 * s.size - at_.toNat) n := byF_len _ _
  refine copy_own (own := fresh w) (n := n) (xs := byF (fun _ => 0) n) (cs := byF (fun p => s.now (at_ + p)) (min (512 * s.size - at_.toNat) n)) Try.underlying25 (by kernel_rfl) r2 hm (by rw [byF_len]; omega) (by omega) (fun j v hj => ?_) (byF_one _ _) (fun w3 r3 k3 => ?_)
  · have hj' : j < min (512 * s.size - at_.toNat) n := by have := (List.getElem?_eq_some_iff.1 hj).1; rwa [byF_len] at this
    rw [byF_get _ hj'] at hj
    cases hj
    have n1' := k2.cell0 n1
    obtain ⟨a, ea, ha⟩ := (h2.nowRow n1').at (j := at_.toNat + j) (u := .int .u8 (s.now ((at_.toNat + j : Nat) : Int))) (byF_get _ (by omega))
    cases ea
    rw [ad_add, Nat.zero_add] at ha
    rw [ad_add, ha]
    congr 3
    omega
  · rw [cut0]
    refine ⟨_, rfl, k3.keeps0, _, rfl, _, _, rfl, k2.then k3 (fun i hi hf => by unfold fresh at hf; omega), ?_⟩
    have := byF_over (fun _ => 0) (fun p => s.now (at_ + p)) n 0 (min (512 * s.size - at_.toNat) n) (by omega)
    rw [byF_len] at r3
    rw [this] at r3
    rw [byF_congr (g := fun p => if ((0 : Nat) : Int) ≤ p ∧ p < ((0 : Nat) : Int) + ((min (512 * s.size - at_.toNat) n : Nat) : Int) then s.now (at_ + (p - ((0 : Nat) : Int))) else 0)]
    · exact r3
    · intro i hi
      unfold readF
      by_cases c1 : at_ + (i : Int) < 512 * s.size
      · rw [if_pos c1, if_pos (by omega)]
        congr 1
      · rw [if_neg c1, if_neg (by omega)]
/-- One more sector waits. -/
def pushSt (s : St) (k : Nat) (f : Int → Int) : St := { s with wait := s.wait ++ [(k, f)] }
theorem pushWaitK (h : Dsk w col D s) {k : Nat} (hk : k < s.size) {f : Int → Int} (hf : ∀ p, isByte (f p)) (hl : s.wait.length ≤ 100000) {w2 : World} (k2 : Kp none_ w w2) {g2 c2 : Nat} (hrow : OwnRow w2 (fresh w) 5 1 (.slice (some ⟨g2, 0, none⟩) 512 c2) 512 (byF (secAt f k) 512)) :
    ∃ q c, w2.cell? ⟨D, 2, none⟩ = some (.slice q s.wait.length c) ∧ (w2.alloc (.cells #[.int .i64 k, .slice (some ⟨g2, 0, none⟩) 512 c2] 118)).cell? ⟨D, 2, none⟩ = some (.slice q s.wait.length c) ∧
      Runs Try.prog (Builtin.append_ #[27, 27] 27 #[.slice q s.wait.length c, .slice (some ⟨w2.heap.size, 0, none⟩) 1 1]) (w2.alloc (.cells #[.int .i64 k, .slice (some ⟨g2, 0, none⟩) 512 c2] 118)) fun v w3 =>
        ∃ q' c', v = .slice q' (s.wait.length + 1) c' ∧ Keeps (w2.alloc (.cells #[.int .i64 k, .slice (some ⟨g2, 0, none⟩) 512 c2] 118)) w3 [] ∧ (∃ u, w3.cell? ⟨D, 2, none⟩ = some u) ∧ w3.frozen? ⟨D, 2, none⟩ = false ∧
          Kp (ownC col) w (w3.setCell ⟨D, 2, none⟩ (.slice q' (s.wait.length + 1) c')) ∧ ∃ col', Grow col col' w (w3.setCell ⟨D, 2, none⟩ (.slice q' (s.wait.length + 1) c')) ∧ Dsk (w3.setCell ⟨D, 2, none⟩ (.slice q' (s.wait.length + 1) c')) col' D (pushSt s k f) := by
  obtain ⟨q, c, ys, t1, t2, t3⟩ := h.wait
  have hD := h.dlt
  have z2 := k2.size
  have hfr : fresh w g2 ∧ g2 < w2.heap.size ∧ 512 ≤ c2 := by
    obtain ⟨g', cur, e, _, ho, hh, hc', _⟩ := hrow.parts (by omega)
    cases e
    exact ⟨ho, (Array.getElem?_eq_some_iff.1 hh).1, hc'⟩
  have hf2 : w.heap.size ≤ g2 := hfr.1
  refine ⟨q, c, k2.cell0 t1, cell_alloc _ (k2.cell0 t1), ?_⟩
  refine append_new (own := cl col 4) (xs := ys) #[.int .i64 k, .slice (some ⟨g2, 0, none⟩) 512 c2] Try.underlying27 elem118 (by omega) (t2.kp k2 fun _ _ _ _ _ => id) rfl (by simp [Value.oneCell']) (by omega) ?_
  intro q3 c3 w3 r3 k3 k3a
  have z3 := k3.size
  have z3a := k3a.size
  have sA : (w2.alloc (.cells #[Value.int .i64 k, .slice (some ⟨g2, 0, none⟩) 512 c2] 118)).heap.size = w2.heap.size + 1 := alloc_size _ _
  have hD4 : ¬ cl col 4 D := fun hh => by have := h.colD; unfold cl at hh; omega
  have cD2 : w3.cell? ⟨D, 2, none⟩ = some (.slice q s.wait.length c) := k3.cell (k2.cell0 t1) hD4
  refine ⟨q3, c3, rfl, k3a.keeps0, ⟨_, cD2⟩, (k3.frz ⟨D, 2, none⟩ (show D < w2.heap.size by omega)).trans ((k2.frz ⟨D, 2, none⟩ hD).trans (h.frz 2)), ?_⟩
  have k13 : Kp (cl col 4) w w3 := (k2.mono fun _ _ h => h.elim).trans k3
  obtain ⟨col1, g1, g1', r4⟩ := recolor (w := w) (k := 4) h.lt (Nat.le_trans z2 z3) (r3.mono fun i hi _ => hi.imp id fun hh => Nat.le_trans z2 hh)
  -- the copy's own block
  have hg2ne : col1 g2 ≠ 4 ∨ True := .inr trivial
  have kD : Kp (one_ D) w3 (w3.setCell ⟨D, 2, none⟩ (.slice q3 (s.wait.length + 1) c3)) := Kp.setCell (S := one_ D) (x := ⟨D, 2, none⟩) (Kp.refl (one_ D) w3) _ (.inl rfl)
  have k14 : Kp (fun i => col i = 4 ∨ i = D) w (w3.setCell ⟨D, 2, none⟩ (.slice q3 (s.wait.length + 1) c3)) := (k13.mono fun _ _ h => .inl h).trans (kD.mono fun _ _ h => .inr h)
  have sS : (w3.setCell ⟨D, 2, none⟩ (.slice q3 (s.wait.length + 1) c3)).heap.size = w3.heap.size := by simp [World.setCell]
  have ne : ∀ i c, (col i = 4 ∨ i = D) → c ≠ 1 → c ≠ 4 → col i ≠ c := fun i c hi h1 h2 => by
    rcases hi with hi | hi
    · omega
    · rw [hi, h.colD]; omega
  have kAll : Kp (ownC col) w (w3.setCell ⟨D, 2, none⟩ (.slice q3 (s.wait.length + 1) c3)) := k14.mono fun i _ hi => by
    show col i ≠ 0
    rcases hi with hi | hi
    · omega
    · rw [hi, h.colD]; omega
  -- the row's block and the copy's are two
  have two : ∀ g, q3 = some ⟨g, 0, none⟩ → g ≠ g2 := by
    intro g e e2
    subst e2
    obtain ⟨g', cur, e', _, ho, hh, _⟩ := r3.parts (by omega)
    rw [e] at e'
    cases e'
    rcases ho with ho | ho
    · have := h.lt g (by have : col g = 4 := ho; omega)
      omega
    · unfold fresh at ho; omega
  let col2 : Col := fun j => if j = g2 then 5 else col1 j
  have hc2 : ∀ j, j < w.heap.size → col2 j = col j := fun j hj => (if_neg (by omega)).trans (g1 j hj)
  refine ⟨kAll, col2, ⟨hc2, fun j hj => ?_⟩, ?_⟩
  · by_cases e : j = g2
    · rw [sS, e]; omega
    · have : col1 j ≠ 0 := by simpa [col2, e] using hj
      rcases g1' j this with h | h <;> omega
  have hd : ∀ o v, o ≠ 2 → w.cell? ⟨D, o, none⟩ = some v → (w3.setCell ⟨D, 2, none⟩ (.slice q3 (s.wait.length + 1) c3)).cell? ⟨D, o, none⟩ = some v := fun o v ho hv => by rw [cell_set_off _ (Ne.symm ho)]; exact k13.cell hv hD4
  have r5 := r4.kp kD fun g _ _ _ hg hh => by
    have e : g = D := hh
    have hg : col1 g = 4 := hg
    rw [e, g1 D hD, h.colD] at hg
    omega
  refine ⟨(hc2 D hD).trans h.colD, fun j hj => ?_, fun o => ?_, h.nowK k14 (fun i _ hi => ne i 2 hi (by omega) (by omega)) hc2 (hd 0 · (by omega)), h.safeK k14 (fun i _ hi => ⟨ne i 3 hi (by omega) (by omega), ne i 5 hi (by omega) (by omega)⟩) hc2 (hd 1 · (by omega)),
    ⟨q3, c3, ys ++ [.int .i64 k, .slice (some ⟨g2, 0, none⟩) 512 c2], ?_, ?_, fun j e he => ?_⟩, ⟨h.ok.size, h.ok.now, h.ok.safe, fun e he => ?_⟩⟩
  · by_cases e : j = g2
    · rw [sS, e]; omega
    · have : col1 j ≠ 0 := by simpa [col2, e] using hj
      rcases g1' j this with h | h <;> omega
  · rw [frozen_set, k13.frz ⟨D, o, none⟩ hD]; exact h.frz o
  · have : (pushSt s k f).wait.length = s.wait.length + 1 := by simp [pushSt]
    rw [this]
    exact cell_set_same _ cD2
  · have : (pushSt s k f).wait.length = s.wait.length + 1 := by simp [pushSt]
    rw [this]
    rcases r5.2 with ⟨e1, e2⟩ | ⟨g, cap, cur, e1, e2, e3, e4⟩
    · exact ⟨r5.1, .inl ⟨e1, e2⟩⟩
    · refine ⟨r5.1, .inr ⟨g, cap, cur, e1, ?_, e3, e4⟩⟩
      cases e1
      show (if g = g2 then 5 else col1 g) = 4
      rw [if_neg (two g rfl)]
      exact e2
  · have hyl : ys.length = s.wait.length * 2 := t2.1
    by_cases hj : j < s.wait.length
    · have he' : s.wait[j]? = some e := by
        have : (s.wait ++ [(k, f)])[j]? = some e := he
        rwa [List.getElem?_append_left hj] at this
      obtain ⟨a, c', x0, x1, x2, x3⟩ := t3 j e he'
      refine ⟨a, c', ?_, ?_, x2, Sec.kpc x3 k14 (fun i _ hi => ne i 5 hi (by omega) (by omega)) hc2⟩
      · rw [List.getElem?_append_left (by omega)]; exact x0
      · rw [List.getElem?_append_left (by omega)]; exact x1
    · have hjl : j = s.wait.length := by
        have : j < (s.wait ++ [(k, f)]).length := (List.getElem?_eq_some_iff.1 he).1
        rw [List.length_append] at this
        simp at this
        omega
      subst hjl
      have he' : e = (k, f) := by
        have : (s.wait ++ [(k, f)])[s.wait.length]? = some e := he
        simp at this
        exact this.symm
      subst he'
      refine ⟨⟨g2, 0, none⟩, c2, ?_, ?_, hfr.2.2, if_pos rfl, fun i hi => ?_⟩
      · rw [List.getElem?_append_right (by omega), hyl, Nat.sub_self]; rfl
      · rw [List.getElem?_append_right (by omega), hyl, show s.wait.length * 2 + 1 - s.wait.length * 2 = 1 by omega]; rfl
      · obtain ⟨a, ea, ha⟩ := hrow.at (j := i) (u := .int .u8 (secAt f k i)) (byF_get _ hi)
        cases ea
        have hgD : g2 ≠ D := by omega
        refine kD.cell (k3.cell ha ?_) ?_
        · rw [add_block]
          intro hh
          have hh : col g2 = 4 := hh
          have := h.lt g2 (by omega)
          omega
        · rw [add_block]; exact fun e => hgD e
  · have he : e ∈ s.wait ++ [(k, f)] := he
    simp only [List.mem_append, List.mem_singleton] at he
    rcases he with he | rfl
    · exact h.ok.wait e he
    · exact ⟨hk, hf⟩
end
end Go.Proofs.Ytlgkcbdpaffigaa
