import Derived.Test.YtodgnegbaigdbaaGe
namespace Go.Proofs.Ytodgnegbaigdbaa
open Go Go.SX Go.Proofs
set_option maxRecDepth 100000
set_option linter.unusedVariables false
set_option linter.unusedSimpArgs false
section
variable {w w' : World} {own : Nat → Prop} {B : Nat} {q : Option Addr} {n : Nat} {b : Int → Int} {m : Nat}
theorem c57 (hc0 : Chn w own B q n b m) (at_ level : Int) (hat : 0 ≤ at_ ∧ at_ < n) :
    Rets Try.prog 57 #[.pointer (some ⟨B, 0, none⟩), .int .i64 at_, .int .i64 level] w fun v w' => v = tokV (tokAt b n (depthF level) (decide (level ≥ 2)) at_) ∧ Kp own w w' ∧ ∃ m', Chn w' (fun i => own i ∨ fresh w i) B q n b m' := by
  refine ent [_, _, _] Try.func57 ((vcTry57 _ _ _ w _).mpr ?_)
  unfold VCTry57
  have hn := hc0.nb
  have hqf := hc0.qfresh
  have hc : Chn w (fun i => own i ∧ i < w.heap.size) B q n b m := hc0.mono (fun i hi h => ⟨h, hi⟩) (fun h0 a ha h => hc0.qown h0 a ha h.1)
  have kA : Kp none_ w (w.alloc (.cells #[Value.int .u8 0, .int .i64 0, .int .i64 0] 49)) := (Kp.refl none_ w).alloc1 _
  have sA : (w.alloc (.cells #[Value.int .u8 0, .int .i64 0, .int .i64 0] 49)).heap.size = w.heap.size + 1 := alloc_size _ _
  generalize w.alloc (.cells #[Value.int .u8 0, .int .i64 0, .int .i64 0] 49) = WA at *
  generalize hN : w.heap.size = N at *
  have hcA := hc.kp kA (fun _ _ _ => id) (fun _ _ _ => id)
  have hdr := depthF_range level
  generalize hdp : depthF level = depth at *
  simp only [ptr_some, ad_add, Nat.zero_add, Nat.add_zero, Nat.mul_one]
  -- the token is laid, and returned
  have fin : ∀ (w5 : World) (own5 : Nat → Prop) (m5 : Nat) (v0 v1 v2 : Value), Kp (fun i => own i ∧ i < N) WA w5 → Chn w5 own5 B q n b m5 → (∀ i, own5 i → (own i ∧ i < N) ∨ N < i) → .agg #[v0, v1, v2] = tokV (tokAt b n depth (decide (level ≥ 2)) at_) →
      ∃ v, Ending.returned (.agg #[v0, v1, v2]) = .returned v ∧ v = tokV (tokAt b n depth (decide (level ≥ 2)) at_) ∧ Kp own w (((w5.setCell ⟨N, 0, none⟩ v0).setCell ⟨N, 1, none⟩ v1).setCell ⟨N, 2, none⟩ v2) ∧
        ∃ m', Chn (((w5.setCell ⟨N, 0, none⟩ v0).setCell ⟨N, 1, none⟩ v1).setCell ⟨N, 2, none⟩ v2) (fun i => own i ∨ fresh w i) B q n b m' := by
    intro w5 own5 m5 v0 v1 v2 k5 h5 ho hv
    refine ⟨_, rfl, hv, ?_, m5, ?_⟩
    · refine Kp.setCell (Kp.setCell (Kp.setCell ?_ _ (.inr (by dsimp only; omega))) _ (.inr (by dsimp only; omega))) _ (.inr (by dsimp only; omega))
      exact (kA.mono fun _ _ h => h.elim).trans (k5.mono fun i _ h => h.1)
    · have kT : Kp (one_ N) w5 (((w5.setCell ⟨N, 0, none⟩ v0).setCell ⟨N, 1, none⟩ v1).setCell ⟨N, 2, none⟩ v2) :=
        Kp.setCell (S := one_ N) (x := ⟨N, 2, none⟩) (Kp.setCell (S := one_ N) (x := ⟨N, 1, none⟩) (Kp.setCell (S := one_ N) (x := ⟨N, 0, none⟩) (Kp.refl (one_ N) w5) _ (.inl rfl)) _ (.inl rfl)) _ (.inl rfl)
      refine (h5.kp kT (fun i _ hi hs => ?_) (fun h0 a ha hs => ?_)).mono (fun i _ hi => ?_) hqf
      · have e : i = N := hs
        have := ho i hi
        omega
      · have e : a.block = N := hs
        have := hqf h0 a ha
        exact this (.inr (by unfold fresh; omega))
      · rcases ho i hi with h | h
        · exact .inl h.1
        · exact .inr (by unfold fresh; omega)
  have rd : ∀ (w5 : World) (own5 : Nat → Prop) (m5 : Nat), Chn w5 own5 B q n b m5 → (∃ cp, w5.cell? ⟨B, 0, none⟩ = some (.slice q n cp)) ∧ (∃ a, q = some a ∧ w5.cell? (a.add at_.toNat) = some (.int .u8 (b at_))) := by
    intro w5 own5 m5 h5
    obtain ⟨cp, _, h⟩ := h5.c0
    exact ⟨⟨cp, h⟩, h5.bytes at_ hat.1 hat.2⟩
  intro _
  refine (c33 WA level).mono ?_
  rintro v wx ⟨rfl, e⟩
  obtain rfl := e.symm
  rw [hdp]
  refine ⟨_, rfl, (Kp.refl none_ _).keeps (fun i hi => ⟨by simp at hi; omega, id⟩), fun _ => (c20 hcA at_ depth (by omega)).mono ?_⟩
  rintro v w5 ⟨rfl, k5, m5, h5⟩
  have z5 := k5.size
  have o5 : ∀ i, ((own i ∧ i < N) ∨ fresh WA i) → (own i ∧ i < N) ∨ N < i := fun i h => h.imp id fun h => by unfold fresh at h; omega
  have hr1 := findF_range b n at_ depth
  -- a byte, and a match, at a world
  have litW : ∀ (w5 : World) (own5 : Nat → Prop) (m5 : Nat), Kp (fun i => own i ∧ i < N) WA w5 → Chn w5 own5 B q n b m5 → (∀ i, own5 i → (own i ∧ i < N) ∨ N < i) →
      ((findF b n at_ depth).1 = 0 ∨ (decide (level ≥ 2) = true ∧ (findF b n at_ depth).1 < 258 ∧ (findF b n at_ depth).1 < (findF b n (at_ + 1) depth).1)) →
      ∃ q9 n10 n11, w5.cell? ⟨B, 0, none⟩ = some (.slice q9 n10 n11) ∧ (0 ≤ at_ ∧ at_ < (n10 : Int)) ∧ Ptr q9 fun a12 => ∃ i13, w5.cell? (a12.add at_.toNat) = some (.int .u8 i13) ∧
        (Known (((w5.setCell ⟨N, 0, none⟩ (.int .u8 i13)).setCell ⟨N, 1, none⟩ (.int .i64 0)).setCell ⟨N, 2, none⟩ (.int .i64 0)) [(N, [(0, .int .u8 i13), (1, .int .i64 0), (2, .int .i64 0)])] →
          ∃ v, Ending.returned (.agg #[.int .u8 i13, .int .i64 0, .int .i64 0]) = .returned v ∧ v = tokV (tokAt b n depth (decide (level ≥ 2)) at_) ∧ Kp own w (((w5.setCell ⟨N, 0, none⟩ (.int .u8 i13)).setCell ⟨N, 1, none⟩ (.int .i64 0)).setCell ⟨N, 2, none⟩ (.int .i64 0)) ∧
            ∃ m', Chn (((w5.setCell ⟨N, 0, none⟩ (.int .u8 i13)).setCell ⟨N, 1, none⟩ (.int .i64 0)).setCell ⟨N, 2, none⟩ (.int .i64 0)) (fun i => own i ∨ fresh w i) B q n b m') := by
    intro w5 own5 m5 k5 h5 ho hh
    obtain ⟨⟨cp, c0⟩, a, rfl, ha⟩ := rd w5 own5 m5 h5
    exact ⟨_, _, _, c0, hat, _, ha, fun _ => fin _ _ _ _ _ _ k5 h5 ho (by unfold tokAt; rw [if_pos hh]; rfl)⟩
  have notlit : (findF b n at_ depth).1 ≠ 0 → (¬ (decide (level ≥ 2) = true ∧ (findF b n at_ depth).1 < 258 ∧ (findF b n at_ depth).1 < (findF b n (at_ + 1) depth).1)) → Value.agg #[.int .u8 0, .int .i64 (findF b n at_ depth).1, .int .i64 (findF b n at_ depth).2] = tokV (tokAt b n depth (decide (level ≥ 2)) at_) := by
    intro h hh
    unfold tokAt
    rw [if_neg (fun h' => h'.elim h hh)]
    rfl
  refine ⟨_, _, rfl, k5.keeps (fun i hi => by simp at hi; omega), bif_dec (fun h => bif_dec (fun h1 => bif_dec (fun h2 => ?_) (fun h2 => ?_)) (fun h1 => ?_)) (fun h => ?_)⟩
  · refine wr64 (by omega) fun _ => (c20 h5 (at_ + 1) depth (by omega)).mono ?_
    rintro v w6 ⟨rfl, k6, m6, h6⟩
    have k56 : Kp (fun i => own i ∧ i < N) WA w6 := k5.then k6 fun i hi h => by
      rcases h with h | h
      · exact h
      · unfold fresh at h; omega
    have o6 : ∀ i, (((own i ∧ i < N) ∨ fresh WA i) ∨ fresh w5 i) → (own i ∧ i < N) ∨ N < i := fun i h => by
      rcases h with h | h
      · exact o5 i h
      · unfold fresh at h; omega
    refine ⟨_, _, rfl, k6.keeps (fun i hi => ?_), bif_dec (fun h3 => ?_) (fun h3 => ?_)⟩
    · simp at hi
      refine ⟨by omega, fun h => ?_⟩
      rcases h with h | h
      · omega
      · unfold fresh at h; omega
    · exact litW _ _ _ k56 h6 o6 (.inr ⟨decide_eq_true h1, h2, h3⟩)
    · exact bif_eq (fun h4 => by omega) (fun h4 _ => fin _ _ _ _ _ _ k56 h6 o6 (notlit h4 (fun h => h3 h.2.2)))
  · exact bif_eq (fun h4 => by omega) (fun h4 _ => fin _ _ _ _ _ _ k5 h5 o5 (notlit h4 (fun h => h2 h.2.1)))
  · exact bif_eq (fun h4 => by omega) (fun h4 _ => fin _ _ _ _ _ _ k5 h5 o5 (notlit h4 (fun h => h1 (of_decide_eq_true h.1))))
  · exact bif_eq (fun h4 => litW _ _ _ k5 h5 o5 (.inl h4)) (fun h4 => by omega)
theorem isGo56 : isGo Try.prog 56 = true := by kernel_rfl
theorem iter56 (hc : Chn w own B q n b m) {a1 a2 : Addr} {level : Int} (h1 : w.cell? a1 = some (.pointer (some ⟨B, 0, none⟩))) (h2 : w.cell? a2 = some (.int .i64 level)) (ho1 : ¬ own a1.block) (ho2 : ¬ own a2.block) :
    IterSpec Try.prog (.func (.func 56) #[] #[.pointer (some a1), .pointer (some a2)]) ((toksF b n level).map tokV) (fun i => i = a1.block ∨ i = a2.block ∨ (0 < n ∧ ∃ a, q = some a ∧ i = a.block)) own (fun Pv w' => ∃ m', Chn w' Pv B q n b m') w := by
  refine ⟨⟨_, _, _, rfl⟩, fun w0 hk y J E init stab step => ⟨isGo56, ?_⟩⟩
  refine ent [_, _, _] Try.func56 ((vcTry56 _ _ _ w0 _).mpr ?_)
  unfold VCTry56
  have x1 : w0.cell? a1 = some (.pointer (some ⟨B, 0, none⟩)) := hk.cell h1 (fun h => h.1 (.inl rfl))
  have x2 : w0.cell? a2 = some (.int .i64 level) := hk.cell h2 (fun h => h.1 (.inr (.inl rfl)))
  have hc0 : Chn w0 own B q n b m := hc.kp hk (fun i _ ho h => h.2 ho) (fun h0 a ha h => h.1 (.inr (.inr ⟨h0, a, ha, rfl⟩)))
  have l1 := cell_lt x1
  have l2 := cell_lt x2
  have hqf := hc0.qfresh
  have hn := hc0.nb
  have lq : 0 < n → ∀ a, q = some a → a.block < w0.heap.size := fun h0 a ha => by
    have := hqf h0 a ha
    unfold fresh at this
    omega
  refine ⟨_, x1, ?_⟩
  show cond false _ _
  simp only [cond_false]
  let T := tokAt b n (depthF level) (decide (level ≥ 2))
  refine ⟨fun at_ w1 => 0 ≤ at_ ∧ ∃ (l : List Value) (Pv : Nat → Prop) (m1 : Nat), (toksF b n level).map tokV = l ++ (toks T n at_).map tokV ∧ J l Pv w1 ∧ Chn w1 Pv B q n b m1 ∧
      w1.cell? a1 = some (.pointer (some ⟨B, 0, none⟩)) ∧ w1.cell? a2 = some (.int .i64 level) ∧ (∀ i, Pv i → own i ∨ w0.heap.size ≤ i) ∧ w0.heap.size ≤ w1.heap.size, fun at_ _ => (n - at_).toNat, ⟨by omega, [], own, m, rfl, init, hc0, x1, x2, fun i hi => .inl hi, Nat.le_refl _⟩, ?_⟩
  rintro at_ w1 ⟨hat, l, Pv, m1, hall, hJ, f1, y1, y2, hP, hsz⟩
  have nP1 : ¬ Pv a1.block := fun h => by rcases hP _ h with h | h; exact ho1 h; omega
  have nP2 : ¬ Pv a2.block := fun h => by rcases hP _ h with h | h; exact ho2 h; omega
  obtain ⟨cp, hcp, c0⟩ := f1.c0
  simp only [ptr_some, ad_add, Nat.zero_add, Nat.add_zero]
  refine ⟨_, y1, _, _, _, c0, bif_dec (fun hlt => ?_) (fun hge => ?_)⟩
  rotate_left
  · refine ⟨_, rfl, rfl, Pv, ⟨m1, f1⟩, .inl ?_⟩
    rw [toks_end (by omega)] at hall
    rw [hall]
    simpa using hJ
  refine ⟨_, y1, _, y2, (c57 f1 at_ level ⟨hat, by omega⟩).mono ?_⟩
  rintro v w2 ⟨rfl, k2, m2, f2⟩
  refine ⟨_, _, _, rfl, k2.keeps0, fun _ => ?_⟩
  have z2 := k2.size
  generalize eB : ((((w2.alloc (.cells #[Value.int .u8 0, .int .i64 0, .int .i64 0] 49)).setCell ⟨w2.heap.size, 0, none⟩ (.int .u8 (tokAt b n (depthF level) (decide (level ≥ 2)) at_).1)).setCell ⟨w2.heap.size, 1, none⟩ (.int .i64 (tokAt b n (depthF level) (decide (level ≥ 2)) at_).2.1)).setCell ⟨w2.heap.size, 2, none⟩ (.int .i64 (tokAt b n (depthF level) (decide (level ≥ 2)) at_).2.2)) = WB
  have kB : Kp none_ w2 WB := by
    rw [← eB]
    exact Kp.setCell (Kp.setCell (Kp.setCell ((Kp.refl none_ w2).alloc1 _) _ (.inr (Nat.le_refl _))) _ (.inr (Nat.le_refl _))) _ (.inr (Nat.le_refl _))
  have zB : WB.heap.size = w2.heap.size + 1 := by rw [← eB]; simp only [World.setCell, Array.size_modify, alloc_size]
  have k1B : Kp Pv w1 WB := k2.trans (kB.mono fun _ _ h => h.elim)
  have hJ2 := stab _ _ _ _ hJ k1B
  rw [toks_step (by omega), List.map_cons] at hall
  refine CallsVal.mono (step l (tokV (T at_)) _ _ _ hall hJ2) ?_
  rintro v w3 ⟨k3, t, rfl, ht⟩
  have z3 := k3.size
  have f3 : Chn w3 (fun i => Pv i ∨ (w1.heap.size ≤ i ∧ i < WB.heap.size)) B q n b m2 := by
    refine ((f2.mono (own' := fun i => Pv i ∨ (w1.heap.size ≤ i ∧ i < WB.heap.size)) (fun i hi hf => ?_) (fun h0 a ha h => ?_)).kp kB (fun _ _ _ => id) (fun _ _ _ => id)).kp k3 (fun i _ ho hs => hs.1 ho) (fun h0 a ha hs => hs.2 (.inr (.inr ⟨h0, a, ha, rfl⟩)))
    · rcases hf with hf | hf
      · exact .inl hf
      · have hf : w1.heap.size ≤ i := hf
        exact .inr (by omega)
    · have := lq h0 a ha
      rcases h with h | h
      · exact f1.qown h0 a ha h
      · omega
  refine ⟨_, rfl, k3.keeps (fun i hi => ?_), ?_⟩
  · simp only [List.mem_cons, List.not_mem_nil, or_false] at hi
    subst hi
    exact ⟨by omega, fun h => h.1 (.inr (by omega))⟩
  cases t with
  | false => exact fun _ => ⟨_, rfl, rfl, _, ⟨m2, f3⟩, .inr ht⟩
  | true =>
    simp only [cond_true] at ht
    have htl := tokAt_len b n (depthF level) (decide (level ≥ 2)) at_
    have hmx := maxI_max 1 (tokAt b n (depthF level) (decide (level ≥ 2)) at_).2.1
    simp only [Bool.not_true, cond_false]
    rw [hmx]
    refine wr64 (by omega) ⟨⟨by omega, _, _, m2, by rw [hall, List.append_assoc]; rfl, ht, f3, ?_, ?_, ?_, by omega⟩, by first | omega | (dsimp only; omega)⟩
    · exact k3.cell (k1B.cell y1 nP1) (fun hs => hs.2 (.inl rfl))
    · exact k3.cell (k1B.cell y2 nP2) (fun hs => hs.2 (.inr (.inl rfl)))
    · rintro i (hi | hi)
      · exact hP i hi
      · exact .inr (by omega)
theorem c40 (hc : Chn w own B q n b m) (level : Int) :
    Rets Try.prog 40 #[.pointer (some ⟨B, 0, none⟩), .int .i64 level] w fun v w' => ∃ Q, IterSpec Try.prog v ((toksF b n level).map tokV) Q (fun i => own i ∧ i < w.heap.size) (fun Pv w' => ∃ m', Chn w' Pv B q n b m') w' ∧ Kp none_ w w' ∧
      (∀ i, Q i → (w.heap.size ≤ i ∧ i < w'.heap.size) ∨ (0 < n ∧ ∃ a, q = some a ∧ i = a.block)) ∧ (0 < n → ∀ a, q = some a → Q a.block) := by
  refine ent [_, _] Try.func40 ((vcTry40 _ _ w _).mpr ?_)
  unfold VCTry40
  intro _
  have k1 := (Kp.refl none_ w).alloc #[Value.pointer (some ⟨B, 0, none⟩)] 27
  have k2 := k1.alloc #[Value.int .i64 level] 3
  have hz : (w.alloc (.cells #[Value.pointer (some ⟨B, 0, none⟩)] 27)).heap.size = w.heap.size + 1 := alloc_size _ _
  have hz2 : ((w.alloc (.cells #[Value.pointer (some ⟨B, 0, none⟩)] 27)).alloc (.cells #[Value.int .i64 level] 3)).heap.size = w.heap.size + 1 + 1 := by rw [alloc_size, hz]
  have hc' : Chn w (fun i => own i ∧ i < w.heap.size) B q n b m := hc.mono (fun i hi h => ⟨h, hi⟩) (fun h0 a ha h => hc.qown h0 a ha h.1)
  refine ⟨_, rfl, _, iter56 (hc'.kp k2 (fun _ _ _ => id) (fun _ _ _ => id)) (cell_alloc _ (cell_alloc_new rfl)) (cell_alloc_new rfl) (fun h => by have := h.2; dsimp only at this; omega) (fun h => by have := h.2; dsimp only at this; omega), k2, ?_, fun h0 a ha => .inr (.inr ⟨h0, a, ha, rfl⟩)⟩
  rintro i (h | h | h)
  · exact .inl (by dsimp only at h; omega)
  · exact .inl (by dsimp only at h; omega)
  · exact .inr h
theorem iter56n {a1 a2 : Addr} (h1 : w.cell? a1 = some (.pointer none)) : IterSpec Try.prog (.func (.func 56) #[] #[.pointer (some a1), .pointer (some a2)]) (([] : List Tok).map tokV) (fun i => i = a1.block) (fun _ => False) (fun _ _ => True) w := by
  refine ⟨⟨_, _, _, rfl⟩, fun w0 hk y J E init stab step => ⟨isGo56, ?_⟩⟩
  refine ent [_, _, _] Try.func56 ((vcTry56 _ _ _ w0 _).mpr ?_)
  unfold VCTry56
  exact ⟨_, hk.cell h1 (fun h => h.1 rfl), _, rfl, rfl, _, trivial, .inl init⟩
theorem c40n (w : World) (level : Int) :
    Rets Try.prog 40 #[.pointer none, .int .i64 level] w fun v w' => ∃ Q, IterSpec Try.prog v (([] : List Tok).map tokV) Q (fun _ => False) (fun _ _ => True) w' ∧ Kp none_ w w' ∧ ∀ i, Q i → w.heap.size ≤ i ∧ i < w'.heap.size := by
  refine ent [_, _] Try.func40 ((vcTry40 _ _ w _).mpr ?_)
  unfold VCTry40
  intro _
  have k1 := (Kp.refl none_ w).alloc #[Value.pointer none] 27
  have k2 := k1.alloc #[Value.int .i64 level] 3
  have hz : (w.alloc (.cells #[Value.pointer none] 27)).heap.size = w.heap.size + 1 := alloc_size _ _
  have hz2 : ((w.alloc (.cells #[Value.pointer none] 27)).alloc (.cells #[Value.int .i64 level] 3)).heap.size = w.heap.size + 1 + 1 := by rw [alloc_size, hz]
  refine ⟨_, rfl, _, iter56n (cell_alloc _ (cell_alloc_new rfl)), k2, ?_⟩
  rintro i h
  dsimp only at h
  omega
theorem c39 (hc0 : Chn w own B q n b m) (level : Int) :
    Rets Try.prog 39 #[.pointer (some ⟨B, 0, none⟩), .int .i64 level] w fun v w' => ∃ q' c, v = .slice q' (toksF b n level).length c ∧ Kp own w w' ∧ OwnRow w' (fresh w) 49 3 v (toksF b n level).length (tokR (toksF b n level)) := by
  refine ent [_, _] Try.func39 ((vcTry39 _ _ w _).mpr ?_)
  unfold VCTry39
  intro _
  have hqf := hc0.qfresh
  have hn := hc0.nb
  have hc : Chn w (fun i => own i ∧ i < w.heap.size) B q n b m := hc0.mono (fun i hi h => ⟨h, hi⟩) (fun h0 a ha h => hc0.qown h0 a ha h.1)
  have k1 : Kp none_ w (w.alloc (.cells #[Value.slice none 0 0] 42)) := (Kp.refl none_ w).alloc1 _
  have s1 : (w.alloc (.cells #[Value.slice none 0 0] 42)).heap.size = w.heap.size + 1 := alloc_size _ _
  have d0 := Cel.new w (.slice none 0 0) 42
  generalize w.alloc (.cells #[Value.slice none 0 0] 42) = W1 at *
  have hlen : (toksF b n level).length ≤ 2147483647 := by
    have h1 := toks_len (tokAt b n (depthF level) (decide (level ≥ 2))) n 0
    unfold toksF
    omega
  refine (c40 (hc.kp k1 (fun _ _ _ => id) (fun _ _ _ => id)) level).mono ?_
  rintro v w2 ⟨Q, hi, k2, hQ, hQq⟩
  have z2 := k2.size
  have lqs : 0 < n → ∀ a, q = some a → a.block < w.heap.size := fun h0 a ha => by
    have := hqf h0 a ha
    unfold fresh at this
    omega
  refine ⟨_, rfl, k2.keeps (fun i hi => ⟨by simp at hi; omega, id⟩), fun _ => ?_⟩
  refine collect (K := fun v w' => ∃ v', Ending.returned v = .returned v' ∧ ∃ q' c, v' = .slice q' (toksF b n level).length c ∧ Kp own w w' ∧ OwnRow w' (fresh w) 49 3 v' (toksF b n level).length (tokR (toksF b n level))) hi (d0.kp k2 id) (fun i h => ?_) (fun i h => ?_) hlen ?_ (fun q c w' Pv hrow hk _ _ => ?_)
  · rcases hQ i h with h | ⟨h0, a, ha, rfl⟩
    · omega
    · have := lqs h0 a ha
      omega
  · have := h.1.2
    omega
  · rintro Pv x y ⟨m', h⟩ hk
    exact ⟨m', h.kp hk (fun i _ ho hs => hs.1 ho) (fun h0 a ha hs => hs.2 (hQq h0 a ha))⟩
  · refine ⟨_, rfl, q, c, rfl, ((k1.trans k2).mono fun _ _ h => h.elim).then hk (fun i hi h => ?_), hrow.mono fun i hi _ => ?_⟩
    · rcases h with h | h
      · exact h.1.1
      · omega
    · have := hi.1
      unfold fresh
      omega
theorem c39n (w : World) (level : Int) : Rets Try.prog 39 #[.pointer none, .int .i64 level] w fun v w' => (∃ q' c, v = .slice q' 0 c) ∧ Kp none_ w w' := by
  refine ent [_, _] Try.func39 ((vcTry39 _ _ w _).mpr ?_)
  unfold VCTry39
  intro _
  have k1 : Kp none_ w (w.alloc (.cells #[Value.slice none 0 0] 42)) := (Kp.refl none_ w).alloc1 _
  have s1 : (w.alloc (.cells #[Value.slice none 0 0] 42)).heap.size = w.heap.size + 1 := alloc_size _ _
  have d0 := Cel.new w (.slice none 0 0) 42
  generalize w.alloc (.cells #[Value.slice none 0 0] 42) = W1 at *
  refine (c40n W1 level).mono ?_
  rintro v w2 ⟨Q, hi, k2, hQ⟩
  have z2 := k2.size
  refine ⟨_, rfl, k2.keeps (fun i hi => ⟨by simp at hi; omega, id⟩), fun _ => ?_⟩
  refine collect (l := []) (K := fun v w' => ∃ v', Ending.returned v = .returned v' ∧ (∃ q' c, v' = .slice q' 0 c) ∧ Kp none_ w w') hi (d0.kp k2 id) (fun i h => ?_) (fun i h => h.elim) (by simp) (fun _ _ _ _ _ => trivial) (fun q c w' Pv hrow hk _ _ => ?_)
  · have := hQ i h
    omega
  · refine ⟨_, rfl, ⟨q, c, rfl⟩, (k1.trans k2).then hk (fun i hi h => ?_)⟩
    rcases h with h | h
    · exact h
    · omega
end
end Go.Proofs.Ytodgnegbaigdbaa
