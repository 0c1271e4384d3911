import Derived.Test.YtodgnegbaigdbaaGd
namespace Go.Proofs.Ytodgnegbaigdbaa
open Go Go.SX Go.Proofs
set_option maxRecDepth 100000
set_option linter.unusedVariables false
set_option linter.unusedSimpArgs false
section
variable {w w' : World} {q : Option Addr} {n cp : Nat} {b : Int → Int}
theorem c36 {F I L T : Nat} {t : Tok} {i till : Int} {c : Nat} {l : List Tok} (hF : Cel w F (.bool true)) (hI : Cel w I (.int .i64 i)) (hL : w.cell? ⟨L, 0, none⟩ = some (.slice q l.length c)) (hT : w.cell? ⟨T, 0, none⟩ = some (.int .i64 till))
    (hne : F ≠ I ∧ T ≠ F ∧ T ≠ I) (hi : 0 ≤ i) (ht : l[i.toNat]? = some t) (hl : l.length ≤ 2147483647) (hk : Toks w q l) :
    Rets Try.prog 36 #[tokV t, .pointer (some ⟨F, 0, none⟩), .pointer (some ⟨I, 0, none⟩), .pointer (some ⟨L, 0, none⟩), .pointer (some ⟨T, 0, none⟩)] w fun v w' =>
      v = .bool (i + 1 != till) ∧ Kp (fun j => j = F ∨ j = I) w w' ∧ Cel w' F (.bool true) ∧ Cel w' I (.int .i64 (i + 1)) := by
  refine ent [_, _, _, _, _] Try.func36 ((vcTry36 _ _ _ _ _ _ _ w _).mpr ?_)
  unfold VCTry36
  have hlt := (List.getElem?_eq_some_iff.1 ht).1
  have kA : Kp none_ w (w.alloc (.cells #[Value.int .u8 t.1, .int .i64 t.2.1, .int .i64 t.2.2] 49)).drew := ((Kp.refl none_ w).alloc1 _).drew
  generalize (w.alloc (.cells #[Value.int .u8 t.1, .int .i64 t.2.1, .int .i64 t.2.2] 49)).drew = WA at *
  have lF := hF.lt
  have lI := hI.lt
  have gF := hF.kp kA id
  have gI := hI.kp kA id
  obtain ⟨a, rfl, x0, x1, x2⟩ := (hk.kp0 kA) i.toNat t ht
  have gT := kA.cell0 hT
  simp only [ad_add, Nat.zero_add, Nat.add_zero]
  refine ⟨_, gF.cell, bif_b (fun _ => ?_) (fun h => by cases h)⟩
  refine ⟨_, gI.cell, _, _, _, kA.cell0 hL, bif_dec (fun _ => ?_) (fun h => by omega)⟩
  refine ⟨_, _, _, kA.cell0 hL, _, gI.cell, by omega, ?_⟩
  simp only [ptr_some, add_add, Nat.add_zero]
  refine ⟨_, _, _, ⟨x0, x1, x2, trivial⟩, trivial, ⟨_, gF.cell⟩, gF.frz, .inl (by dsimp only; omega), ?_⟩
  simp only [beq_self_eq_true, Bool.and_self]
  have sF := gF.set (.bool true)
  have sI := gI.off (.bool true) hne.1
  have tT : (WA.setCell ⟨F, 0, none⟩ (.bool true)).cell? ⟨T, 0, none⟩ = some (.int .i64 till) := by rw [cell_set_far _ (Ne.symm hne.2.1)]; exact gT
  refine ⟨_, sI.cell, wr64 (by omega) ⟨⟨_, sI.cell⟩, sI.frz, .inl (by dsimp only; omega), _, (sI.set _).cell, _, by rw [cell_set_far _ (Ne.symm hne.2.2)]; exact tT, fun _ => ⟨_, rfl, rfl, ?_, sF.off _ (Ne.symm hne.1), sI.set _⟩⟩⟩
  exact Kp.setCell (Kp.setCell (kA.mono fun _ _ h => h.elim) _ (.inl (.inl rfl))) _ (.inl (.inr rfl))
theorem isGo36 : isGo Try.prog 36 = true := by kernel_rfl
/-- What the counting closure leaves: so many told, none amiss. -/
def CntA (W w2 : World) (l : List Tok) (q : Option Addr) (c F I L T K0 : Nat) (till : Int) (k : Nat) : Prop :=
  Kp none_ W w2 ∧ Cel w2 F (.bool true) ∧ Cel w2 I (.int .i64 k) ∧ Cel w2 L (.slice q l.length c) ∧ Cel w2 T (.int .i64 till) ∧ Toks w2 q l ∧ (W.heap.size ≤ F ∧ F < K0) ∧ (W.heap.size ≤ I ∧ I < K0) ∧ K0 ≤ w2.heap.size
/-- A block that the closure has nothing to do with. -/
def Good (W : World) (q : Option Addr) (F I L T i : Nat) : Prop := W.heap.size ≤ i ∧ i ≠ F ∧ i ≠ I ∧ i ≠ L ∧ i ≠ T ∧ ∀ a, q = some a → i ≠ a.block
theorem CntA.move {W w2 w3 : World} {l : List Tok} {c F I L T K0 k : Nat} {till : Int} {S : Nat → Prop} (h : CntA W w2 l q c F I L T K0 till k) (hk : Kp S w2 w3) (hS : ∀ i, S i → Good W q F I L T i) : CntA W w3 l q c F I L T K0 till k := by
  obtain ⟨h1, h2, h3, h4, h5, h6, h7, h8, h9⟩ := h
  refine ⟨h1.then hk fun i hi hs => ?_, h2.kp hk (fun hs => (hS _ hs).2.1 rfl), h3.kp hk (fun hs => (hS _ hs).2.2.1 rfl), h4.kp hk (fun hs => (hS _ hs).2.2.2.1 rfl), h5.kp hk (fun hs => (hS _ hs).2.2.2.2.1 rfl), fun i t ht => ?_, h7, h8, Nat.le_trans h9 hk.size⟩
  · have := (hS i hs).1
    omega
  · obtain ⟨a, e, x0, x1, x2⟩ := h6 i t ht
    have : ¬ S a.block := fun hs => (hS _ hs).2.2.2.2.2 a e rfl
    exact ⟨a, e, hk.cell x0 (by rw [add_block]; exact this), hk.cell x1 (by rw [add_block]; exact this), hk.cell x2 (by rw [add_block]; exact this)⟩
/-- The whole list is told to a counting closure. -/
theorem told {W w0 : World} {fv clo : Value} {l : List Tok} {Q P0 : Nat → Prop} {Inv : (Nat → Prop) → World → Prop} {c F I L T K0 : Nat} {till : Int} (hi : IterSpec Try.prog fv (l.map tokV) Q P0 Inv w0) (hA : CntA W w0 l q c F I L T K0 till 0) (hl : l.length ≤ 2147483647)
    (hP : ∀ i, P0 i → Good W q F I L T i) (hQ : ∀ i, Q i → i ≠ F ∧ i ≠ I) (hq : ∀ a, q = some a → a.block < w0.heap.size ∧ a.block ≠ F ∧ a.block ≠ I) (hne : F ≠ I ∧ T ≠ F ∧ T ≠ I ∧ L ≠ F ∧ L ≠ I)
    (hcl : ∀ (w1 : World) (t : Tok) (k : Int), Cel w1 F (.bool true) → Cel w1 I (.int .i64 k) → w1.cell? ⟨L, 0, none⟩ = some (.slice q l.length c) → w1.cell? ⟨T, 0, none⟩ = some (.int .i64 till) → 0 ≤ k → l[k.toNat]? = some t → Toks w1 q l →
      CallsVal Try.prog clo #[tokV t] w1 fun v w' => v = .bool (k + 1 != till) ∧ Kp (fun j => j = F ∨ j = I) w1 w' ∧ Cel w' F (.bool true) ∧ Cel w' I (.int .i64 (k + 1))) :
    CallsVal Try.prog fv #[clo] w0 fun v w2 => v = .tuple #[] ∧ ∃ Pv, Inv Pv w2 ∧ (∀ i, Pv i → Good W q F I L T i) ∧ ∃ k : Nat, CntA W w2 l q c F I L T K0 till k ∧ (k : Int) = if 0 < till ∧ till < l.length then till else l.length := by
  have hkeep : Kp (fun i => ¬ Q i ∧ ¬ P0 i) w0 w0 := Kp.refl _ _
  refine CallsVal.mono (hi.2 w0 hkeep clo (fun l' Pv w1 => ∃ k : Nat, l' = (l.take k).map tokV ∧ k ≤ l.length ∧ CntA W w1 l q c F I L T K0 till k ∧ (0 < till → (k : Int) < till) ∧ (∀ i, Pv i → Good W q F I L T i) ∧ (∀ a, q = some a → a.block < w1.heap.size))
    (fun Pv w1 => ∃ k : Nat, k ≤ l.length ∧ CntA W w1 l q c F I L T K0 till k ∧ (k : Int) = till ∧ 0 < till ∧ (∀ i, Pv i → Good W q F I L T i)) ?_ ?_ ?_) ?_
  · exact ⟨0, by simp, by omega, hA, fun h => h, hP, fun a ha => (hq a ha).1⟩
  · rintro l' Pv w1 w2 ⟨k, h1, h2, h3, h4, h5, h6⟩ hk
    have hs := hk.size
    obtain ⟨g1, g2, g3, g4, g5, g6, g7, g8, g9⟩ := h3
    have h3 : CntA W w1 l q c F I L T K0 till k := ⟨g1, g2, g3, g4, g5, g6, g7, g8, g9⟩
    have zW := g1.size
    have z2 := g2.lt
    have z3 := g3.lt
    have z4 := g4.lt
    have z5 := g5.lt
    refine ⟨k, h1, h2, h3.move hk h5, h4, fun i hi => ?_, fun a ha => Nat.lt_of_lt_of_le (h6 a ha) hs⟩
    rcases hi with hi | hi
    · exact h5 i hi
    · exact ⟨by omega, by omega, by omega, by omega, by omega, fun a ha => by have := h6 a ha; omega⟩
  · rintro l' t rr Pv w1 hall ⟨k, h1, h2, h3, h4, h5, h6⟩
    have hlen : l'.length = k := by rw [h1, List.length_map, List.length_take]; omega
    obtain ⟨τ, hτ, hτ2⟩ : ∃ τ : Tok, t = tokV τ ∧ l[k]? = some τ := by
      have hg : (l.map tokV)[k]? = some t := by rw [hall, List.getElem?_append_right (by omega)]; simp [hlen]
      rw [List.getElem?_map] at hg
      cases hx : l[k]? with
      | none => rw [hx] at hg; cases hg
      | some τ => rw [hx] at hg; exact ⟨τ, by simpa using hg.symm, rfl⟩
    subst hτ
    have hkl := (List.getElem?_eq_some_iff.1 hτ2).1
    obtain ⟨g1, g2, g3, g4, g5, g6, g7, g8, g9⟩ := h3
    refine CallsVal.mono (hcl w1 τ k g2 g3 g4.cell g5.cell (by omega) (by simpa using hτ2) g6) ?_
    rintro v w2 ⟨rfl, kk, c1, c2⟩
    have nF : ∀ i, (i = F ∨ i = I) → ¬ Pv i ∧ ¬ Q i := fun i hi => ⟨fun hp => by have := h5 i hp; rcases hi with hi | hi; exact this.2.1 hi; exact this.2.2.1 hi, fun hq => by have := hQ i hq; omega⟩
    have hA2 : CntA W w2 l q c F I L T K0 till (k + 1) := by
      refine ⟨g1.then kk fun i hi hh => by omega, c1, c2, g4.kp kk (by omega), g5.kp kk (by omega), fun i t ht => ?_, g7, g8, Nat.le_trans g9 kk.size⟩
      obtain ⟨a, e, x0, x1, x2⟩ := g6 i t ht
      have : ¬ (a.block = F ∨ a.block = I) := by have := hq a e; omega
      exact ⟨a, e, kk.cell x0 (by rw [add_block]; exact this), kk.cell x1 (by rw [add_block]; exact this), kk.cell x2 (by rw [add_block]; exact this)⟩
    refine ⟨kk.mono fun i _ hi => nF i hi, _, rfl, ?_⟩
    by_cases e : (k : Int) + 1 = till
    · have : ((k : Int) + 1 != till) = false := by simp [e]
      rw [this]
      exact ⟨k + 1, by omega, hA2, by omega, by omega, h5⟩
    · have : ((k : Int) + 1 != till) = true := by simp [e]
      rw [this]
      refine ⟨k + 1, ?_, by omega, hA2, fun h => by have := h4 h; omega, h5, fun a ha => Nat.lt_of_lt_of_le (h6 a ha) kk.size⟩
      rw [h1, List.take_add_one, hτ2, List.map_append]
      rfl
  · rintro v w2 ⟨rfl, Pv, hv, (⟨k, h1, h2, h3, h4, h5, h6⟩ | ⟨k, h2, h3, h4, h5, h6⟩)⟩
    · refine ⟨rfl, Pv, hv, h5, k, h3, ?_⟩
      have := congrArg List.length h1
      rw [List.length_map, List.length_map, List.length_take] at this
      split <;> omega
    · refine ⟨rfl, Pv, hv, h6, k, h3, ?_⟩
      split <;> omega
theorem OwnRow.block {own : Nat → Prop} {e : TypeId} {size m c k : Nat} {xs : List Value} (h : OwnRow w own e size (.slice q m c) k xs) : ∀ a, q = some a → own a.block ∧ a.block < w.heap.size := by
  intro a ha
  rcases h.2 with ⟨h1, _⟩ | ⟨g, cap, cur, h1, ho, hg, _⟩
  · cases h1; cases ha
  · cases h1; cases ha
    exact ⟨ho, (Array.getElem?_eq_some_iff.1 hg).1⟩
theorem c10 (hb : Ints w .u8 q n b) (hr : ∀ i : Int, 0 ≤ i → i < n → 0 ≤ b i ∧ b i < 256) (hcp : n ≤ cp) (level till : Int) :
    Rets Try.prog 10 #[.slice q n cp, .int .i64 level, .int .i64 till] w fun v w' => v = .bool true ∧ Kp none_ w w' := by
  refine ent [_, _, _] Try.func10 ((vcTry10 _ _ _ _ _ w _).mpr ?_)
  unfold VCTry10
  have k1 : Kp none_ w (w.alloc (.cells #[Value.int .i64 till] 3)) := (Kp.refl none_ w).alloc1 _
  have cT := Cel.new w (.int .i64 till) 3
  have s1 : (w.alloc (.cells #[Value.int .i64 till] 3)).heap.size = w.heap.size + 1 := alloc_size _ _
  have hqb : 0 < n → ∀ a, q = some a → a.block < w.heap.size := fun h0 a ha => by
    obtain ⟨a', e, hcl⟩ := hb 0 (by omega) (by omega)
    rw [ha] at e; cases e
    have := cell_lt hcl
    rwa [add_block] at this
  generalize w.alloc (.cells #[Value.int .i64 till] 3) = w1 at *
  generalize hT : w.heap.size = T at *
  refine bif_dec (fun _ _ => (c29 w1).mono ?_) (fun g1 _ => ?_)
  · rintro v w2 ⟨rfl, k2⟩
    exact ⟨_, rfl, k2.keeps (fun i hi => ⟨by simp at hi; omega, id⟩), fun _ => ⟨_, rfl, rfl, k1.trans k2⟩⟩
  have hlen : (toksF b n level).length ≤ 2147483647 := by
    have h1 := toks_len (tokAt b n (depthF level) (decide (level ≥ 2))) n 0
    unfold toksF
    omega
  refine (c31 (hb.kp0 k1) hr hcp (by omega) level).mono ?_
  rintro v w2 ⟨q2, c2, rfl, k2, hrow⟩
  have hq2 := OwnRow.block hrow
  have hk2 := Toks.of hrow
  obtain ⟨l, hl⟩ : ∃ l, l = toksF b n level := ⟨_, rfl⟩
  rw [← hl] at hrow hk2 hlen ⊢
  refine ⟨_, _, _, rfl, k2.keeps (fun i hi => ⟨by simp at hi; omega, id⟩), fun _ => ?_⟩
  have k3 : Kp none_ w2 ((w2.alloc (.cells #[Value.slice none 0 0] 42)).setCell ⟨w2.heap.size, 0, none⟩ (.slice q2 l.length c2)) := Kp.setCell ((Kp.refl none_ w2).alloc1 _) _ (.inr (Nat.le_refl _))
  have cL := (Cel.new w2 (.slice none 0 0) 42).set (.slice q2 l.length c2)
  have s3 : ((w2.alloc (.cells #[Value.slice none 0 0] 42)).setCell ⟨w2.heap.size, 0, none⟩ (.slice q2 l.length c2)).heap.size = w2.heap.size + 1 := by simp [World.setCell, alloc_size]
  have z2 := k2.size
  generalize (w2.alloc (.cells #[Value.slice none 0 0] 42)).setCell ⟨w2.heap.size, 0, none⟩ (.slice q2 l.length c2) = w3 at *
  generalize hL : w2.heap.size = L at *
  have k13 := (k1.trans k2).trans k3
  refine (c35 (cp := cp) (hb.kp0 k13) hr hcp (by omega) level).mono ?_
  rintro v w4 ⟨Q, hi, k4, hQ⟩
  rw [← hl] at hi
  obtain ⟨kk, first, cap, rfl⟩ := hi.1
  have z4 := k4.size
  refine ⟨_, rfl, k4.keeps (fun i hi => ⟨by simp at hi; omega, id⟩), ?_⟩
  simp only [FnVal, cond_false]
  intro _
  have kI : Kp none_ w4 ((w4.alloc (.cells #[Value.int .i64 0] 3)).setCell ⟨w4.heap.size, 0, none⟩ (.int .i64 0)) := Kp.setCell ((Kp.refl none_ w4).alloc1 _) _ (.inr (Nat.le_refl _))
  have cI := (Cel.new w4 (.int .i64 0) 3).set (.int .i64 0)
  have sI : ((w4.alloc (.cells #[Value.int .i64 0] 3)).setCell ⟨w4.heap.size, 0, none⟩ (.int .i64 0)).heap.size = w4.heap.size + 1 := by simp [World.setCell, alloc_size]
  generalize (w4.alloc (.cells #[Value.int .i64 0] 3)).setCell ⟨w4.heap.size, 0, none⟩ (.int .i64 0) = w5 at *
  have kF : Kp none_ w5 ((w5.alloc (.cells #[Value.bool false] 4)).setCell ⟨w5.heap.size, 0, none⟩ (.bool true)) := Kp.setCell ((Kp.refl none_ w5).alloc1 _) _ (.inr (Nat.le_refl _))
  have cF := (Cel.new w5 (.bool false) 4).set (.bool true)
  have sF : ((w5.alloc (.cells #[Value.bool false] 4)).setCell ⟨w5.heap.size, 0, none⟩ (.bool true)).heap.size = w5.heap.size + 1 := by simp [World.setCell, alloc_size]
  generalize (w5.alloc (.cells #[Value.bool false] 4)).setCell ⟨w5.heap.size, 0, none⟩ (.bool true) = w6 at *
  have k46 := kI.trans kF
  have k26 := (k3.trans k4).trans k46
  have k16 := k2.trans k26
  have hA : CntA w w6 l q2 c2 w5.heap.size w4.heap.size L T w6.heap.size till 0 :=
    ⟨(k13.trans k4).trans k46, cF, cI.kp kF id, (cL.kp k4 id).kp k46 id, cT.kp k16 id, hk2.kp0 k26, ⟨by omega, by omega⟩, ⟨by omega, by omega⟩, Nat.le_refl _⟩
  have hbd : ∀ a, q2 = some a → w1.heap.size ≤ a.block ∧ a.block < L := fun a ha => by
    have h1 := hq2 a ha
    exact h1
  refine CallsVal.mono (told (till := till) (hi.later (k46.mono fun _ _ h => h.elim)) hA hlen (fun i h => h.elim) (fun i h => ?_) (fun a ha => ?_) (by omega) (fun w7 t k x1 x2 x3 x4 x5 x6 x7 => ⟨isGo36, c36 x1 x2 x3 x4 (by omega) x5 x6 hlen x7⟩)) ?_
  · rcases hQ i h with h | ⟨h0, a, ha, rfl⟩
    · omega
    · have := hqb h0 a ha
      omega
  · have := hbd a ha
    omega
  rintro v w7 ⟨rfl, Pv, _, _, k, hB, hk⟩
  obtain ⟨b1, b2, b3, b4, b5, b6, b7, b8, b9⟩ := hB
  refine ⟨rfl, ⟨b9, fun i hi => by cases hi⟩, _, b5.cell, b5.frz, _, _, _, b4.cell, b4.frz, _, b3.cell, b3.frz, _, b2.cell, b2.frz, ?_⟩
  have live : Rets Try.prog 29 #[] w7 fun v20 w21 => ∃ t : Bool, v20 = .bool t ∧ Keeps w7 w21 [] ∧ ∃ i23, w21.cell? ⟨T, 0, none⟩ = some (.int .i64 i23) ∧ w21.frozen? ⟨T, 0, none⟩ = false ∧ ∃ q24 n25 n26, w21.cell? ⟨L, 0, none⟩ = some (.slice q24 n25 n26) ∧ w21.frozen? ⟨L, 0, none⟩ = false ∧
      ∃ i27, w21.cell? ⟨w4.heap.size, 0, none⟩ = some (.int .i64 i27) ∧ w21.frozen? ⟨w4.heap.size, 0, none⟩ = false ∧ ∃ t28, w21.cell? ⟨w5.heap.size, 0, none⟩ = some (.bool t28) ∧ w21.frozen? ⟨w5.heap.size, 0, none⟩ = false ∧
        (Known w21 [(T, [(0, .int .i64 i23)]), (L, [(0, .slice q24 n25 n26)]), (w4.heap.size, [(0, .int .i64 i27)]), (w5.heap.size, [(0, .bool t28)])] → ∃ v', Ending.returned (.bool t) = .returned v' ∧ v' = .bool true ∧ Kp none_ w w21) :=
    (c29 w7).mono fun v w8 ⟨e, k8⟩ => ⟨true, e, k8.keeps0, _, (b5.kp k8 id).cell, (b5.kp k8 id).frz, _, _, _, (b4.kp k8 id).cell, (b4.kp k8 id).frz, _, (b3.kp k8 id).cell, (b3.kp k8 id).frz, _, (b2.kp k8 id).cell, (b2.kp k8 id).frz, fun _ => ⟨_, rfl, rfl, b1.trans k8⟩⟩
  refine bif_dec (fun h1 => bif_dec (fun h2 => ?_) (fun h2 => ?_)) (fun h1 => ?_)
  · rw [if_pos (by omega)] at hk
    exact bif_b (fun _ => bif_eq (fun _ _ => live) (fun h => absurd hk h)) (fun h => by cases h)
  · rw [if_neg (by omega)] at hk
    exact bif_b (fun _ => bif_eq (fun _ _ => live) (fun h => absurd hk h)) (fun h => by cases h)
  · rw [if_neg (by omega)] at hk
    exact bif_b (fun _ => bif_eq (fun _ _ => live) (fun h => absurd hk h)) (fun h => by cases h)
end
end Go.Proofs.Ytodgnegbaigdbaa
