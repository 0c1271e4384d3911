import Derived.Test.YtodgnegbaigdbaaVcd
import Derived.Test.YtodgnegbaigdbaaVce
import Derived.Test.YtodgnegbaigdbaaFf
namespace Go.Proofs.Ytodgnegbaigdbaa
open Go Go.SX Go.Proofs
set_option maxRecDepth 100000
set_option linter.unusedVariables false
set_option linter.unusedSimpArgs false
/-! ### Tokens -/
abbrev Tok := Int × Int × Int
def tokV (t : Tok) : Value := .agg #[.int .u8 t.1, .int .i64 t.2.1, .int .i64 t.2.2]
def tokC (t : Tok) : List Value := [.int .u8 t.1, .int .i64 t.2.1, .int .i64 t.2.2]
def tokR (l : List Tok) : List Value := l.flatMap tokC
theorem tokV_inj {s t : Tok} (h : tokV s = tokV t) : s = t := by
  obtain ⟨a, b, c⟩ := s
  obtain ⟨x, y, z⟩ := t
  simp only [tokV, Value.agg.injEq, Array.mk.injEq, List.cons.injEq, Value.int.injEq, true_and, and_true] at h
  simp [h]
theorem tokV_map_inj : ∀ {l m : List Tok}, l.map tokV = m.map tokV → l = m
  | [], [], _ => rfl
  | [], _ :: _, h => by simp at h
  | _ :: _, [], h => by simp at h
  | s :: l, t :: m, h => by
    simp only [List.map_cons, List.cons.injEq] at h
    rw [tokV_inj h.1, tokV_map_inj h.2]
theorem tokR_app (l m : List Tok) : tokR (l ++ m) = tokR l ++ tokR m := by simp [tokR]
theorem tokR_get : ∀ {l : List Tok} {i : Nat} {t : Tok}, l[i]? = some t → ∀ j, j < 3 → (tokR l)[i * 3 + j]? = (tokC t)[j]?
  | [], i, t, h, _, _ => by simp at h
  | s :: l, 0, t, h, j, hj => by
    simp at h; subst h
    show (tokC s ++ tokR l)[0 * 3 + j]? = _
    rw [List.getElem?_append_left (by simp [tokC]; omega)]
    simp
  | s :: l, i + 1, t, h, j, hj => by
    show (tokC s ++ tokR l)[(i + 1) * 3 + j]? = _
    rw [List.getElem?_append_right (by simp [tokC]; omega)]
    have : (i + 1) * 3 + j - (tokC s).length = i * 3 + j := by simp [tokC]; omega
    rw [this]
    exact tokR_get (by simpa using h) j hj
/-- The tokens from a place on, at most so many. -/
def tokL (T : Int → Tok) (n : Nat) : Nat → Int → List Tok
  | 0, _ => []
  | f + 1, at_ => if at_ < n then T at_ :: tokL T n f (at_ + max 1 (T at_).2.1) else []
def toks (T : Int → Tok) (n : Nat) (at_ : Int) : List Tok := tokL T n (n - at_).toNat at_
theorem tokL_fuel (T : Int → Tok) (n : Nat) : ∀ (f : Nat) (at_ : Int), (n - at_).toNat ≤ f → tokL T n f at_ = toks T n at_
  | 0, at_, h => by unfold toks; rw [show (n - at_).toNat = 0 by omega]
  | f + 1, at_, h => by
    unfold toks
    by_cases ha : at_ < n
    · obtain ⟨k, hk⟩ : ∃ k, (n - at_).toNat = k + 1 := ⟨(n - at_).toNat - 1, by omega⟩
      rw [hk]
      simp only [tokL, if_pos ha]
      rw [tokL_fuel T n f _ (by omega), tokL_fuel T n k _ (by omega)]
    · rw [show (n - at_).toNat = 0 by omega]
      simp [tokL, ha]
theorem toks_step {T : Int → Tok} {n : Nat} {at_ : Int} (h : at_ < n) : toks T n at_ = T at_ :: toks T n (at_ + max 1 (T at_).2.1) := by
  obtain ⟨k, hk⟩ : ∃ k, (n - at_).toNat = k + 1 := ⟨(n - at_).toNat - 1, by omega⟩
  have : toks T n at_ = tokL T n (k + 1) at_ := by unfold toks; rw [hk]
  rw [this]
  simp only [tokL, if_pos h]
  rw [tokL_fuel T n k _ (by omega)]
theorem toks_end {T : Int → Tok} {n : Nat} {at_ : Int} (h : n ≤ at_) : toks T n at_ = [] := by
  unfold toks; rw [show (n - at_).toNat = 0 by omega]; rfl
theorem tokL_len (T : Int → Tok) (n : Nat) : ∀ f at_, (tokL T n f at_).length ≤ f
  | 0, _ => Nat.le_refl _
  | f + 1, at_ => by
    unfold tokL
    split
    · have := tokL_len T n f (at_ + max 1 (T at_).2.1)
      simp only [List.length_cons]; omega
    · simp
theorem toks_len (T : Int → Tok) (n : Nat) (at_ : Int) : (toks T n at_).length ≤ (n - at_).toNat := tokL_len _ _ _ _
/-- The token at a place. -/
def tokAt (b : Int → Int) (n : Nat) (depth : Int) (lz : Bool) (at_ : Int) : Tok :=
  if (findF b n at_ depth).1 = 0 ∨ (lz = true ∧ (findF b n at_ depth).1 < 258 ∧ (findF b n at_ depth).1 < (findF b n (at_ + 1) depth).1) then (b at_, 0, 0) else (0, (findF b n at_ depth).1, (findF b n at_ depth).2)
def depthF (level : Int) : Int := if level ≤ 0 then 1 else if level = 1 then 4 else if level = 2 then 32 else 256
theorem depthF_range (level : Int) : 1 ≤ depthF level ∧ depthF level ≤ 256 := by
  unfold depthF
  split
  · omega
  split
  · omega
  split <;> omega
/-- The tokens of bytes, by a level. -/
def toksF (b : Int → Int) (n : Nat) (level : Int) : List Tok := toks (tokAt b n (depthF level) (decide (level ≥ 2))) n 0
theorem ok_u8 (x : Int) : Value.oneCell' (.int .u8 x) = true := by simp [Value.oneCell']
theorem ok_i64 (x : Int) : Value.oneCell' (.int .i64 x) = true := by simp [Value.oneCell']
theorem elem49 : elemOk Try.prog 49 3 = true := by kernel_rfl
section
variable {w w' : World}
theorem collect {w1 : World} {fv : Value} {l : List Tok} {Q P0 : Nat → Prop} {Inv : (Nat → Prop) → World → Prop} {N : Nat} (hi : IterSpec Try.prog fv (l.map tokV) Q P0 Inv w1) (d0 : Cel w1 N (.slice none 0 0)) (hQ : ∀ i, Q i → i ≠ N ∧ i < w1.heap.size) (hP : ∀ i, P0 i → i ≠ N ∧ i < w1.heap.size) (hl : l.length ≤ 2147483647)
    (hInv : ∀ Pv x y, Inv Pv x → Kp (fun i => ¬ Pv i ∧ ¬ Q i) x y → Inv Pv y) {K : Value → World → Prop}
    (hK : ∀ q c w' Pv, OwnRow w' (fun i => w1.heap.size ≤ i ∧ ¬ Pv i) 49 3 (.slice q l.length c) l.length (tokR l) → Kp (fun i => P0 i ∨ i = N) w1 w' → Inv Pv w' → (∀ i, Pv i → P0 i ∨ w1.heap.size ≤ i) → K (.slice q l.length c) w') :
    ∀ (I3 : LoopState → Option Code → Obj),
             (∀ (x4 : LoopState) (q5 : Option Code), (I3 x4 q5).isCells = false) →
              (∀ (i6 i7 i8 : Int) (q9 : Option Addr) (n10 n11 : Nat) (w12 : World) (I13 : Value → World → Prop),
                w12.heap[w1.heap.size + (1 : Nat)]? = some (I3 LoopState.ready none) →
                 Known w12 [(N, [((0 : Nat), Value.slice q9 n10 n11)])] →
                  (((((w12.alloc (Obj.cells #[Value.int IntKind.u8 (0 : Int), Value.int IntKind.i64 (0 : Int), Value.int IntKind.i64 (0 : Int)] (49 : Nat))).setCell { block := w12.heap.size, off := (0 : Nat) }
                            (Value.int IntKind.u8 i6)).setCell
                          { block := w12.heap.size, off := (1 : Nat) } (Value.int IntKind.i64 i7)).setCell
                        { block := w12.heap.size, off := (2 : Nat) } (Value.int IntKind.i64 i8)).heap[w1.heap.size + (1 : Nat)]? =
                     some (I3 LoopState.ready none) ∧
                    Runs Try.prog
                     (Builtin.append_ #[(42 : Nat), (42 : Nat)] (42 : Nat)
                      #[Value.slice q9 n10 n11,
                       Value.slice
                        (some
                         {
                          block :=
                           (((((w12.alloc (Obj.cells #[Value.int IntKind.u8 (0 : Int), Value.int IntKind.i64 (0 : Int), Value.int IntKind.i64 (0 : Int)] (49 : Nat))).setCell
                                 { block := w12.heap.size, off := (0 : Nat) } (Value.int IntKind.u8 i6)).setCell
                                { block := w12.heap.size, off := (1 : Nat) } (Value.int IntKind.i64 i7)).setCell
                               { block := w12.heap.size, off := (2 : Nat) } (Value.int IntKind.i64 i8)).putObj
                              (w1.heap.size + (1 : Nat)) (I3 LoopState.busy none)).heap.size,
                          off := (0 : Nat) })
                        (1 : Nat) (1 : Nat)])
                     ((((((w12.alloc (Obj.cells #[Value.int IntKind.u8 (0 : Int), Value.int IntKind.i64 (0 : Int), Value.int IntKind.i64 (0 : Int)] (49 : Nat))).setCell
                              { block := w12.heap.size, off := (0 : Nat) } (Value.int IntKind.u8 i6)).setCell
                            { block := w12.heap.size, off := (1 : Nat) } (Value.int IntKind.i64 i7)).setCell
                          { block := w12.heap.size, off := (2 : Nat) } (Value.int IntKind.i64 i8)).putObj
                        (w1.heap.size + (1 : Nat)) (I3 LoopState.busy none)).alloc
                      (Obj.cells #[Value.int IntKind.u8 i6, Value.int IntKind.i64 i7, Value.int IntKind.i64 i8] (49 : Nat)))
                     fun (v18 : Value) (w19 : World) =>
                     ∃ (q20 : Option Addr),
                      ∃ (n21 : Nat),
                       ∃ (n22 : Nat),
                        v18 = Value.slice q20 n21 n22 ∧
                         Keeps
                           ((((((w12.alloc (Obj.cells #[Value.int IntKind.u8 (0 : Int), Value.int IntKind.i64 (0 : Int), Value.int IntKind.i64 (0 : Int)] (49 : Nat))).setCell
                                 { block := w12.heap.size, off := (0 : Nat) } (Value.int IntKind.u8 i6)).setCell
                                { block := w12.heap.size, off := (1 : Nat) } (Value.int IntKind.i64 i7)).setCell
                               { block := w12.heap.size, off := (2 : Nat) } (Value.int IntKind.i64 i8)).putObj
                              (w1.heap.size + (1 : Nat)) (I3 LoopState.busy none)).alloc
                            (Obj.cells #[Value.int IntKind.u8 i6, Value.int IntKind.i64 i7, Value.int IntKind.i64 i8] (49 : Nat)))
                           w19 [N, w12.heap.size] ∧
                          (Known (w19.setCell { block := N, off := (0 : Nat) } (Value.slice q20 n21 n22))
                            [(N, [((0 : Nat), Value.slice q20 n21 n22)]),
                             (w12.heap.size, [((0 : Nat), Value.int IntKind.u8 i6), ((1 : Nat), Value.int IntKind.i64 i7), ((2 : Nat), Value.int IntKind.i64 i8)])] →
                           (w19.setCell { block := N, off := (0 : Nat) } (Value.slice q20 n21 n22)).heap[w1.heap.size + (1 : Nat)]? = some (I3 LoopState.busy none) ∧
                            I13 (Value.bool true) ((w19.setCell { block := N, off := (0 : Nat) } (Value.slice q20 n21 n22)).putObj (w1.heap.size + (1 : Nat)) (I3 LoopState.ready none)))) →
                   CallsVal Try.prog (Value.func (Fn.yield (w1.heap.size + (1 : Nat))) #[] #[]) #[Value.agg #[Value.int IntKind.u8 i6, Value.int IntKind.i64 i7, Value.int IntKind.i64 i8]] w12 I13) →
               RangeVal Try.prog fv (Value.func (Fn.yield (w1.heap.size + (1 : Nat))) #[] #[]) ((w1.alloc (Obj.deferred (some []))).alloc (I3 LoopState.ready none)) fun (w25 : World) =>
                ∃ (q26 : Option Addr),
                 ∃ (n27 : Nat),
                  ∃ (n28 : Nat),
                   Known w25 [(N, [((0 : Nat), Value.slice q26 n27 n28)])] ∧
                    w25.heap[w1.heap.size + (1 : Nat)]? = some (I3 LoopState.ready none) ∧
                     (Known (w25.putObj (w1.heap.size + (1 : Nat)) (I3 LoopState.exhausted none)) [(N, [((0 : Nat), Value.slice q26 n27 n28)])] →
                      (w25.putObj (w1.heap.size + (1 : Nat)) (I3 LoopState.exhausted none)).heap[w1.heap.size]? = some (Obj.deferred (some [])) ∧
                       K (Value.slice q26 n27 n28) ((w25.putObj (w1.heap.size + (1 : Nat)) (I3 LoopState.exhausted none)).putObj w1.heap.size (Obj.deferred none))) := by
  intro I0 hI0 hyield
  generalize hh : w1.heap.size = h at *
  have lN := d0.lt
  generalize e6 : (w1.alloc (.deferred (some []))).alloc (I0 .ready none) = W6
  have k6 : Kp none_ w1 W6 := by rw [← e6]; exact ((Kp.refl none_ w1).alloc1 _).alloc1 _
  have s6 : W6.heap.size = h + 2 := by rw [← e6, alloc_size, alloc_size, hh]
  refine (hi.range W6 (k6.mono fun _ _ h => h.elim) (.func (.yield (h + 1)) #[] #[])
    (fun l' Pv w2 => ∃ (m : List Tok) (v : Value), l' = m.map tokV ∧ m.length ≤ l.length ∧ w2.heap[h + 1]? = some (I0 .ready none) ∧ w2.heap[h]? = some (.deferred (some [])) ∧ Kp (fun i => P0 i ∨ i = N) w1 w2 ∧ Cel w2 N v ∧
      OwnRow w2 (fun i => h + 1 < i ∧ ¬ Pv i) 49 3 v m.length (tokR m) ∧ (∀ i, Pv i → ((P0 i ∧ i ≠ N ∧ i < h) ∨ h + 1 < i) ∧ i < w2.heap.size)) (fun _ _ => False) ?_ ?_ ?_).mono ?_
  · refine ⟨[], .slice none 0 0, rfl, Nat.zero_le _, ?_, ?_, k6.mono fun _ _ h => h.elim, d0.kp k6 id, OwnRow.nil _ _ _ _, fun i h => ?_⟩
    · rw [← e6, alloc_get, if_pos (by rw [alloc_size, hh])]
    · rw [← e6, alloc_get, if_neg (by rw [alloc_size, hh]; omega), alloc_get, if_pos hh.symm]
    · have := hP i h
      exact ⟨.inl ⟨h, this⟩, by omega⟩
  · rintro l' Pv w2 w3 ⟨m, v, h1, h2, h3, h4, h5, h6, h7, h8⟩ hk
    have g3 := (Array.getElem?_eq_some_iff.1 h3).1
    have hsz := hk.size
    have nP : ∀ i, (i = N ∨ i = h ∨ i = h + 1) → ¬ Pv i := fun i hi hp => by rcases (h8 i hp).1 with h | h <;> omega
    refine ⟨m, v, h1, h2, (hk.same _ g3 (nP _ (by omega))).trans h3, (hk.same _ (by omega) (nP _ (by omega))).trans h4, h5.then hk (fun i hi hp => ?_), h6.kp hk (nP _ (by omega)), ?_, ?_⟩
    · rcases (h8 i hp).1 with h | h
      · exact .inl h.1
      · omega
    · refine (h7.mono (own' := fun i => (h + 1 < i ∧ ¬ (Pv i ∨ (w2.heap.size ≤ i ∧ i < w3.heap.size)))) fun i hi hl => ⟨hi.1, fun h => ?_⟩).kp hk fun g _ _ _ hg hp => hg.2 (.inl hp)
      rcases h with h | h
      · exact hi.2 h
      · omega
    · rintro i (hi | hi)
      · have := h8 i hi; exact ⟨this.1, by omega⟩
      · exact ⟨.inr (by omega), by omega⟩
  · rintro l' t rr Pv w9 hall ⟨m, v, h1, h2, h3, h4, h5, h6, h7, h8⟩
    obtain ⟨τ, hτ, hlen⟩ : ∃ τ : Tok, t = tokV τ ∧ m.length + 1 ≤ l.length := by
      rw [h1] at hall
      have hg : (l.map tokV)[m.length]? = some t := by rw [hall, List.getElem?_append_right (by simp)]; simp
      rw [List.getElem?_map] at hg
      cases hx : l[m.length]? with
      | none => rw [hx] at hg; cases hg
      | some τ =>
        rw [hx] at hg
        have hh := (List.getElem?_eq_some_iff.1 hx).1
        exact ⟨τ, by simpa using hg.symm, hh⟩
    subst hτ
    obtain ⟨x, y, z⟩ := τ
    obtain ⟨q6, c6, rfl⟩ := h7.slice
    refine hyield x y z q6 _ c6 w9 _ h3 ⟨⟨h6.lt, ⟨h6.cell, h6.frz⟩, trivial⟩, trivial⟩ ?_
    generalize eB : ((((w9.alloc (.cells #[Value.int .u8 0, .int .i64 0, .int .i64 0] 49)).setCell ⟨w9.heap.size, 0, none⟩ (.int .u8 x)).setCell ⟨w9.heap.size, 1, none⟩ (.int .i64 y)).setCell ⟨w9.heap.size, 2, none⟩ (.int .i64 z)) = WB
    have kB : Kp none_ w9 WB := by
      rw [← eB]
      exact Kp.setCell (Kp.setCell (Kp.setCell ((Kp.refl none_ w9).alloc1 _) _ (.inr (Nat.le_refl _))) _ (.inr (Nat.le_refl _))) _ (.inr (Nat.le_refl _))
    have g3 := (Array.getElem?_eq_some_iff.1 h3).1
    have sB := kB.size
    have r3 : WB.heap[h + 1]? = some (I0 .ready none) := (kB.same _ g3 id).trans h3
    refine ⟨r3, ?_⟩
    have kP : Kp (one_ (h + 1)) WB (WB.putObj (h + 1) (I0 .busy none)) := Kp.putObj1 _ r3 (hI0 _ _) (hI0 _ _) rfl
    have rP : (WB.putObj (h + 1) (I0 .busy none)).heap[h + 1]? = some (I0 .busy none) := World.putObj_heap_same (by omega)
    have hBs : w9.heap.size < WB.heap.size := by rw [← eB]; simp only [World.setCell, Array.size_modify, alloc_size]; omega
    generalize eP : WB.putObj (h + 1) (I0 .busy none) = WP at *
    have sP := kP.size
    have h7' : OwnRow w9 (fun i => (h + 1 < i ∧ ¬ Pv i) ∧ i < w9.heap.size) 49 3 (.slice q6 m.length c6) m.length (tokR m) := h7.mono fun i hi hl => ⟨hi, hl⟩
    refine append_new (own := fun i => (h + 1 < i ∧ ¬ Pv i) ∧ i < w9.heap.size) (xs := tokR m) #[Value.int .u8 x, .int .i64 y, .int .i64 z] Try.underlying42 elem49 (by omega)
      ((h7'.kp kB fun _ _ _ _ _ => id).kp kP fun g _ _ _ hg hs => by have e : g = h + 1 := hs; have := hg.1.1; omega) rfl (by simp [ok_u8, ok_i64]) (by omega) ?_
    intro q c w16 hrow k16' k16a
    have hs16 := k16'.size
    have sA : (WP.alloc (.cells #[Value.int .u8 x, .int .i64 y, .int .i64 z] 49)).heap.size = WP.heap.size + 1 := alloc_size _ _
    have kAll : Kp (fun i => i = h + 1 ∨ (h + 1 < i ∧ ¬ Pv i)) w9 w16 := ((kB.mono fun _ _ h => h.elim).trans (kP.mono fun i _ hi => .inl hi)).trans (k16'.mono fun i _ hi => .inr hi.1)
    have cel : Cel w16 N _ := h6.kp kAll (by omega)
    have kS := Kp.set1 (w := w16) N (.slice q (m.length + 1) c)
    have r16 : w16.heap[h + 1]? = some (I0 .busy none) := (k16'.same _ (by omega) (by omega)).trans rP
    have r17 : (w16.setCell ⟨N, 0, none⟩ (.slice q (m.length + 1) c)).heap[h + 1]? = some (I0 .busy none) := (kS.same _ (by omega) (by show ¬ h + 1 = N; omega)).trans r16
    have c17 := cel.set (.slice q (m.length + 1) c)
    refine ⟨_, _, _, rfl, k16a.keeps (fun i hi => ?_), fun _ => ?_⟩
    · simp only [List.mem_cons, List.not_mem_nil, or_false] at hi
      rcases hi with rfl | rfl <;> omega
    generalize w16.setCell ⟨N, 0, none⟩ (.slice q (m.length + 1) c) = w17 at *
    have s17 := kS.size
    have kR : Kp (one_ (h + 1)) w17 (w17.putObj (h + 1) (I0 .ready none)) := Kp.putObj1 _ r17 (hI0 _ _) (hI0 _ _) rfl
    have kT : Kp (fun i => i = N ∨ i = h + 1 ∨ (h + 1 < i ∧ ¬ Pv i)) w9 (w17.putObj (h + 1) (I0 .ready none)) :=
      ((kAll.mono fun i _ hi => .inr hi).trans (kS.mono fun i _ hi => .inl hi)).trans (kR.mono fun i _ hi => .inr (.inl hi))
    have sT := kT.size
    have nP : ∀ i, (i = N ∨ i = h ∨ i = h + 1) → ¬ Pv i := fun i hi hp => by rcases (h8 i hp).1 with h | h <;> omega
    refine ⟨r17, kT.mono fun i _ hi => ⟨?_, fun hq => ?_⟩, true, rfl, m ++ [(x, y, z)], _, by rw [h1, List.map_append]; rfl, by simpa using hlen, World.putObj_heap_same (by omega), ?_, ?_, c17.kp kR (by show ¬ N = h + 1; omega), ?_, ?_⟩
    · rcases hi with rfl | rfl | hi
      · exact nP _ (by omega)
      · exact nP _ (by omega)
      · exact hi.2
    · have := hQ i hq
      omega
    · exact (kT.same _ (by omega) (by omega)).trans h4
    · exact h5.then kT (fun i hi h => by
        rcases h with h | h | h
        · exact .inr h
        · omega
        · omega)
    · rw [List.length_append, tokR_app]
      refine ((hrow.mono (own' := fun i => h + 1 < i ∧ ¬ Pv i) fun i hi _ => ?_).kp kS fun g _ _ _ hg hs => ?_).kp kR fun g _ _ _ hg hs => ?_
      · rcases hi with hi | hi
        · exact hi.1
        · have hi' : WP.heap.size ≤ i := hi
          exact ⟨by omega, fun hp => by have := h8 i hp; omega⟩
      · have e : g = N := hs
        have := hg.1
        omega
      · have e : g = h + 1 := hs
        have := hg.1
        omega
    · intro i hi
      have := h8 i hi
      exact ⟨this.1, by omega⟩
  · rintro w2 ⟨Pv, hv, (⟨m, v, h1, h2, h3, h4, h5, h6, h7, h8⟩ | h)⟩
    · have e := tokV_map_inj h1
      subst e
      obtain ⟨q6, c6, rfl⟩ := h7.slice
      have g3 := (Array.getElem?_eq_some_iff.1 h3).1
      have nP : ∀ i, (i = N ∨ i = h ∨ i = h + 1) → ¬ Pv i := fun i hi hp => by rcases (h8 i hp).1 with h | h <;> omega
      have kR : Kp (one_ (h + 1)) w2 (w2.putObj (h + 1) (I0 .exhausted none)) := Kp.putObj1 _ h3 (hI0 _ _) (hI0 _ _) rfl
      have r4 : (w2.putObj (h + 1) (I0 .exhausted none)).heap[h]? = some (.deferred (some [])) := (kR.same _ (by omega) (by show ¬ h = h + 1; omega)).trans h4
      have kD : Kp (one_ h) _ _ := Kp.putObj1 (.deferred none) r4 rfl rfl rfl
      have kE : Kp (fun i => i = h + 1 ∨ i = h) w2 _ := (kR.mono fun _ _ h => .inl h).trans (kD.mono fun _ _ h => .inr h)
      refine ⟨_, _, _, ⟨⟨h6.lt, ⟨h6.cell, h6.frz⟩, trivial⟩, trivial⟩, h3, fun _ => ⟨r4, hK _ _ _ Pv ?_ (h5.then kE fun i hi h => by omega) (hInv _ _ _ hv (kE.mono fun i _ hi => ⟨nP i (by omega), fun hq => by have := hQ i hq; omega⟩)) (fun i hi => by rcases (h8 i hi).1 with h | h; exact .inl h.1; exact .inr (by omega))⟩⟩
      refine ((h7.kp kR fun g _ _ _ hg hs => ?_).kp kD fun g _ _ _ hg hs => ?_).mono fun i hi _ => ⟨by omega, hi.2⟩
      · have e : g = h + 1 := hs
        have := hg.1
        omega
      · have e : g = h := hs
        have := hg.1
        omega
    · exact h.elim
theorem c62 {fv : Value} {l : List Tok} {Q : Nat → Prop} (hi : IterSpec Try.prog fv (l.map tokV) Q (fun _ => False) (fun _ _ => True) w) (hQ : ∀ i, Q i → i < w.heap.size) (hl : l.length ≤ 2147483647) :
    Rets Try.prog 62 #[.slice none 0 0, fv] w fun v w' => ∃ q c, v = .slice q l.length c ∧ Kp none_ w w' ∧ OwnRow w' (fresh w) 49 3 v l.length (tokR l) := by
  refine ent [_, _] Try.func62 ((vcTry62 _ _ _ _ w _).mpr ?_)
  unfold VCTry62
  intro _
  have k1 : Kp none_ w (w.alloc (.cells #[Value.slice none 0 0] 42)) := (Kp.refl none_ w).alloc1 _
  have s1 : (w.alloc (.cells #[Value.slice none 0 0] 42)).heap.size = w.heap.size + 1 := alloc_size _ _
  have d0 := Cel.new w (.slice none 0 0) 42
  refine collect (K := fun v w' => ∃ v', Ending.returned v = .returned v' ∧ ∃ q c, v' = .slice q l.length c ∧ Kp none_ w w' ∧ OwnRow w' (fresh w) 49 3 v' l.length (tokR l)) (hi.later (k1.mono fun _ _ h => h.elim)) d0 (fun i h => by have := hQ i h; omega) (fun i h => h.elim) hl (fun _ _ _ _ _ => trivial) (fun q c w' Pv hrow hk _ _ => ?_)
  refine ⟨_, rfl, q, c, rfl, k1.then hk (fun i hi h => ?_), hrow.mono fun i hi _ => ?_⟩
  · rcases h with h | h
    · exact h
    · omega
  · have := hi.1
    unfold fresh
    omega
end
end Go.Proofs.Ytodgnegbaigdbaa
