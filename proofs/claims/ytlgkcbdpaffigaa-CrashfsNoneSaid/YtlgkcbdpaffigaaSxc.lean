/- The executor is sound, second half: regions, loops, functions. -/
import Derived.Test.YtlgkcbdpaffigaaSxb
set_option linter.unusedSimpArgs false
set_option linter.unusedVariables false
namespace Go.SX
open Go

/-! ### Frames -/
theorem getD_put (a : Act) (d t : Nat) (v : Value) (hd : d < a.tmps.size) : (a.put (some d) v).tmps.getD t undef = if d = t then v else a.tmps.getD t undef := by
  simp only [Act.put, Array.getD_eq_getD_getElem?, Array.getElem?_setIfInBounds]
  by_cases h : d = t
  · subst h; simp [hd]
  · simp [h]
theorem size_put (a : Act) (d : Option Tmp) (v : Value) : (a.put d v).tmps.size = a.tmps.size := by cases d <;> simp [Act.put]
theorem defers_put (a : Act) (d : Option Tmp) (v : Value) : (a.put d v).defers = a.defers := by cases d <;> rfl
theorem Rel.put {N : Nat} {D : List Deferred} {s s' : St} {a : Act} {d : Option Tmp} {x : SV} (h : Rel N D s a) (he : s'.env = s.env) (hd : ∀ t, d = some t → t < N) : Rel N D (putS s' d x) (a.put d x.val) := by
  obtain ⟨h1, h2, h3⟩ := h
  refine ⟨by rw [size_put, h1], by rw [defers_put, h2], fun i y hy => ?_⟩
  cases d with
  | none =>
    simp only [putS, putE, he] at hy
    exact h3 i y hy
  | some d =>
    simp only [putS, putE, he, lk_cons] at hy
    rw [getD_put a d i _ (by rw [h1]; exact hd d rfl)]
    split at hy
    · rename_i e
      simp only [Option.some.injEq] at hy
      subst hy
      simp [e]
    · rename_i e
      simp only [e, if_false]
      exact h3 i y hy
theorem Rel.agrees {N : Nat} {D : List Deferred} {s : St} {a : Act} (h : Rel N D s a) (xs : List Operand) : Agrees s a.eval xs := by
  intro x _ y hy
  cases x with
  | tmp t => exact h.2.2 t y hy
  | const v => simp only [look, Option.some.injEq] at hy; subst hy; rfl
  | global g => simp only [look, Option.some.injEq] at hy; subst hy; rfl
  | func f => simp only [look, Option.some.injEq] at hy; subst hy; rfl
theorem Sat.put {s : St} (h : Sat s) {d : Option Tmp} {x : SV} (hx : wfV s.chs x) : Sat (putS s d x) := by
  refine ⟨h.cell, h.keys, h.lt, h.apart, fun i b j o he => ?_, h.wfC⟩
  cases d with
  | none => exact h.wfE i b j o he
  | some d =>
    simp only [putS, putE, lk_cons] at he
    split at he
    · simp only [Option.some.injEq] at he; exact hx b j o he
    · exact h.wfE i b j o he
theorem undef_val : (SV.v undef).val = undef := rfl
theorem dstOk_lt {N : Nat} {o : Oper} (h : dstOk N o = true) : ∀ t, o.dst = some t → t < N := by
  intro t ht
  unfold dstOk at h
  rw [ht] at h
  exact natBlt h

/-! ### Guards -/
def sameSt (s s1 : St) : Prop := s1.chs = s.chs ∧ s1.w = s.w ∧ ∀ i, (lk s1.env i).map SV.val = (lk s.env i).map SV.val ∧ ∀ b j o, lk s1.env i = some (.p b j o) → lk s.env i = some (.p b j o)
theorem sameSt.refl (s : St) : sameSt s s := ⟨rfl, rfl, fun i => ⟨rfl, fun _ _ _ h => h⟩⟩
theorem sameSt.refine {s : St} {d : Nat} {g : Bool} (h : lk s.env d = some (.v (.bool g))) : sameSt s { s with env := (d, .v (.bool g)) :: s.env } := by
  refine ⟨rfl, rfl, fun i => ?_⟩
  simp only [lk_cons]
  by_cases hi : d = i
  · subst hi
    simp [h]
  · simp [hi]
theorem Rel.same {N : Nat} {D : List Deferred} {s s1 : St} {a : Act} (h : Rel N D s a) (hs : sameSt s s1) : Rel N D s1 a := by
  refine ⟨h.1, h.2.1, fun i x hx => ?_⟩
  have := (hs.2.2 i).1
  rw [hx] at this
  cases h2 : lk s.env i with
  | none => rw [h2] at this; cases this
  | some y =>
    rw [h2] at this
    simp only [Option.map_some, Option.some.injEq] at this
    rw [this]
    exact h.2.2 i y h2
theorem Sat.same {s s1 : St} (h : Sat s) (hs : sameSt s s1) : Sat s1 := by
  obtain ⟨h1, h2, h3⟩ := hs
  refine ⟨?_, ?_, ?_, ?_, ?_, ?_⟩
  · rw [h1, h2]; exact h.cell
  · rw [h1]; exact h.keys
  · rw [h1, h2]; exact h.lt
  · rw [h1]; exact h.apart
  · intro i b j o he
    rw [h1]
    exact h.wfE i b j o ((h3 i).2 b j o he)
  · rw [h1]; exact h.wfC
theorem guardC_sound {arr : Array Oper} {o : Oper} {s : St} {run skip : St → Prop} (h : guardC arr.toList o s run skip) :
    ∃ s1, sameSt s s1 ∧ ((run s1 ∧ ∀ tmps : Array Value, (∀ g d, o.guard = some g → gslot arr.toList g.1 = some d → ∀ x, lk s.env d = some x → tmps.getD d undef = x.val) → Region.wanted o (yielded arr tmps) = true) ∨
      (skip s1 ∧ ∀ tmps : Array Value, (∀ g d, o.guard = some g → gslot arr.toList g.1 = some d → ∀ x, lk s.env d = some x → tmps.getD d undef = x.val) → Region.wanted o (yielded arr tmps) = false)) := by
  unfold guardC at h
  split at h
  · rename_i hg
    exact ⟨s, .refl s, .inl ⟨h, fun _ _ => by simp [Region.wanted, hg]⟩⟩
  · rename_i j want hg
    split at h
    · exact h.elim
    · rename_i d hd
      have hslot : (arr[j]?).bind (·.dst) = some d := by
        unfold gslot at hd
        rw [nth_eq] at hd
        simp only [Array.getElem?_toList] at hd
        cases hj : arr[j]? with
        | none => rw [hj] at hd; cases hd
        | some o' => rw [hj] at hd; simpa using hd
      have hy : ∀ (tmps : Array Value) (v : Value), v ≠ undef → tmps.getD d undef = v → tmps[d]? = some v := by
        intro tmps v hv h
        rw [Array.getD_eq_getD_getElem?] at h
        cases ht : tmps[d]? with
        | none => rw [ht] at h; exact absurd h.symm hv
        | some u => rw [ht] at h; simp only [Option.getD_some] at h; rw [h]
      have hb : ∀ (tmps : Array Value) (g : Bool), tmps.getD d undef = .bool g → Region.wanted o (yielded arr tmps) = (g == want) := by
        intro tmps g h
        have := hy tmps (.bool g) (by simp [undef]) h
        simp only [Region.wanted, hg, yielded, hslot, Option.bind_some, this]
        cases g <;> cases want <;> rfl
      split at h
      · rename_i g hl
        have hr := sameSt.refine hl
        have hw : ∀ tmps : Array Value, (∀ g d, o.guard = some g → gslot arr.toList g.1 = some d → ∀ x, lk s.env d = some x → tmps.getD d undef = x.val) → tmps.getD d undef = .bool g := by
          intro tmps ht
          exact ht (j, want) d hg hd _ hl
        cases g <;> cases want <;> simp only [cond_true, cond_false] at h
        · exact ⟨_, hr, .inl ⟨h, fun tmps ht => by rw [hb tmps _ (hw tmps ht)]; rfl⟩⟩
        · exact ⟨_, hr, .inr ⟨h, fun tmps ht => by rw [hb tmps _ (hw tmps ht)]; rfl⟩⟩
        · exact ⟨_, hr, .inr ⟨h, fun tmps ht => by rw [hb tmps _ (hw tmps ht)]; rfl⟩⟩
        · exact ⟨_, hr, .inl ⟨h, fun tmps ht => by rw [hb tmps _ (hw tmps ht)]; rfl⟩⟩
      · rename_i ts hl
        refine ⟨s, .refl s, .inr ⟨h, fun tmps ht => ?_⟩⟩
        have h1 : tmps.getD d undef = .tuple ts := ht (j, want) d hg hd _ hl
        simp only [Region.wanted, hg, yielded, hslot, Option.bind_some]
        rw [Array.getD_eq_getD_getElem?] at h1
        cases h2 : tmps[d]? with
        | none => simp
        | some u =>
          rw [h2] at h1
          simp only [Option.getD_some] at h1
          subst h1
          simp
      · exact h.elim

theorem Ev.refl (W : Nat → Prop) (s : St) (a : Act) : Ev W s a s a := ⟨Evo.refl _, fun _ _ => rfl⟩
theorem Ev.trans {W : Nat → Prop} {a b c : St} {x y z : Act} (h : Ev W a x b y) (k : Ev W b y c z) : Ev W a x c z := ⟨h.1.trans k.1, fun i hi => (k.2 i hi).trans (h.2 i hi)⟩
theorem Ev.mono {W W' : Nat → Prop} {a b : St} {x y : Act} (h : Ev W a x b y) (hw : ∀ i, W i → W' i) : Ev W' a x b y := ⟨h.1, fun i hi => h.2 i fun h' => hi (hw i h')⟩
theorem Fr.put {W : Nat → Prop} {a0 a : Act} {d : Option Tmp} {v : Value} (h : Fr W a0 a) (hw : ∀ t, d = some t → W t) : Fr W a0 (a.put d v) := by
  intro i hi
  cases d with
  | none => exact h i hi
  | some d =>
    rw [← h i hi]
    have hne : ¬ d = i := fun e => hi (by rw [← e]; exact hw d rfl)
    simp [Act.put, Array.getD_eq_getD_getElem?, Array.getElem?_setIfInBounds, hne]
theorem Ev.same {W : Nat → Prop} {s0 s s1 : St} {a0 a : Act} (h : Ev W s0 a0 s a) (k : sameSt s s1) : Ev W s0 a0 s1 a := ⟨by rw [k.1]; exact h.1, h.2⟩
theorem Ev.ext {W : Nat → Prop} {s0 s s1 : St} {a0 a : Act} (h : Ev W s0 a0 s a) (k : Evo s.chs s1.chs) : Ev W s0 a0 s1 a := ⟨h.1.trans k, h.2⟩
theorem Ev.put {W : Nat → Prop} {s0 s : St} {a0 a : Act} {d : Option Tmp} {x : SV} {v : Value} (h : Ev W s0 a0 s a) (hw : ∀ t, d = some t → W t) : Ev W s0 a0 (putS s d x) (a.put d v) := ⟨h.1, h.2.put hw⟩

/-! ### One operation within the machine -/
theorem fenceR_fn (r : Option Nat) (f : FuncId) : (fenceR r).fn f := trivial
theorem wpIn_of_out {P : Program} {r : Option Nat} {o : Oper} {s : St} {a : Act} {K : SV → St → Prop} {next : Act → World → Prop} {Q : Exit → Act → World → Prop} (hp : plainOp o = true)
    (h : Out P ((execOp a.eval o).run P s.w) s K) (hn : ∀ x s', K x s' → Ext s s' → wfV s'.chs x → next (a.put o.dst x.val) s'.w) : o.wpIn (fenceR r) 0 P a s.w next Q := by
  refine ⟨fun f _ => fenceR_fn r f, ?_⟩
  rw [Oper.semAt_eq _ _ _ (fun c hc => by simp [plainOp, hc] at hp)]
  cases h with
  | value x s' h he hw hK => rw [h]; exact hn x s' hK he hw
  | skip s' h he hK => rw [h]; exact hn (.v undef) s' hK he (wfV_v _ _)
  | enter f args h hc =>
    rw [h]
    refine ⟨fun h => by simp [fenceR, Fence.wide] at h, ?_⟩
    have : CallsIn Fence.wide 0 P f args s.w (fun
      | .returned v, w'' => next (a.put o.dst v) w''
      | .panicked chain, w'' => Q (.panic chain) a w''
      | .outgrown, _ => LetsOut Q) := callsIn_wide.2 (Calls.mono hc fun e w' ⟨v, he, x, s', hv, hw', hE, hwf, hK⟩ => by
        subst he; subst hv; subst hw'
        exact hn x s' hK hE hwf)
    exact this
  | round l fn tmps assign body h hc =>
    rw [h]
    refine ⟨fun h => by simp [fenceR, Fence.wide] at h, ?_⟩
    have : RoundIn Fence.wide 0 P l fn tmps assign body s.w (fun
      | .returned v, w'' => next (a.put o.dst v) w''
      | .panicked chain, w'' => Q (.panic chain) a w''
      | .outgrown, _ => LetsOut Q) := hc.mono fun e w' ⟨v, he, x, s', hv, hw', hE, hwf, hK⟩ => by
        subst he; subst hv; subst hw'
        exact hn x s' hK hE hwf
    exact this

abbrev noNG (P : Program) : Prop := P.funcs.toList.all (fun fn => !(fn.name == "runtime.NumGoroutine")) = true
theorem vcOp_out {P : Program} {o : Oper} {s : St} {K : SV → St → Prop} (hng : noNG P) (hs : Sat s) (h : vcOp P o s K) {ρ : Operand → Value} (hρ : Agrees s ρ o.op.operands.toList) : Out P ((execOp ρ o).run P s.w) s K := by
  unfold vcOp at h
  rcases cond_true' h with ⟨hY, h⟩ | ⟨_, h⟩
  · obtain ⟨x, e, G, hK, hw, hG, hr⟩ := yC_sound hs h hY
    exact .value x { s with esc := e } (hr s.w hG ρ hρ) ⟨rfl, hs.esc e, Evo.refl _⟩ hw hK
  · exact eC_sound hng hs h hρ

theorem vcOps_sound {P : Program} {r : Option Nat} {N : Nat} {D : List Deferred} {arr : Array Oper} {K : St → Prop} {Q : Exit → Act → World → Prop} {s0 : St} {a0 : Act} {W : Nat → Prop} (hng : noNG P) (hQ : ∀ s a, Ev W s0 a0 s a → Rel N D s a → Sat s → K s → Q .normal a s.w) :
    ∀ (l : List Oper) (s : St) (a : Act), (∀ o ∈ l, ∀ d, o.dst = some d → W d) → Ev W s0 a0 s a → Rel N D s a → Sat s → vcOps P N arr.toList l s K → wpListIn (fenceR r) 0 P arr Q l a s.w
  | [], s, a, _, hev, hr, hs, h => hQ s a hev hr hs h
  | o :: l, s, a, hW, hev, hr, hs, h => by
    simp only [vcOps] at h
    obtain ⟨hc, h⟩ := cond_ok h
    rw [Bool.and_eq_true] at hc
    have hd := dstOk_lt hc.1
    unfold wpListIn
    obtain ⟨s1, h1, h2⟩ := guardC_sound h
    have hr1 := hr.same h1
    have hs1 := hs.same h1
    have hw1 : s1.w = s.w := h1.2.1
    have htm : ∀ g d, o.guard = some g → gslot arr.toList g.1 = some d → ∀ x, lk s.env d = some x → a.tmps.getD d undef = x.val := fun _ _ _ _ x hx => hr.2.2 _ x hx
    rcases h2 with ⟨hrun, hw⟩ | ⟨hskip, hw⟩
    · rw [if_pos (hw a.tmps htm), ← hw1]
      refine wpIn_of_out hc.2 (vcOp_out hng hs1 hrun (hr1.agrees _)) fun x s' hK hE hwf => ?_
      have := vcOps_sound (r := r) hng hQ l (putS s' o.dst x) (a.put o.dst x.val) (fun o' ho' => hW o' (List.mem_cons_of_mem _ ho')) (((hev.same h1).ext hE.evo).put (hW o (by simp))) (hr1.put hE.env hd) (hE.sat.put hwf) hK
      exact this
    · rw [if_neg (by rw [hw a.tmps htm]; simp), ← hw1]
      refine ⟨fun f _ => fenceR_fn r f, ?_⟩
      have := vcOps_sound (r := r) hng hQ l (putS s1 o.dst (.v undef)) (a.put o.dst undef) (fun o' ho' => hW o' (List.mem_cons_of_mem _ ho')) ((hev.same h1).put (hW o (by simp))) (hr1.put (x := .v undef) rfl hd) (hs1.put (wfV_v _ _)) hskip
      exact this

end Go.SX
set_option linter.unusedSimpArgs false
set_option linter.unusedVariables false
namespace Go.SX
open Go

/-! ### Bits, edges -/
theorem bitOf_eq (m i : Nat) : bitOf m i = m.testBit i := by
  unfold bitOf
  rw [Nat.testBit_eq_decide_div_mod_eq, Nat.shiftRight_eq_div_pow]
  cases h : Nat.beq (m / 2 ^ i % 2) 1 with
  | true => simp [natBeq h]
  | false => simp [natBeq_false h]
theorem bitOf_or (m k i : Nat) : bitOf (m ||| 2 ^ k) i = (bitOf m i || decide (k = i)) := by
  simp only [bitOf_eq, Nat.testBit_or, Nat.testBit_two_pow]
theorem binds_eq (e : Edge) : Region.binds .any e = bindsAny e := by
  unfold Region.binds bindsAny
  cases e.ground <;> rfl
theorem mask_foldl (l : List Edge) : ∀ (m i : Nat), bitOf (l.foldl (fun m e => cond (bindsAny e) (m ||| 2 ^ e.on) m) m) i = (bitOf m i || l.any fun e => bindsAny e && decide (e.on = i)) := by
  induction l with
  | nil => intro m i; simp
  | cons e r ih =>
    intro m i
    simp only [List.foldl_cons, ih, List.any_cons]
    cases bindsAny e
    · simp
    · simp [bitOf_or, Bool.or_assoc]
theorem maskOf_bit (o : Oper) (i : Nat) : bitOf (maskOf o) i = true ↔ ∃ e ∈ o.after, bindsAny e = true ∧ e.on = i := by
  unfold maskOf
  rw [mask_foldl]
  have h0 : bitOf 0 i = false := by rw [bitOf_eq]; simp
  rw [h0, Bool.false_or, List.any_eq_true]
  constructor
  · rintro ⟨e, he, h⟩
    simp only [Bool.and_eq_true, decide_eq_true_eq] at h
    exact ⟨e, by simpa using he, h.1, h.2⟩
  · rintro ⟨e, he, h1, h2⟩
    exact ⟨e, by simpa using he, by simp [h1, h2]⟩
theorem land_mask {m d : Nat} : Nat.beq (Nat.land m d) m = true ↔ ∀ i, bitOf m i = true → bitOf d i = true := by
  constructor
  · intro h i hi
    have h := natBeq h
    have : (m &&& d).testBit i = m.testBit i := by rw [show m &&& d = Nat.land m d from rfl, h]
    rw [Nat.testBit_and] at this
    rw [bitOf_eq] at hi ⊢
    rw [hi] at this
    simpa using this
  · intro h
    have : Nat.land m d = m := by
      apply Nat.eq_of_testBit_eq
      intro i
      show (m &&& d).testBit i = _
      rw [Nat.testBit_and]
      cases hm : m.testBit i with
      | false => rfl
      | true => have := h i (by rw [bitOf_eq]; exact hm); rw [bitOf_eq] at this; simp [this]
    rw [this]
    exact Nat.beq_refl m
theorem rdy_mem {ops : List Oper} {D : Nat} : ∀ {l : List Oper} {i k : Nat}, k ∈ rdy i l D ↔ ∃ o, i ≤ k ∧ nth l (k - i) = some o ∧ bitOf D k = false ∧ ∀ j, bitOf (maskOf o) j = true → bitOf D j = true
  | [], i, k => by simp [rdy, nth]
  | o :: r, i, k => by
    have ih := rdy_mem (ops := ops) (D := D) (l := r) (i := i + 1) (k := k)
    have hrest : (∃ o', i + 1 ≤ k ∧ nth r (k - (i + 1)) = some o' ∧ bitOf D k = false ∧ ∀ j, bitOf (maskOf o') j = true → bitOf D j = true) ↔
        (∃ o', i ≤ k ∧ k ≠ i ∧ nth (o :: r) (k - i) = some o' ∧ bitOf D k = false ∧ ∀ j, bitOf (maskOf o') j = true → bitOf D j = true) := by
      constructor
      · rintro ⟨o', h1, h2, h3⟩
        refine ⟨o', by omega, by omega, ?_, h3⟩
        rw [show k - i = (k - (i + 1)) + 1 by omega]; exact h2
      · rintro ⟨o', h1, h2, h3, h4⟩
        refine ⟨o', by omega, ?_, h4⟩
        rw [show k - i = (k - (i + 1)) + 1 by omega] at h3; exact h3
    unfold rdy
    cases hc : (!bitOf D i && Nat.beq (Nat.land (maskOf o) D) (maskOf o)) with
    | true =>
      rw [Bool.and_eq_true, land_mask] at hc
      simp only [cond_true, List.mem_cons, ih, hrest]
      constructor
      · rintro (rfl | ⟨o', h1, h2, h3⟩)
        · exact ⟨o, Nat.le_refl _, by simp [nth], by simpa using hc.1, hc.2⟩
        · exact ⟨o', h1, h3⟩
      · rintro ⟨o', h1, h2⟩
        by_cases hk : k = i
        · exact .inl hk
        · exact .inr ⟨o', h1, hk, h2⟩
    | false =>
      simp only [cond_false, ih, hrest]
      constructor
      · rintro ⟨o', h1, _, h3⟩; exact ⟨o', h1, h3⟩
      · rintro ⟨o', h1, h2, h3, h4⟩
        refine ⟨o', h1, ?_, h2, h3, h4⟩
        rintro rfl
        simp only [Nat.sub_self, nth, Option.some.injEq] at h2
        subst h2
        have : (!bitOf D k && Nat.beq (Nat.land (maskOf o) D) (maskOf o)) = true := by
          rw [Bool.and_eq_true, land_mask]
          exact ⟨by simp [h3], h4⟩
        rw [this] at hc; cases hc

/-- A set of operations that is closed under what they wait for. -/
def Closed (ops : List Oper) (L : Nat → Prop) : Prop := ∀ i o, nth ops i = some o → L i → ∀ e ∈ o.after, bindsAny e = true → L e.on
theorem pre_foldl (acc : List Nat) (l : List Edge) : ∀ (m k : Nat), bitOf (l.foldl (fun m e => cond (bindsAny e) (m ||| 2 ^ e.on ||| (match nth acc e.on with | some q => q | none => 0)) m) m) k = true →
    bitOf m k = true ∨ ∃ e ∈ l, bindsAny e = true ∧ (e.on = k ∨ ∃ q, nth acc e.on = some q ∧ bitOf q k = true) := by
  induction l with
  | nil => intro m k h; exact .inl h
  | cons e r ih =>
    intro m k h
    simp only [List.foldl_cons] at h
    rcases ih _ _ h with h | ⟨e', he', hb, h⟩
    · cases hb : bindsAny e with
      | false => rw [hb] at h; exact .inl h
      | true =>
        rw [hb] at h
        simp only [cond_true, bitOf_eq, Nat.testBit_or, Nat.testBit_two_pow, Bool.or_eq_true, decide_eq_true_eq] at h
        rcases h with (h | h) | h
        · exact .inl (by rw [bitOf_eq]; exact h)
        · exact .inr ⟨e, by simp, hb, .inl h⟩
        · cases hq : nth acc e.on with
          | none => rw [hq] at h; simp at h
          | some q => rw [hq] at h; exact .inr ⟨e, by simp, hb, .inr ⟨q, hq, by rw [bitOf_eq]; exact h⟩⟩
    · exact .inr ⟨e', List.mem_cons_of_mem _ he', hb, h⟩
theorem preGo_closed {ops : List Oper} {L : Nat → Prop} (hL : Closed ops L) : ∀ (l : List Oper) (acc : List Nat), (∀ i, nth l i = nth ops (acc.length + i)) → 
    (∀ i q, nth acc i = some q → L i → ∀ k, bitOf q k = true → L k) → ∀ i q, nth (preGo l acc) i = some q → L i → ∀ k, bitOf q k = true → L k
  | [], acc, _, h => h
  | o :: r, acc, hl, h => by
    unfold preGo
    refine preGo_closed hL r _ (fun i => ?_) (fun i q hq hi k hk => ?_)
    · have := hl (i + 1)
      simp only [nth] at this
      rw [this]
      simp only [List.length_append, List.length_singleton]
      congr 1; omega
    · rw [nth_append] at hq
      split at hq
      · exact h i q hq hi k hk
      · rename_i hlt
        have hi0 : i - acc.length = 0 := by
          rcases Nat.eq_zero_or_pos (i - acc.length) with h0 | h0
          · exact h0
          · obtain ⟨m, hm⟩ : ∃ m, i - acc.length = m + 1 := ⟨i - acc.length - 1, by omega⟩
            rw [hm] at hq; simp [nth] at hq
        rw [hi0] at hq
        simp only [nth, Option.some.injEq] at hq
        subst hq
        have hio : i = acc.length := by omega
        subst hio
        have ho : nth ops acc.length = some o := by have := hl 0; simp only [nth, Nat.add_zero] at this; exact this.symm
        rcases pre_foldl acc _ _ _ hk with h0 | ⟨e, he, hb, h1⟩
        · rw [bitOf_eq] at h0; simp at h0
        · have hLe := hL acc.length o ho hi e (by simpa using he) hb
          rcases h1 with rfl | ⟨q, hq, hqk⟩
          · exact hLe
          · exact h e.on q hq hLe k hqk
theorem preAt_closed {ops : List Oper} {L : Nat → Prop} (hL : Closed ops L) {i k : Nat} (hi : L i) (h : bitOf (preAt (preOf ops) i) k = true) : L k := by
  unfold preAt at h
  cases hq : nth (preOf ops) i with
  | none => rw [hq] at h; rw [bitOf_eq] at h; simp at h
  | some q =>
    rw [hq] at h
    exact preGo_closed hL ops [] (fun i => by simp) (fun i q hq => by simp [nth] at hq) i q hq hi k h
/-- What an operation that may come waits for is there. -/
theorem preAt_ready {ops : List Oper} {L : Nat → Prop} (hL : Closed ops L) {i k : Nat} {o : Oper} (ho : nth ops i = some o) (hr : ∀ e ∈ o.after, bindsAny e = true → L e.on) (h : bitOf (preAt (preOf ops) i) k = true) : k = i ∨ L k := by
  have hL' : Closed ops (fun j => j = i ∨ L j) := by
    intro j oj hj hLj e he hb
    rcases hLj with rfl | hLj
    · have : oj = o := Option.some.inj (hj.symm.trans ho)
      subst this
      exact .inr (hr e he hb)
    · exact .inr (hL j oj hj hLj e he hb)
  exact preAt_closed hL' (.inl rfl) h

theorem edgesOk_lt : ∀ {l : List Oper} {i : Nat}, edgesOk i l = true → ∀ k o, nth l k = some o → ∀ e ∈ o.after, bindsAny e = true → e.on < i + k
  | [], i, _, k, o, hk => by cases k <;> simp [nth] at hk
  | a :: r, i, h, k, o, hk => by
    simp only [edgesOk, Bool.and_eq_true] at h
    intro e he hb
    cases k with
    | zero =>
      simp only [nth, Option.some.injEq] at hk
      subst hk
      have := List.all_eq_true.1 h.1 e (by simpa using he)
      rw [hb] at this
      simp only [Bool.not_true, Bool.false_or] at this
      have := natBlt this
      omega
    | succ k =>
      have := edgesOk_lt h.2 k o hk e he hb
      omega
theorem slotOk_spec {ops : List Oper} {pres : List Nat} {j d : Nat} : ∀ {l : List Oper} {i : Nat}, slotOk ops pres j d i l = true → ∀ k o, nth l k = some o → i + k ≠ j → (d ∈ looksC ops o → ordB pres (i + k) j = true) ∧ o.dst ≠ some d
  | [], i, _, k, o, hk => by cases k <;> simp [nth] at hk
  | a :: r, i, h, k, o, hk => by
    intro hne
    simp only [slotOk, Bool.and_eq_true] at h
    cases k with
    | zero =>
      simp only [nth, Option.some.injEq] at hk
      subst hk
      simp only [Nat.add_zero] at hne ⊢
      have h1 := h.1
      have hij : Nat.beq i j = false := by
        cases hb : Nat.beq i j with
        | false => rfl
        | true => exact absurd (natBeq hb) hne
      simp only [hij, Bool.false_or, Bool.and_eq_true, Bool.or_eq_true] at h1
      refine ⟨fun hm => ?_, fun hd => ?_⟩
      · rcases h1.1 with h2 | h2
        · rw [(memN_iff d _).2 hm] at h2; cases h2
        · exact h2
      · have h2 := h1.2
        rw [hd] at h2
        simp only [Bool.not_eq_true'] at h2
        exact natBeq_false h2 rfl
    | succ k =>
      have := slotOk_spec h.2 k o hk (by omega)
      rw [show i + (k + 1) = i + 1 + k by omega]
      exact this
theorem slotsOk_spec {ops : List Oper} {pres : List Nat} : ∀ {l : List Oper} {j : Nat}, slotsOk ops pres j l = true → ∀ k o d, nth l k = some o → o.dst = some d → slotOk ops pres (j + k) d 0 ops = true
  | [], j, _, k, o, d, hk => by cases k <;> simp [nth] at hk
  | a :: r, j, h, k, o, d, hk => by
    intro hd
    simp only [slotsOk, Bool.and_eq_true] at h
    cases k with
    | zero =>
      simp only [nth, Option.some.injEq] at hk
      subst hk
      have h1 := h.1
      rw [hd] at h1
      exact h1
    | succ k =>
      have := slotsOk_spec h.2 k o d hk hd
      rw [show j + (k + 1) = j + 1 + k by omega]
      exact this
structure RegOk (N : Nat) (ops : List Oper) : Prop where
  edge : ∀ k o, nth ops k = some o → ∀ e ∈ o.after, bindsAny e = true → e.on < k
  slot : ∀ j oj d, nth ops j = some oj → oj.dst = some d → ∀ i oi, nth ops i = some oi → i ≠ j → (d ∈ looksC ops oi → bitOf (preAt (preOf ops) i) j = true ∨ bitOf (preAt (preOf ops) j) i = true) ∧ oi.dst ≠ some d
  plain : ∀ k o, nth ops k = some o → dstOk N o = true ∧ plainOp o = true
theorem regOk_spec {N : Nat} {ops : List Oper} (h : regOk N ops (preOf ops) = true) : RegOk N ops := by
  simp only [regOk, Bool.and_eq_true] at h
  refine ⟨fun k o hk e he hb => ?_, fun j oj d hj hd i oi hi hne => ?_, fun k o hk => ?_⟩
  · have := edgesOk_lt h.1.1 k o hk e he hb; omega
  · have h1 := slotsOk_spec h.1.2 j oj d hj hd
    rw [Nat.zero_add] at h1
    have h2 := slotOk_spec h1 i oi hi (by omega)
    rw [Nat.zero_add] at h2
    refine ⟨fun hm => ?_, h2.2⟩
    have := h2.1 hm
    simpa [ordB] using this
  · have hm : o ∈ ops := by rw [nth_eq] at hk; exact List.mem_of_getElem? hk
    have := List.all_eq_true.1 h.2 o hm
    simpa using this

end Go.SX
set_option linter.unusedSimpArgs false
set_option linter.unusedVariables false
namespace Go.SX
open Go

def isL (listed : Array Bool) (i : Nat) : Prop := listed.getD i false = true
def lagB (arr : Array Oper) (D : Nat) (listed : Array Bool) (u : Nat) : Prop := bitOf D u = true ∧ ¬ isL listed u ∧ u < arr.size
structure Lag (P : Program) (arr : Array Oper) (D : Nat) (pend : Pend) (s : St) (listed : Array Bool) (a : Act) (val : Nat → Value) (u : Nat) (o : Oper) : Prop where
  dst : ∀ d, o.dst = some d → ∃ x, lk s.env d = some x ∧ x.val = val u
  more : ∃ (rec : Nat → Option Value) (G : Option (World → Prop)),
    (∀ t ∈ looksC arr.toList o, ∀ y, rec t = some y →
      (∀ z oz, lagB arr D listed z → z ≠ u → nth arr.toList z = some oz → oz.dst = some t → bitOf (preAt (preOf arr.toList) u) z = true → val z = y) ∧
      ((∃ z oz, lagB arr D listed z ∧ z ≠ u ∧ nth arr.toList z = some oz ∧ oz.dst = some t ∧ bitOf (preAt (preOf arr.toList) u) z = true) ∨ a.tmps.getD t undef = y)) ∧
    (∀ a' : Act, (∀ t ∈ looksC arr.toList o, ∀ y, rec t = some y → a'.tmps.getD t undef = y) →
      (Region.wanted o (yielded arr a'.tmps) = true ∧ ∀ w, GP G w → (execOp a'.eval o).run P w = .ok (.value (val u)) w) ∨ (Region.wanted o (yielded arr a'.tmps) = false ∧ val u = undef)) ∧
    GP G s.w ∧ ∀ g, G = some g → (u, g) ∈ pend
structure Inv (P : Program) (N : Nat) (Df : List Deferred) (arr : Array Oper) (D : Nat) (pend : Pend) (s : St) (listed : Array Bool) (a : Act) (val : Nat → Value) : Prop where
  sat : Sat s
  size : listed.size = arr.size
  sub : ∀ i, isL listed i → bitOf D i = true
  cL : Closed arr.toList (isL listed)
  cD : Closed arr.toList (fun i => bitOf D i = true)
  tsize : a.tmps.size = N
  defs : a.defers = Df
  frame : ∀ t x, lk s.env t = some x → (∃ u o, lagB arr D listed u ∧ nth arr.toList u = some o ∧ o.dst = some t) ∨ a.tmps.getD t undef = x.val
  lags : ∀ u o, lagB arr D listed u → nth arr.toList u = some o → Lag P arr D pend s listed a val u o

theorem isL_set {listed : Array Bool} {u i : Nat} (hu : u < listed.size) : isL (listed.setIfInBounds u true) i ↔ i = u ∨ isL listed i := by
  unfold isL
  simp only [Array.getD_eq_getD_getElem?, Array.getElem?_setIfInBounds]
  by_cases h : u = i
  · subst h; simp [hu]
  · have : ¬ i = u := fun e => h e.symm
    simp [h, this]
theorem unlisted {listed : Array Bool} {i : Nat} (h : listed.getD i true = false) : i < listed.size ∧ ¬ isL listed i := by
  rcases Nat.lt_or_ge i listed.size with h' | h'
  · refine ⟨h', fun hl => ?_⟩
    unfold isL at hl
    simp [h'] at h hl
    rw [h] at hl; cases hl
  · simp [Array.getElem?_eq_none h'] at h
theorem ready_spec {arr : Array Oper} {listed : Array Bool} {i : Nat} (h : i ∈ Region.ready .any arr listed) : i < listed.size ∧ ¬ isL listed i ∧ ∃ o, arr[i]? = some o ∧ nth arr.toList i = some o ∧ ∀ e ∈ o.after, bindsAny e = true → isL listed e.on := by
  obtain ⟨h1, o, ho, hall⟩ := mem_ready.1 h
  obtain ⟨h2, h3⟩ := unlisted h1
  refine ⟨h2, h3, o, ho, by rw [nth_eq]; simpa using ho, fun e he hb => hall e he (by rw [binds_eq]; exact hb)⟩

theorem lag_set {arr : Array Oper} {D : Nat} {listed : Array Bool} {u v : Nat} (hu : u < listed.size) : lagB arr D (listed.setIfInBounds u true) v ↔ lagB arr D listed v ∧ v ≠ u := by
  unfold lagB
  rw [isL_set hu]
  constructor
  · rintro ⟨h1, h2, h3⟩
    exact ⟨⟨h1, fun h => h2 (.inr h), h3⟩, fun h => h2 (.inl h)⟩
  · rintro ⟨⟨h1, h2, h3⟩, h4⟩
    exact ⟨h1, fun h => h.elim h4 h2, h3⟩

/-- A lagging operation comes up. -/
theorem exec_lag {P : Program} {r : Option Nat} {N : Nat} {Df : List Deferred} {arr : Array Oper} {D : Nat} {pend : Pend} {s : St} {listed : Array Bool} {a : Act} {val : Nat → Value} (hok : RegOk N arr.toList)
    (I : Inv P N Df arr D pend s listed a val) {u : Nat} {o : Oper} (hr : u ∈ Region.ready .any arr listed) (ho : nth arr.toList u = some o) (hl : lagB arr D listed u) {Q : Exit → Act → World → Prop} {K : Act → World → Prop}
    (hK : Inv P N Df arr D pend s (listed.setIfInBounds u true) (a.put o.dst (val u)) val → K (a.put o.dst (val u)) s.w) : wpOpIn (fenceR r) 0 P arr Q u K a s.w := by
  obtain ⟨hu, hun, o', ho', ho'', hwait⟩ := ready_spec hr
  have : o' = o := Option.some.inj (ho''.symm.trans ho)
  subst this
  have L := I.lags u o' hl ho
  obtain ⟨rec, G, hslots, hrun, hnow, hpend⟩ := L.more
  have hd := dstOk_lt (hok.plain u o' ho).1
  have hag : ∀ t ∈ looksC arr.toList o', ∀ y, rec t = some y → a.tmps.getD t undef = y := by
    intro t ht y hy
    rcases (hslots t ht y hy).2 with ⟨z, oz, hz, hne, hoz, hdz, hpre⟩ | h
    · rcases preAt_ready I.cL ho hwait hpre with e | h
      · exact absurd e hne
      · exact absurd h hz.2.1
    · exact h
  have hput : ∀ t, (a.put o'.dst (val u)).tmps.getD t undef = if o'.dst = some t then val u else a.tmps.getD t undef := by
    intro t
    cases hdd : o'.dst with
    | none => simp [Act.put]
    | some d =>
      rw [getD_put a d t _ (by rw [I.tsize]; exact hd d hdd)]
      simp
  have I' : Inv P N Df arr D pend s (listed.setIfInBounds u true) (a.put o'.dst (val u)) val := by
    refine ⟨I.sat, by simp [I.size], fun i hi => ?_, ?_, I.cD, by rw [size_put]; exact I.tsize, by rw [defers_put]; exact I.defs, fun t x hx => ?_, fun v ov hv hov => ?_⟩
    · rcases (isL_set hu).1 hi with rfl | hi
      · exact hl.1
      · exact I.sub i hi
    · intro i oi hoi hi e he hb
      rw [isL_set hu] at hi ⊢
      rcases hi with rfl | hi
      · have : oi = o' := Option.some.inj (hoi.symm.trans ho)
        subst this
        exact .inr (hwait e he hb)
      · exact .inr (I.cL i oi hoi hi e he hb)
    · rw [hput]
      by_cases hdt : o'.dst = some t
      · obtain ⟨x', hx', hv⟩ := L.dst t hdt
        have : x' = x := Option.some.inj (hx'.symm.trans hx)
        subst this
        right; rw [if_pos hdt, hv]
      · rw [if_neg hdt]
        rcases I.frame t x hx with ⟨z, oz, hz, hoz, hdz⟩ | h
        · left
          refine ⟨z, oz, (lag_set hu).2 ⟨hz, fun e => ?_⟩, hoz, hdz⟩
          subst e
          have : oz = o' := Option.some.inj (hoz.symm.trans ho)
          subst this
          exact hdt hdz
        · exact .inr h
    · obtain ⟨hv, hvu⟩ := (lag_set hu).1 hv
      have Lv := I.lags v ov hv hov
      obtain ⟨rec2, G2, hs2, hr2, hn2, hp2⟩ := Lv.more
      refine ⟨Lv.dst, rec2, G2, fun t ht y hy => ?_, hr2, hn2, hp2⟩
      obtain ⟨hall, hex⟩ := hs2 t ht y hy
      refine ⟨fun z oz hz hzv hoz hdz hpre => hall z oz ((lag_set hu).1 hz).1 hzv hoz hdz hpre, ?_⟩
      rw [hput]
      by_cases hdt : o'.dst = some t
      · right
        rw [if_pos hdt]
        rcases (hok.slot u o' t ho hdt v ov hov hvu).1 ht with hpre | hpre
        · exact hall u o' hl (fun e => hvu e.symm) ho hdt hpre
        · rcases preAt_ready I.cL ho hwait hpre with e | h
          · exact absurd e hvu
          · exact absurd h hv.2.1
      · rw [if_neg hdt]
        rcases hex with ⟨z, oz, hz, hzv, hoz, hdz, hpre⟩ | h
        · left
          refine ⟨z, oz, (lag_set hu).2 ⟨hz, fun e => ?_⟩, hzv, hoz, hdz, hpre⟩
          subst e
          have : oz = o' := Option.some.inj (hoz.symm.trans ho)
          subst this
          exact hdt hdz
        · exact .inr h
  have hK' := hK I'
  unfold wpOpIn
  simp only [ho']
  rcases hrun a hag with ⟨hw, hr'⟩ | ⟨hw, hv⟩
  · rw [if_pos hw]
    refine ⟨fun f _ => fenceR_fn r f, ?_⟩
    rw [Oper.semAt_eq _ _ _ (fun c hc => by have := (hok.plain u o' ho).2; simp [plainOp, hc] at this), hr' s.w hnow]
    exact hK'
  · rw [if_neg (by rw [hw]; simp)]
    refine ⟨fun f _ => fenceR_fn r f, ?_⟩
    rw [← hv]
    exact hK'

theorem stays_ok {pre : Nat} {w : World} {K : Prop} : ∀ {pend : Pend}, stays pre w pend K → K ∧ ∀ i g, (i, g) ∈ pend → bitOf pre i = true ∨ g w
  | [], h => ⟨h, by simp⟩
  | (i, G) :: r, h => by
    simp only [stays] at h
    rcases cond_true' h with ⟨hb, h⟩ | ⟨_, h⟩
    · obtain ⟨hK, hr⟩ := stays_ok h
      refine ⟨hK, fun j g hm => ?_⟩
      rcases List.mem_cons.1 hm with e | hm
      · cases e; exact .inl hb
      · exact hr j g hm
    · obtain ⟨hK, hr⟩ := stays_ok h.2
      refine ⟨hK, fun j g hm => ?_⟩
      rcases List.mem_cons.1 hm with e | hm
      · cases e; exact .inr h.1
      · exact hr j g hm
theorem sameSt.back {s s1 : St} (h : sameSt s s1) {t : Nat} {x : SV} (hx : lk s1.env t = some x) : ∃ y, lk s.env t = some y ∧ y.val = x.val := by
  have := (h.2.2 t).1
  rw [hx] at this
  cases h2 : lk s.env t with
  | none => rw [h2] at this; cases this
  | some y => rw [h2] at this; simp only [Option.map_some, Option.some.injEq] at this; exact ⟨y, rfl, this.symm⟩
theorem sameSt.forth {s s1 : St} (h : sameSt s s1) {t : Nat} {x : SV} (hx : lk s.env t = some x) : ∃ y, lk s1.env t = some y ∧ y.val = x.val := by
  have := (h.2.2 t).1
  rw [hx] at this
  cases h2 : lk s1.env t with
  | none => rw [h2] at this; cases this
  | some y => rw [h2] at this; simp only [Option.map_some, Option.some.injEq] at this; exact ⟨y, rfl, this⟩
theorem lk_putE {env : List (Nat × SV)} {d : Option Tmp} {x : SV} {t : Nat} : lk (putE env d x) t = if d = some t then some x else lk env t := by
  cases d with
  | none => simp [putE]
  | some d => simp [putE, lk_cons]

/-- An operation that leaves the world alone is planned. -/
theorem plan_y {P : Program} {N : Nat} {Df : List Deferred} {arr : Array Oper} {D : Nat} {pend : Pend} {s : St} {listed : Array Bool} {a : Act} {val : Nat → Value} (hok : RegOk N arr.toList)
    (I : Inv P N Df arr D pend s listed a val) {y : Nat} {o : Oper} (ho : nth arr.toList y = some o) (hD : bitOf D y = false) (hw : ∀ j, bitOf (maskOf o) j = true → bitOf D j = true)
    {s1 : St} (h1 : sameSt s s1) (x : SV) (e : List Nat) (G : Option (World → Prop)) (hwf : wfV s1.chs x) (hG : GP G s1.w)
    (hrun : ∀ a' : Act, (∀ t ∈ looksC arr.toList o, ∀ z, lk s1.env t = some z → a'.tmps.getD t undef = z.val) →
      (Region.wanted o (yielded arr a'.tmps) = true ∧ ∀ w, GP G w → (execOp a'.eval o).run P w = .ok (.value x.val) w) ∨ (Region.wanted o (yielded arr a'.tmps) = false ∧ x.val = undef)) :
    Inv P N Df arr (D ||| 2 ^ y) (addP y G pend) (putS { s1 with esc := e } o.dst x) listed a (fun i => if i = y then x.val else val i) := by
  have hylt : y < arr.size := by have := nth_lt ho; simpa using this
  have hyL : ¬ isL listed y := fun h => by have := I.sub y h; rw [hD] at this; cases this
  have hlag : ∀ v, lagB arr (D ||| 2 ^ y) listed v ↔ lagB arr D listed v ∨ v = y := by
    intro v
    unfold lagB
    rw [bitOf_or]
    constructor
    · rintro ⟨h2, h3, h4⟩
      simp only [Bool.or_eq_true, decide_eq_true_eq] at h2
      rcases h2 with h2 | h2
      · exact .inl ⟨h2, h3, h4⟩
      · exact .inr h2.symm
    · rintro (⟨h2, h3, h4⟩ | rfl)
      · exact ⟨by simp [h2], h3, h4⟩
      · exact ⟨by simp, hyL, hylt⟩
  have hne : ∀ v, lagB arr D listed v → v ≠ y := fun v hv e => by subst e; rw [hv.1] at hD; cases hD
  have hcD : Closed arr.toList (fun i => bitOf (D ||| 2 ^ y) i = true) := by
    intro i oi hoi hi ed he hb
    simp only [bitOf_or, Bool.or_eq_true, decide_eq_true_eq] at hi ⊢
    rcases hi with hi | rfl
    · exact .inl (I.cD i oi hoi hi ed he hb)
    · have : oi = o := Option.some.inj (hoi.symm.trans ho)
      subst this
      exact .inl (hw ed.on ((maskOf_bit oi ed.on).2 ⟨ed, he, hb, rfl⟩))
  have hdst : ∀ v ov d, v ≠ y → nth arr.toList v = some ov → ov.dst = some d → o.dst ≠ some d := fun v ov d hvy hov hd hod =>
    (hok.slot y o d ho hod v ov hov hvy).2 hd
  refine ⟨((I.sat.same h1).esc e).put hwf, I.size, fun i hi => by rw [bitOf_or, I.sub i hi]; rfl, I.cL, hcD, I.tsize, I.defs, fun t z hz => ?_, fun v ov hv hov => ?_⟩
  · simp only [putS, lk_putE] at hz
    split at hz
    · rename_i hd
      exact .inl ⟨y, o, (hlag y).2 (.inr rfl), ho, hd⟩
    · obtain ⟨z0, hz0, hv0⟩ := h1.back hz
      rcases I.frame t z0 hz0 with ⟨u, ou, hu, hou, hdu⟩ | h
      · exact .inl ⟨u, ou, (hlag u).2 (.inl hu), hou, hdu⟩
      · exact .inr (by rw [h, hv0])
  · rcases (hlag v).1 hv with hv | rfl
    · have hvD := hv.1
      have hvy := hne v hv
      have Lv := I.lags v ov hv hov
      obtain ⟨rec2, G2, hs2, hr2, hn2, hp2⟩ := Lv.more
      refine ⟨fun d hd => ?_, rec2, G2, fun t ht yv hy => ?_, ?_, ?_, fun g hg => ?_⟩
      · obtain ⟨x', hx', hv'⟩ := Lv.dst d hd
        obtain ⟨x2, hx2, hv2⟩ := h1.forth hx'
        refine ⟨x2, ?_, ?_⟩
        · simp only [putS, lk_putE, if_neg (hdst v ov d hvy hov hd)]; exact hx2
        · simp only [if_neg hvy]; rw [hv2, hv']
      · obtain ⟨hall, hex⟩ := hs2 t ht yv hy
        refine ⟨fun z oz hz hzv hoz hdz hpre => ?_, ?_⟩
        · rcases (hlag z).1 hz with hz | rfl
          · simp only [if_neg (hne z hz)]; exact hall z oz hz hzv hoz hdz hpre
          · have := preAt_closed I.cD hvD hpre
            rw [hD] at this; cases this
        · rcases hex with ⟨z, oz, hz, h3⟩ | h
          · exact .inl ⟨z, oz, (hlag z).2 (.inl hz), h3⟩
          · exact .inr h
      · simp only [if_neg hvy]; exact hr2
      · show GP G2 s1.w
        rw [h1.2.1]; exact hn2
      · have := hp2 g hg
        unfold addP
        cases G with
        | none => exact this
        | some g' => exact List.mem_cons_of_mem _ this
    · have : ov = o := Option.some.inj (hov.symm.trans ho)
      subst this
      refine ⟨fun d hd => ⟨x, ?_, ?_⟩, fun t => (lk s1.env t).map SV.val, G, fun t ht yv hy => ?_, fun a' ha' => ?_, hG, fun g hg => ?_⟩
      · simp only [putS, lk_putE, if_pos hd]
      · simp
      · replace hy : (lk s1.env t).map SV.val = some yv := hy
        cases hz : lk s1.env t with
        | none => rw [hz] at hy; cases hy
        | some z =>
          rw [hz] at hy
          simp only [Option.map_some, Option.some.injEq] at hy
          subst hy
          obtain ⟨z0, hz0, hv0⟩ := h1.back hz
          have hval : ∀ u ou, lagB arr D listed u → nth arr.toList u = some ou → ou.dst = some t → val u = z.val := by
            intro u ou hu hou hdu
            obtain ⟨x', hx', hvx⟩ := (I.lags u ou hu hou).dst t hdu
            have : x' = z0 := Option.some.inj (hx'.symm.trans hz0)
            subst this
            rw [← hvx, hv0]
          refine ⟨fun u ou hu huy hou hdu hpre => ?_, ?_⟩
          · rcases (hlag u).1 hu with hu | e
            · simp only [if_neg huy]; exact hval u ou hu hou hdu
            · exact absurd e huy
          · rcases I.frame t z0 hz0 with ⟨u, ou, hu, hou, hdu⟩ | h
            · left
              refine ⟨u, ou, (hlag u).2 (.inl hu), hne u hu, hou, hdu, ?_⟩
              rcases (hok.slot u ou t hou hdu v ov ho (fun e => hne u hu e.symm)).1 ht with hpre | hpre
              · exact hpre
              · have := preAt_closed I.cD hu.1 hpre
                rw [hD] at this; cases this
            · exact .inr (by rw [h, hv0])
      · simp only [if_true]
        exact hrun a' fun t ht z hz => ha' t ht z.val (by show (lk s1.env t).map SV.val = _; rw [hz]; rfl)
      · subst hg
        simp [addP]

/-- An operation with an effect comes up, in the plan and in the machine. -/
theorem step_e {P : Program} {N : Nat} {Df : List Deferred} {arr : Array Oper} {D : Nat} {pend : Pend} {s : St} {listed : Array Bool} {a : Act} {val : Nat → Value} (hok : RegOk N arr.toList)
    (I : Inv P N Df arr D pend s listed a val) {i : Nat} {o : Oper} (hr : i ∈ Region.ready .any arr listed) (ho : nth arr.toList i = some o) (hD : bitOf D i = false)
    {s1 s' : St} (h1 : sameSt s s1) (he : s'.env = s1.env) (hsat : Sat s') {x : SV} (hwf : wfV s'.chs x) (hst : ∀ v G, bitOf (preAt (preOf arr.toList) i) v = false → GP G s.w → (∀ g, G = some g → (v, g) ∈ pend) → GP G s'.w) :
    Inv P N Df arr (D ||| 2 ^ i) pend (putS s' o.dst x) (listed.setIfInBounds i true) (a.put o.dst x.val) val := by
  obtain ⟨hu, hun, o', ho', ho'', hwait⟩ := ready_spec hr
  have : o' = o := Option.some.inj (ho''.symm.trans ho)
  subst this
  have hd := dstOk_lt (hok.plain i o' ho).1
  have hlag : ∀ v, lagB arr (D ||| 2 ^ i) (listed.setIfInBounds i true) v ↔ lagB arr D listed v := by
    intro v
    unfold lagB
    rw [isL_set hu, bitOf_or]
    constructor
    · rintro ⟨h2, h3, h4⟩
      simp only [Bool.or_eq_true, decide_eq_true_eq] at h2
      refine ⟨?_, fun h => h3 (.inr h), h4⟩
      rcases h2 with h2 | h2
      · exact h2
      · exact absurd (.inl h2.symm) h3
    · rintro ⟨h2, h3, h4⟩
      refine ⟨by simp [h2], ?_, h4⟩
      rintro (rfl | h)
      · rw [h2] at hD; cases hD
      · exact h3 h
  have hne : ∀ v, lagB arr D listed v → v ≠ i := fun v hv e => by subst e; rw [hv.1] at hD; cases hD
  have hput : ∀ t, (a.put o'.dst x.val).tmps.getD t undef = if o'.dst = some t then x.val else a.tmps.getD t undef := by
    intro t
    cases hdd : o'.dst with
    | none => simp [Act.put]
    | some d =>
      rw [getD_put a d t _ (by rw [I.tsize]; exact hd d hdd)]
      simp
  refine ⟨hsat.put hwf, by simp [I.size], fun j hj => ?_, ?_, ?_, by rw [size_put]; exact I.tsize, by rw [defers_put]; exact I.defs, fun t z hz => ?_, fun v ov hv hov => ?_⟩
  · rw [bitOf_or]
    rcases (isL_set hu).1 hj with rfl | hj
    · simp
    · rw [I.sub j hj]; rfl
  · intro j oj hoj hj e hee hb
    rw [isL_set hu] at hj ⊢
    rcases hj with rfl | hj
    · have : oj = o' := Option.some.inj (hoj.symm.trans ho)
      subst this
      exact .inr (hwait e hee hb)
    · exact .inr (I.cL j oj hoj hj e hee hb)
  · intro j oj hoj hj e hee hb
    simp only [bitOf_or, Bool.or_eq_true, decide_eq_true_eq] at hj ⊢
    rcases hj with hj | rfl
    · exact .inl (I.cD j oj hoj hj e hee hb)
    · have : oj = o' := Option.some.inj (hoj.symm.trans ho)
      subst this
      exact .inl (I.sub _ (hwait e hee hb))
  · simp only [putS, lk_putE] at hz
    rw [hput]
    split at hz
    · rename_i hdt
      simp only [Option.some.injEq] at hz
      subst hz
      right; rw [if_pos hdt]
    · rename_i hdt
      rw [he] at hz
      obtain ⟨z0, hz0, hv0⟩ := h1.back hz
      rw [if_neg hdt]
      rcases I.frame t z0 hz0 with ⟨u, ou, hu', hou, hdu⟩ | h
      · exact .inl ⟨u, ou, (hlag u).2 hu', hou, hdu⟩
      · exact .inr (by rw [h, hv0])
  · have hv := (hlag v).1 hv
    have hvi := hne v hv
    have Lv := I.lags v ov hv hov
    obtain ⟨rec2, G2, hs2, hr2, hn2, hp2⟩ := Lv.more
    have hnv : bitOf (preAt (preOf arr.toList) i) v = true → False := by
      intro hpre
      rcases preAt_ready I.cL ho hwait hpre with e | h
      · exact hvi e
      · exact hv.2.1 h
    refine ⟨fun d hd' => ?_, rec2, G2, fun t ht yv hy => ?_, hr2, ?_, hp2⟩
    · obtain ⟨x', hx', hv'⟩ := Lv.dst d hd'
      obtain ⟨x2, hx2, hv2⟩ := h1.forth hx'
      refine ⟨x2, ?_, by rw [hv2, hv']⟩
      have : ¬ o'.dst = some d := fun hod => (hok.slot i o' d ho hod v ov hov hvi).2 hd'
      simp only [putS, lk_putE, if_neg this, he]; exact hx2
    · obtain ⟨hall, hex⟩ := hs2 t ht yv hy
      refine ⟨fun z oz hz => hall z oz ((hlag z).1 hz), ?_⟩
      have hdt : ¬ o'.dst = some t := by
        intro hdt
        rcases (hok.slot i o' t ho hdt v ov hov hvi).1 ht with hpre | hpre
        · have := preAt_closed I.cD hv.1 hpre
          rw [hD] at this; cases this
        · exact hnv hpre
      rw [hput, if_neg hdt]
      rcases hex with ⟨z, oz, hz, h3⟩ | h
      · exact .inl ⟨z, oz, (hlag z).2 hz, h3⟩
      · exact .inr h
    · show GP G2 s'.w
      refine hst v G2 ?_ hn2 hp2
      cases hb : bitOf (preAt (preOf arr.toList) i) v with
      | false => rfl
      | true => exact (hnv hb).elim

def cntL (listed : Array Bool) (n : Nat) : Nat := ((List.range n).filter fun i => !listed.getD i true).length
theorem cntL_set {listed : Array Bool} {n i : Nat} (hn : listed.size = n) (hi : i < n) (hu : ¬ isL listed i) : cntL (listed.setIfInBounds i true) n < cntL listed n := by
  unfold cntL
  have hui : listed.getD i true = false := by
    unfold isL at hu
    simp [hn, hi] at hu ⊢
    exact hu
  have hsub : ((List.range n).filter fun k => !(listed.setIfInBounds i true).getD k true) = ((List.range n).filter fun k => !listed.getD k true).filter (fun k => decide (k ≠ i)) := by
    rw [List.filter_filter]
    apply List.filter_congr
    intro k hk
    simp only [Array.getD_eq_getD_getElem?, Array.getElem?_setIfInBounds]
    by_cases h : i = k
    · subst h; simp [hn, hi]
    · have : ¬ k = i := fun e => h e.symm
      simp [h, this]
  rw [hsub]
  refine List.length_filter_lt_length_iff_exists.2 ⟨i, ?_, by simp⟩
  rw [List.mem_filter]
  exact ⟨List.mem_range.2 hi, by simp [hui]⟩
/-- Where nothing may come any more, all have come. -/
theorem all_done {arr : Array Oper} {listed : Array Bool} (hN : ∀ k o, nth arr.toList k = some o → ∀ e ∈ o.after, bindsAny e = true → e.on < k) (hs : listed.size = arr.size) (h : Region.ready .any arr listed = []) : ∀ i, i < arr.size → isL listed i := by
  intro i
  induction i using Nat.strongRecOn with
  | _ i ih =>
    intro hi
    rcases Classical.em (isL listed i) with hl | hl
    · exact hl
    · exfalso
      have hget : arr[i]? = some arr[i] := Array.getElem?_eq_getElem hi
      have hm : i ∈ Region.ready .any arr listed := by
        refine mem_ready.2 ⟨?_, arr[i], hget, fun e he hb => ?_⟩
        · unfold isL at hl
          simp [hs, hi] at hl ⊢
          exact hl
        · have hlt := hN i arr[i] (by rw [nth_eq]; simp [hi]) e he (by rw [← binds_eq]; exact hb)
          exact ih e.on hlt (by omega)
      rw [h] at hm
      cases hm
theorem allN_mem {l : List Nat} {K : Nat → Prop} (h : allN l K) : ∀ i ∈ l, K i := by
  induction l with
  | nil => intro i hi; cases hi
  | cons x r ih =>
    intro i hi
    cases r with
    | nil =>
      have : i = x := by simpa using hi
      subst this; exact h
    | cons y r =>
      rcases List.mem_cons.1 hi with rfl | hi
      · exact h.1
      · exact ih h.2 i hi
theorem findY_some {P : Program} {ops : List Oper} : ∀ {l : List Nat} {y : Nat}, findY P ops l = some y → y ∈ l ∧ ∃ o, nth ops y = some o ∧ isY P o = true
  | [], y, h => by cases h
  | i :: r, y, h => by
    unfold findY at h
    split at h
    · rename_i o ho
      cases hY : isY P o with
      | true => rw [hY] at h; simp only [cond_true, Option.some.injEq] at h; subst h; exact ⟨by simp, o, ho, hY⟩
      | false =>
        rw [hY] at h
        obtain ⟨h1, h2⟩ := findY_some (l := r) h
        exact ⟨List.mem_cons_of_mem _ h1, h2⟩
    · obtain ⟨h1, h2⟩ := findY_some (l := r) h
      exact ⟨List.mem_cons_of_mem _ h1, h2⟩
theorem findY_none {P : Program} {ops : List Oper} : ∀ {l : List Nat}, findY P ops l = none → ∀ i ∈ l, ∀ o, nth ops i = some o → isY P o = false
  | [], _, i, hi => by cases hi
  | j :: r, h, i, hi => by
    intro o ho
    unfold findY at h
    split at h
    · rename_i oj hj
      cases hY : isY P oj with
      | true => rw [hY] at h; cases h
      | false =>
        rw [hY] at h
        rcases List.mem_cons.1 hi with rfl | hi
        · have : o = oj := Option.some.inj (ho.symm.trans hj)
          subst this; exact hY
        · exact findY_none (l := r) h i hi o ho
    · rename_i hj
      rcases List.mem_cons.1 hi with rfl | hi
      · rw [hj] at ho; cases ho
      · exact findY_none (l := r) h i hi o ho
theorem mem_looks_tmp {arr : Array Oper} {o : Oper} {t : Nat} (h : Operand.tmp t ∈ o.op.operands.toList) : t ∈ looksC arr.toList o := by
  unfold looksC
  refine List.mem_append_left _ (List.mem_flatMap.2 ⟨.tmp t, h, by simp⟩)
theorem mem_looks_guard {arr : Array Oper} {o : Oper} {g : Nat × Bool} {d : Nat} (h : o.guard = some g) (hd : gslot arr.toList g.1 = some d) : d ∈ looksC arr.toList o := by
  unfold looksC
  refine List.mem_append_right _ ?_
  rw [h]
  obtain ⟨g1, g2⟩ := g
  simp only at hd ⊢
  rw [hd]
  simp
theorem agrees_of_looks {arr : Array Oper} {o : Oper} {s1 : St} {a : Act} (h : ∀ t ∈ looksC arr.toList o, ∀ z, lk s1.env t = some z → a.tmps.getD t undef = z.val) : Agrees s1 a.eval o.op.operands.toList := by
  intro x hx y hy
  cases x with
  | tmp t => exact h t (mem_looks_tmp hx) y hy
  | const v => simp only [look, Option.some.injEq] at hy; subst hy; rfl
  | global g => simp only [look, Option.some.injEq] at hy; subst hy; rfl
  | func f => simp only [look, Option.some.injEq] at hy; subst hy; rfl

theorem draw_sound {P : Program} {r : Option Nat} {N : Nat} {Df : List Deferred} {arr : Array Oper} {K : St → Prop} {Q : Exit → Act → World → Prop} {s0 : St} {a0 : Act} {W : Nat → Prop} (hng : noNG P) (hok : RegOk N arr.toList) (hW : ∀ k o d, nth arr.toList k = some o → o.dst = some d → W d) (hQ : ∀ s a, Ev W s0 a0 s a → Rel N Df s a → Sat s → K s → Q .normal a s.w) :
    ∀ (f D : Nat) (pend : Pend) (s : St) (val : Nat → Value), Evo s0.chs s.chs → vcDraw P N arr.toList (preOf arr.toList) f D pend s K →
    ∀ (fuel : Nat) (listed : Array Bool) (a : Act), Inv P N Df arr D pend s listed a val → Fr W a0 a → cntL listed arr.size ≤ fuel → wpAnyIn (fenceR r) 0 P .any arr Q fuel listed a s.w
  | 0, _, _, _, _, _, h => h.elim
  | f + 1, D, pend, s, val, hev, h => by
    -- what is common to a leaf and to a branching: the lagging ones come up first or last
    have branch : ∀ (R : ∀ (listed : Array Bool) (a : Act), Inv P N Df arr D pend s listed a val → Fr W a0 a → ∀ (fuel i : Nat), i ∈ Region.ready .any arr listed → bitOf D i = false → cntL (listed.setIfInBounds i true) arr.size ≤ fuel →
          wpOpIn (fenceR r) 0 P arr Q i (wpAnyIn (fenceR r) 0 P .any arr Q fuel (listed.setIfInBounds i true)) a s.w)
        (hend : ∀ (listed : Array Bool) (a : Act), Inv P N Df arr D pend s listed a val → Fr W a0 a → Region.ready .any arr listed = [] → Q .normal a s.w),
        ∀ (fuel : Nat) (listed : Array Bool) (a : Act), Inv P N Df arr D pend s listed a val → Fr W a0 a → cntL listed arr.size ≤ fuel → wpAnyIn (fenceR r) 0 P .any arr Q fuel listed a s.w := by
      intro R hend fuel
      induction fuel with
      | zero =>
        intro listed a I hfr hc
        have hr : Region.ready .any arr listed = [] := by
          rcases hr : Region.ready .any arr listed with _ | ⟨i, rs⟩
          · rfl
          · exfalso
            obtain ⟨hi, hun, _⟩ := ready_spec (show i ∈ Region.ready .any arr listed by rw [hr]; simp)
            have := cntL_set I.size (by rw [← I.size]; exact hi) hun
            omega
        exact ⟨hr, hend listed a I hfr hr⟩
      | succ fuel ih =>
        intro listed a I hfr hc
        refine ⟨fun hr => hend listed a I hfr hr, fun i hi => ?_⟩
        obtain ⟨hlt, hun, o, ho, ho', _⟩ := ready_spec hi
        have hcnt := cntL_set I.size (by rw [← I.size]; exact hlt) hun
        cases hD : bitOf D i with
        | true =>
          exact exec_lag hok I hi ho' ⟨hD, hun, by rw [← I.size]; exact hlt⟩ fun I' => ih _ _ I' (hfr.put fun t ht => hW i o t ho' ht) (by omega)
        | false => exact R listed a I hfr fuel i hi hD (by omega)
    have hdone : ∀ (listed : Array Bool) (a : Act), Inv P N Df arr D pend s listed a val → Region.ready .any arr listed = [] → Rel N Df s a ∧ rdy 0 arr.toList D = [] := by
      intro listed a I hr
      have hall := all_done hok.edge I.size hr
      refine ⟨⟨I.tsize, I.defs, fun t x hx => ?_⟩, ?_⟩
      · rcases I.frame t x hx with ⟨u, o, hu, _, _⟩ | h
        · exact absurd (hall u hu.2.2) hu.2.1
        · exact h
      · rcases hd : rdy 0 arr.toList D with _ | ⟨i, rs⟩
        · rfl
        · exfalso
          obtain ⟨o, _, ho, hD, _⟩ := (rdy_mem (ops := arr.toList) (l := arr.toList) (i := 0) (k := i) (D := D)).1 (by rw [hd]; simp)
          have hi : i < arr.size := by have := nth_lt ho; simpa using this
          have := I.sub i (hall i hi)
          rw [hD] at this; cases this
    have hplan : ∀ (listed : Array Bool) (a : Act), Inv P N Df arr D pend s listed a val → ∀ i, i ∈ Region.ready .any arr listed → bitOf D i = false → i ∈ rdy 0 arr.toList D := by
      intro listed a I i hi hD
      obtain ⟨hlt, hun, o, ho, ho', hwait⟩ := ready_spec hi
      refine (rdy_mem (ops := arr.toList)).2 ⟨o, Nat.zero_le _, ho', hD, fun j hj => ?_⟩
      obtain ⟨e, he, hb, rfl⟩ := (maskOf_bit o j).1 hj
      exact I.sub _ (hwait e he hb)
    have hagree : ∀ (listed : Array Bool) (a : Act), Inv P N Df arr D pend s listed a val → ∀ i o, i ∈ Region.ready .any arr listed → nth arr.toList i = some o → bitOf D i = false → ∀ t ∈ looksC arr.toList o, ∀ z, lk s.env t = some z → a.tmps.getD t undef = z.val := by
      intro listed a I i o hi ho hD t ht z hz
      obtain ⟨hlt, hun, o', ho1, ho', hwait⟩ := ready_spec hi
      have : o' = o := Option.some.inj (ho'.symm.trans ho)
      subst this
      rcases I.frame t z hz with ⟨u, ou, hu, hou, hdu⟩ | h
      · exfalso
        have hui : u ≠ i := fun e => by subst e; rw [hu.1] at hD; cases hD
        rcases (hok.slot u ou t hou hdu i o' ho (fun e => hui e.symm)).1 ht with hpre | hpre
        · rcases preAt_ready I.cL ho hwait hpre with e | h
          · exact hui e
          · exact hu.2.1 h
        · have := preAt_closed I.cD hu.1 hpre
          rw [hD] at this; cases this
      · exact h
    unfold vcDraw at h
    split at h
    · -- a leaf
      rename_i hrd
      refine branch (fun listed a I hfr fuel i hi hD _ => ?_) (fun listed a I hfr hr => hQ s a ⟨hev, hfr⟩ (hdone listed a I hr).1 I.sat h)
      have := hplan listed a I i hi hD
      rw [hrd] at this; cases this
    · rename_i i0 rs hrd
      split at h
      · -- an operation that leaves the world alone
        rename_i y hy
        obtain ⟨hmem, o, ho, hY⟩ := findY_some hy
        rw [← hrd] at hmem
        obtain ⟨o', _, ho', hD, hwait⟩ := (rdy_mem (ops := arr.toList)).1 hmem
        rw [Nat.sub_zero] at ho'
        have : o' = o := Option.some.inj (ho'.symm.trans ho)
        subst this
        simp only [ho] at h
        intro fuel listed a I hfr hc
        obtain ⟨s1, h1, h2⟩ := guardC_sound h
        have hw1 : s1.w = s.w := h1.2.1
        have htm : ∀ a' : Act, (∀ t ∈ looksC arr.toList o', ∀ z, lk s1.env t = some z → a'.tmps.getD t undef = z.val) →
            ∀ g d, o'.guard = some g → gslot arr.toList g.1 = some d → ∀ x, lk s.env d = some x → a'.tmps.getD d undef = x.val := by
          intro a' ha' g d hg hd x hx
          obtain ⟨x1, hx1, hv1⟩ := h1.forth hx
          rw [ha' d (mem_looks_guard hg hd) x1 hx1, hv1]
        rcases h2 with ⟨hrun, hw⟩ | ⟨hskip, hw⟩
        · obtain ⟨x, e, G, hK, hwf, hG, hr⟩ := yC_sound (I.sat.same h1) hrun hY
          have I2 := plan_y hok I ho hD hwait h1 x e G hwf hG (fun a' ha' => .inl ⟨hw a'.tmps (htm a' ha'), fun w hGw => hr w hGw a'.eval (agrees_of_looks ha')⟩)
          have := draw_sound (r := r) hng hok hW hQ f _ _ _ _ (by show Evo s0.chs s1.chs; rw [h1.1]; exact hev) hK fuel listed a I2 hfr hc
          rw [← hw1]; exact this
        · have I2 := plan_y hok I ho hD hwait h1 (.v undef) s1.esc none (wfV_v _ _) trivial (fun a' ha' => .inr ⟨hw a'.tmps (htm a' ha'), rfl⟩)
          have := draw_sound (r := r) hng hok hW hQ f _ _ _ _ (by show Evo s0.chs s1.chs; rw [h1.1]; exact hev) hskip fuel listed a I2 hfr hc
          rw [← hw1]; exact this
      · -- operations with effects: whichever comes
        rename_i hy
        have hall := allN_mem h
        refine branch (fun listed a I hfr fuel i hi hD hc => ?_) (fun listed a I hfr hr => ?_)
        · have hm := hplan listed a I i hi hD
          rw [hrd] at hm
          have hi' := hall i hm
          obtain ⟨hlt, hun, o, ho1, ho, hwait⟩ := ready_spec hi
          have hYf := findY_none hy i hm o ho
          simp only [ho] at hi'
          have hag := hagree listed a I i o hi ho hD
          obtain ⟨s1, h1, h2⟩ := guardC_sound hi'
          have hw1 : s1.w = s.w := h1.2.1
          have htm : ∀ g d, o.guard = some g → gslot arr.toList g.1 = some d → ∀ x, lk s.env d = some x → a.tmps.getD d undef = x.val := fun g d hg hd x hx => hag d (mem_looks_guard hg hd) x hx
          have hag1 : ∀ t ∈ looksC arr.toList o, ∀ z, lk s1.env t = some z → a.tmps.getD t undef = z.val := by
            intro t ht z hz
            obtain ⟨z0, hz0, hv0⟩ := h1.back hz
            rw [hag t ht z0 hz0, hv0]
          unfold wpOpIn
          simp only [ho1]
          rcases h2 with ⟨hrun, hw⟩ | ⟨hskip, hw⟩
          · rw [if_pos (hw a.tmps htm), ← hw1]
            refine wpIn_of_out (hok.plain i o ho).2 (eC_sound hng (I.sat.same h1) hrun (agrees_of_looks hag1)) fun x s' hK hE hwf => ?_
            obtain ⟨hK, hst⟩ := stays_ok hK
            have I2 := step_e hok I hi ho hD h1 hE.env hE.sat hwf (fun v G hb hG hp => by
              cases G with
              | none => trivial
              | some g =>
                rcases hst v g (hp g rfl) with h' | h'
                · rw [hb] at h'; cases h'
                · exact h')
            have := draw_sound (r := r) hng hok hW hQ f _ _ (putS s' o.dst x) _ ((show Evo s0.chs s1.chs by rw [h1.1]; exact hev).trans hE.evo) hK fuel _ _ I2 (hfr.put fun t ht => hW i o t ho ht) hc
            exact this
          · rw [if_neg (by rw [hw a.tmps htm]; simp), ← hw1]
            refine ⟨fun f _ => fenceR_fn r f, ?_⟩
            have I2 := step_e hok I hi ho hD h1 (s' := s1) rfl (I.sat.same h1) (wfV_v _ undef) (fun v G _ hG _ => by rw [hw1]; exact hG)
            have := draw_sound (r := r) hng hok hW hQ f _ _ _ _ (by show Evo s0.chs s1.chs; rw [h1.1]; exact hev) hskip fuel _ _ I2 (hfr.put fun t ht => hW i o t ho ht) hc
            exact this
        · have := (hdone listed a I hr).2
          rw [hrd] at this; cases this

end Go.SX
set_option linter.unusedSimpArgs false
set_option linter.unusedVariables false
namespace Go.SX
open Go

/-! ### Loops: typed values -/
def HasIs : List IntKind → List Value → Prop
  | [], [] => True
  | k :: r, v :: vs => (∃ n, v = .int k n) ∧ HasIs r vs
  | _, _ => False
theorem alIs_use : ∀ {l : List IntKind} {K : List Value → Prop}, alIs l K → ∀ {vs : List Value}, HasIs l vs → K vs
  | [], K, h, [], _ => h
  | [], K, h, v :: vs, hv => hv.elim
  | c :: r, K, h, [], hv => hv.elim
  | c :: r, K, h, v :: vs, hv => by
    obtain ⟨⟨n, rfl⟩, h2⟩ := hv
    exact alIs_use (h n) h2
theorem alIs_intro : ∀ {l : List IntKind} {K : List Value → Prop}, (∀ vs, HasIs l vs → K vs) → alIs l K
  | [], K, h => h [] trivial
  | k :: r, K, h => fun n => alIs_intro fun vs hv => h (.int k n :: vs) ⟨⟨n, rfl⟩, hv⟩
def HasE : EK → Value → Prop
  | .int k, v => ∃ n, v = .int k n
  | .bool, v => ∃ n, v = .bool n
  | .str, v => ∃ n, v = .string n
  | .ptr, v => ∃ n, v = .pointer n
  | .slice, v => ∃ a n c, v = .slice a n c
  | .map, v => ∃ n, v = .map n
def HasEs : List EK → List Value → Prop
  | [], [] => True
  | k :: r, v :: vs => HasE k v ∧ HasEs r vs
  | _, _ => False
theorem alE_use {c : EK} {K : Value → Prop} (h : alE c K) {v : Value} (hv : HasE c v) : K v := by
  cases c <;> simp only [alE, HasE] at h hv
  all_goals first | (obtain ⟨x, y, z, rfl⟩ := hv; exact h x y z) | (obtain ⟨x, rfl⟩ := hv; exact h x)
theorem alE_intro {c : EK} {K : Value → Prop} (h : ∀ v, HasE c v → K v) : alE c K := by
  cases c <;> simp only [alE] <;> intros <;> refine h _ ?_ <;> simp [HasE]
theorem alEs_use : ∀ {l : List EK} {K : List Value → Prop}, alEs l K → ∀ {vs : List Value}, HasEs l vs → K vs
  | [], K, h, [], _ => h
  | [], K, h, v :: vs, hv => hv.elim
  | c :: r, K, h, [], hv => hv.elim
  | c :: r, K, h, v :: vs, hv => alEs_use (alE_use h hv.1) hv.2
theorem alEs_intro : ∀ {l : List EK} {K : List Value → Prop}, (∀ vs, HasEs l vs → K vs) → alEs l K
  | [], K, h => h [] trivial
  | k :: r, K, h => alE_intro fun v hv => alEs_intro fun vs hvs => h (v :: vs) ⟨hv, hvs⟩
def HasC : CTy → Value → Prop
  | .int k, v => ∃ n, v = .int k n
  | .bool, v => ∃ n, v = .bool n
  | .str, v => ∃ n, v = .string n
  | .ptr, v => ∃ n, v = .pointer n
  | .slice, v => ∃ a n c, v = .slice a n c
  | .map, v => ∃ n, v = .map n
  | .raw, _ => True
  | .agg l, v => ∃ vs, HasIs l vs ∧ v = .agg vs.toArray
  | .row l, v => ∃ vs, HasEs l vs ∧ v = .agg vs.toArray
def HasCs : List CTy → List Value → Prop
  | [], [] => True
  | c :: r, v :: vs => HasC c v ∧ HasCs r vs
  | _, _ => False
theorem alC_use {c : CTy} {K : Value → Prop} (h : alC c K) {v : Value} (hv : HasC c v) : K v := by
  cases c <;> simp only [alC, HasC] at h hv
  all_goals first | exact h v | (obtain ⟨vs, h1, rfl⟩ := hv; exact alIs_use h h1) | (obtain ⟨vs, h1, rfl⟩ := hv; exact alEs_use h h1) | (obtain ⟨x, rfl⟩ := hv; exact h x) | (obtain ⟨x, y, z, rfl⟩ := hv; exact h x y z)
theorem alCs_use : ∀ {cs : List CTy} {K : List Value → Prop}, alCs cs K → ∀ {vs : List Value}, HasCs cs vs → K vs
  | [], K, h, [], _ => h
  | [], K, h, v :: vs, hv => hv.elim
  | c :: r, K, h, [], hv => hv.elim
  | c :: r, K, h, v :: vs, hv => alCs_use (alC_use h hv.1) hv.2
theorem apF_has : ∀ {ts : List CTy} {I : FTy Prop ts} {vs : List Value} {w : World}, apF False ts I vs w → HasCs ts vs
  | [], I, [], w, h => trivial
  | [], I, v :: vs, w, h => h.elim
  | .int _ :: r, I, v :: vs, w, h => by
    cases v <;> try exact (h : False).elim
    rename_i k k' n
    have h' : cond (sameKind k k') (apF False r (I n) vs w) False := h
    obtain ⟨hk, h'⟩ := cond_ok h'
    exact ⟨⟨n, by rw [sameKind_eq hk]⟩, apF_has (ts := r) h'⟩
  | .bool :: r, I, v :: vs, w, h => by
    cases v <;> first | exact ⟨⟨_, rfl⟩, apF_has (ts := r) h⟩ | exact (h : False).elim
  | .str :: r, I, v :: vs, w, h => by
    cases v <;> first | exact ⟨⟨_, rfl⟩, apF_has (ts := r) h⟩ | exact (h : False).elim
  | .ptr :: r, I, v :: vs, w, h => by
    cases v <;> first | exact ⟨⟨_, rfl⟩, apF_has (ts := r) h⟩ | exact (h : False).elim
  | .slice :: r, I, v :: vs, w, h => by
    cases v <;> first | exact ⟨⟨_, _, _, rfl⟩, apF_has (ts := r) h⟩ | exact (h : False).elim
  | .map :: r, I, v :: vs, w, h => by
    cases v <;> first | exact ⟨⟨_, rfl⟩, apF_has (ts := r) h⟩ | exact (h : False).elim
  | .raw :: r, I, v :: vs, w, h => ⟨trivial, apF_has (ts := r) (I := I v) (w := w) (by cases v <;> exact h)⟩
  | .int _ :: r, I, [], w, h => h.elim
  | .bool :: r, I, [], w, h => h.elim
  | .str :: r, I, [], w, h => h.elim
  | .ptr :: r, I, [], w, h => h.elim
  | .slice :: r, I, [], w, h => h.elim
  | .map :: r, I, [], w, h => h.elim
  | .raw :: r, I, [], w, h => h.elim
  | .agg _ :: r, I, [], w, h => h.elim
  | .agg _ :: r, I, v :: vs, w, h => by cases v <;> exact (h : False).elim
  | .row _ :: r, I, [], w, h => h.elim
  | .row _ :: r, I, v :: vs, w, h => by cases v <;> exact (h : False).elim
theorem HasCs_len : ∀ {cs : List CTy} {vs : List Value}, HasCs cs vs → vs.length = cs.length
  | [], [], _ => rfl
  | [], v :: vs, h => h.elim
  | c :: r, [], h => h.elim
  | c :: r, v :: vs, h => by simp [HasCs_len h.2]
theorem HasCs_app : ∀ {cs ds : List CTy} {vs us : List Value}, HasCs (cs ++ ds) (vs ++ us) → vs.length = cs.length → HasCs cs vs ∧ HasCs ds us
  | [], ds, [], us, h, _ => ⟨trivial, h⟩
  | [], ds, v :: vs, us, h, hl => by simp at hl
  | c :: r, ds, [], us, h, hl => by simp at hl
  | c :: r, ds, v :: vs, us, h, hl => by
    obtain ⟨h1, h2⟩ := HasCs_app (cs := r) (vs := vs) h.2 (by simpa using hl)
    exact ⟨⟨h.1, h1⟩, h2⟩

theorem slotVals_some : ∀ {l : List (Nat × CTy)} {env : List (Nat × SV)} {vs : List Value}, slotVals env l = some vs →
    vs.length = l.length ∧ ∀ (k : Nat) (p : Nat × CTy) (v : Value), l[k]? = some p → vs[k]? = some v → ∃ x, lk env p.1 = some x ∧ x.val = v
  | [], env, vs, h => by
    simp only [slotVals, Option.some.injEq] at h
    subst h
    exact ⟨rfl, fun k p v hp => by simp at hp⟩
  | (i, c) :: r, env, vs, h => by
    simp only [slotVals] at h
    split at h
    · rename_i x l hx hl
      simp only [Option.some.injEq] at h
      subst h
      obtain ⟨h1, h2⟩ := slotVals_some hl
      refine ⟨by simp [h1], fun k p v hp hv => ?_⟩
      cases k with
      | zero => simp at hp hv; subst hp; subst hv; exact ⟨x, hx, rfl⟩
      | succ k => exact h2 k p v (by simpa using hp) (by simpa using hv)
    · cases h
theorem cellVals_some : ∀ {l : List (Nat × Nat × CTy)} {chs : List Ch} {vs : List Value}, cellVals chs l = some vs →
    vs.length = l.length ∧ ∀ (k : Nat) (p : Nat × Nat × CTy) (v : Value), l[k]? = some p → vs[k]? = some v → ∃ c x, nth chs p.1 = some c ∧ lk c.cells p.2.1 = some x ∧ x.val = v
  | [], chs, vs, h => by
    simp only [cellVals, Option.some.injEq] at h
    subst h
    exact ⟨rfl, fun k p v hp => by simp at hp⟩
  | (j, o, t) :: r, chs, vs, h => by
    simp only [cellVals] at h
    split at h
    · rename_i c hc
      split at h
      · rename_i x l hx hl
        simp only [Option.some.injEq] at h
        subst h
        obtain ⟨h1, h2⟩ := cellVals_some hl
        refine ⟨by simp [h1], fun k p v hp hv => ?_⟩
        cases k with
        | zero => simp at hp hv; subst hp; subst hv; exact ⟨c, x, hc, hx, rfl⟩
        | succ k => exact h2 k p v (by simpa using hp) (by simpa using hv)
      · cases h
    · cases h
theorem lk_keep : ∀ {l : List Nat} {env : List (Nat × SV)} {i : Nat} {x : SV}, lk (keepEnv env l) i = some x → i ∈ l ∧ lk env i = some x
  | [], env, i, x, h => by simp [keepEnv, lk] at h
  | j :: r, env, i, x, h => by
    simp only [keepEnv] at h
    split at h
    · rename_i y hy
      rw [lk_cons] at h
      split at h
      · rename_i e
        subst e
        simp only [Option.some.injEq] at h
        subst h
        exact ⟨by simp, hy⟩
      · obtain ⟨h1, h2⟩ := lk_keep h
        exact ⟨List.mem_cons_of_mem _ h1, h2⟩
    · obtain ⟨h1, h2⟩ := lk_keep h
      exact ⟨List.mem_cons_of_mem _ h1, h2⟩
theorem lk_zipc : ∀ {l : List Nat} {vs : List Value} {e : List (Nat × SV)} {i : Nat} {x : SV}, lk (l.zip (vs.map SV.v) ++ e) i = some x →
    (∃ (k : Nat) (v : Value), l[k]? = some i ∧ vs[k]? = some v ∧ x = .v v) ∨ lk e i = some x
  | [], vs, e, i, x, h => .inr (by simpa using h)
  | j :: r, [], e, i, x, h => .inr (by simpa using h)
  | j :: r, v :: vs, e, i, x, h => by
    simp only [List.map_cons, List.zip_cons_cons, List.cons_append, lk_cons] at h
    split at h
    · rename_i e'
      simp only [Option.some.injEq] at h
      exact .inl ⟨0, v, by simp [e'], by simp, h.symm⟩
    · rcases lk_zipc h with ⟨k, u, h1, h2, h3⟩ | h
      · exact .inl ⟨k + 1, u, by simpa using h1, by simpa using h2, h3⟩
      · exact .inr h
/-- What the cells hold at a round's head: the carried ones anew, the others as they were. -/
theorem setCells_spec : ∀ {l : List (Nat × Nat × CTy)} {vs : List Value} {chs : List Ch}, (∀ p ∈ l, ∃ c, nth chs p.1 = some c ∧ (lk c.cells p.2.1).isSome = true) →
    ∀ j d, nth (setCells chs l vs) j = some d → ∃ c, nth chs j = some c ∧ d.b = c.b ∧ d.cells.map (·.1) = c.cells.map (·.1) ∧
      ∀ o x, lk d.cells o = some x → (∃ (k : Nat) (p : Nat × Nat × CTy) (v : Value), l[k]? = some p ∧ vs[k]? = some v ∧ p.1 = j ∧ p.2.1 = o ∧ x = .v v) ∨ lk c.cells o = some x ∧ (vs.length = l.length → isCarried l j o = false)
  | [], vs, chs, _, j, d, h => ⟨d, by cases vs <;> exact h, rfl, rfl, fun o x hx => .inr ⟨hx, fun _ => rfl⟩⟩
  | p :: l, [], chs, _, j, d, h => ⟨d, h, rfl, rfl, fun o x hx => .inr ⟨hx, fun e => by simp at e⟩⟩
  | (j0, o0, t0) :: l, v :: vs, chs, hp, j, d, h => by
    obtain ⟨c0, hc0, ho0⟩ := hp (j0, o0, t0) (by simp)
    have hp' : ∀ p ∈ l, ∃ c, nth (updCh chs j0 o0 (.v v)) p.1 = some c ∧ (lk c.cells p.2.1).isSome = true := by
      intro p hpm
      obtain ⟨c, hc, ho⟩ := hp p (List.mem_cons_of_mem _ hpm)
      rw [nth_updCh, hc]
      split
      · rename_i e
        refine ⟨_, rfl, ?_⟩
        have : c = c0 := by rw [e] at hc; exact Option.some.inj (hc.symm.trans hc0)
        subst this
        simp only
        rw [lk_upd _ _ _ _ ho0]
        split
        · rfl
        · exact ho
      · exact ⟨c, rfl, ho⟩
    obtain ⟨c1, hc1, hb1, hk1, hx1⟩ := setCells_spec (l := l) (vs := vs) (chs := updCh chs j0 o0 (.v v)) hp' j d h
    obtain ⟨c, hc, hb, hne, heq⟩ := nth_upd hc1
    refine ⟨c, hc, hb1.trans hb, ?_, fun o x hx => ?_⟩
    · by_cases hj : j = j0
      · rw [hk1, heq hj, upd_keys]
      · rw [hk1, hne hj]
    · rcases hx1 o x hx with ⟨k, p, u, h1, h2, h3⟩ | ⟨hx2, hcar⟩
      · exact .inl ⟨k + 1, p, u, by simpa using h1, by simpa using h2, h3⟩
      · by_cases hj : j = j0
        · have : c = c0 := by rw [hj] at hc; exact Option.some.inj (hc.symm.trans hc0)
          subst this
          rw [heq hj, lk_upd _ _ _ _ ho0] at hx2
          split at hx2
          · rename_i e
            simp only [Option.some.injEq] at hx2
            exact .inl ⟨0, (j0, o0, t0), v, by simp, by simp, hj.symm, e, hx2.symm⟩
          · rename_i e
            refine .inr ⟨hx2, fun hl => ?_⟩
            have : Nat.beq o0 o = false := by
              cases hb' : Nat.beq o0 o with
              | false => rfl
              | true => exact absurd (natBeq hb') e
            simp [isCarried, this, hcar (by simpa using hl)]
        · rw [hne hj] at hx2
          refine .inr ⟨hx2, fun hl => ?_⟩
          have : Nat.beq j0 j = false := by
            cases hb' : Nat.beq j0 j with
            | false => rfl
            | true => exact absurd (natBeq hb').symm hj
          simp [isCarried, this, hcar (by simpa using hl)]
theorem setCells_forth : ∀ {l : List (Nat × Nat × CTy)} {vs : List Value} {chs : List Ch}, Evo chs (setCells chs l vs)
  | [], vs, chs => by cases vs <;> exact Evo.refl _
  | p :: l, [], chs => Evo.refl _
  | (j0, o0, t0) :: l, v :: vs, chs => (Evo.upd _ _ _ _).trans (setCells_forth (l := l) (vs := vs))
/-- The cells that are not carried have the same values. -/
theorem restC_eq {l : List (Nat × Nat × CTy)} {j : Nat} : ∀ {a b : List (Nat × SV)}, a.map (·.1) = b.map (·.1) → restC l j a = restC l j b → ∀ o x y, (o, x) ∈ a → (a.map (·.1)).Nodup → lk b o = some y → isCarried l j o = false → x.val = y.val
  | [], b, _, _, o, x, y, hm, _, _, _ => by cases hm
  | (i, u) :: r, [], hk, _, _, _, _, _, _, _, _ => by simp at hk
  | (i, u) :: r, (i', u') :: r', hk, hr, o, x, y, hm, hn, hy, hc => by
    simp only [List.map_cons, List.cons.injEq] at hk
    obtain ⟨rfl, hk⟩ := hk
    simp only [List.map_cons, List.nodup_cons] at hn
    simp only [restC] at hr
    rw [lk_cons] at hy
    rcases List.mem_cons.1 hm with e | hm
    · cases e
      simp only [if_true, Option.some.injEq] at hy
      subst hy
      rw [hc] at hr
      simp only [cond_false, List.cons.injEq] at hr
      exact hr.1
    · have hne : ¬ i = o := fun e => hn.1 (by rw [e]; exact List.mem_map.2 ⟨_, hm, rfl⟩)
      rw [if_neg hne] at hy
      cases hci : isCarried l j i with
      | true => rw [hci] at hr; exact restC_eq hk hr o x y hm hn.2 hy hc
      | false => rw [hci] at hr; simp only [cond_false, List.cons.injEq] at hr; exact restC_eq hk hr.2 o x y hm hn.2 hy hc
theorem restC_len {l : List (Nat × Nat × CTy)} {j : Nat} : ∀ {a b : List (Nat × SV)}, a.map (·.1) = b.map (·.1) → (restC l j a).length = (restC l j b).length
  | [], [], _ => rfl
  | [], _ :: _, h => by simp at h
  | _ :: _, [], h => by simp at h
  | (i, u) :: r, (i', u') :: r', h => by
    simp only [List.map_cons, List.cons.injEq] at h
    obtain ⟨rfl, h⟩ := h
    have := restC_len (l := l) (j := j) h
    simp only [restC]
    cases isCarried l j i <;> simp [this]
theorem restVals_eq {l : List (Nat × Nat × CTy)} : ∀ {n j : Nat} {a b : List Ch}, Evo b a → b.length = n → restVals l n j a = restVals l n j b → ∀ k c d, nth b k = some c → nth a k = some d → restC l (j + k) d.cells = restC l (j + k) c.cells
  | 0, j, a, b, _, hl, _, k, c, d, hc, _ => by
    have := nth_lt hc; omega
  | n + 1, j, [], b, hev, hl, _, k, c, d, _, hd => by cases k <;> simp [nth] at hd
  | n + 1, j, x :: a, [], _, hl, _, k, c, d, hc, _ => by cases k <;> simp [nth] at hc
  | n + 1, j, x :: a, y :: b, hev, hl, hr, k, c, d, hc, hd => by
    simp only [restVals] at hr
    obtain ⟨x', hx', hb0, hk0⟩ := hev 0 y rfl
    simp only [nth, Option.some.injEq] at hx'
    subst hx'
    have hlen := restC_len (l := l) (j := j) hk0
    obtain ⟨h1, h2⟩ := List.append_inj hr hlen
    cases k with
    | zero =>
      simp only [nth, Option.some.injEq] at hc hd
      subst hc; subst hd
      exact h1
    | succ k =>
      have hev' : Evo b a := fun j z hz => hev (j + 1) z hz
      have := restVals_eq (l := l) (n := n) (j := j + 1) (a := a) (b := b) hev' (by simpa using hl) h2 k c d hc hd
      rw [show j + (k + 1) = j + 1 + k by omega]
      exact this

end Go.SX
set_option linter.unusedSimpArgs false
set_option linter.unusedVariables false
namespace Go.SX
open Go

/-- A loop, by a measure on a ghost. -/
theorem wpIn_loopX {F : Fence} {n : Nat} {P : Program} {Q : Exit → Act → World → Prop} {c : Code} {X : Type} (J : X → Act → World → Prop) (m : X → Nat)
    (round : ∀ x a w, J x a w → c.wpIn F n P (Exit.then (fun a' w' => ∃ x', J x' a' w' ∧ m x' < m x) Q) a w) : ∀ {a : Act} {w : World} (x : X), J x a w → (Code.loop c).wpIn F n P Q a w := by
  intro a w x h₀ b k cs hro hb hr
  have key : ∀ j (x : X) a w, m x = j → J x a w →
      ∃ e a' w', Q e a' w' ∧ ArrivesIn (Machine.fenced P F) P (lone (b.atR a (.code c :: .inLoop c :: k)) cs w) b k cs e a' w' := by
    intro j
    induction j using Nat.strongRecOn with
    | _ j ih =>
      intro x a w hn hI
      obtain ⟨e, a₁, w₁, hq, harr⟩ := round x a w hI b (.inLoop c :: k) cs hro hb hr
      cases e with
      | normal =>
        obtain ⟨x', hI₁, hlt⟩ := hq
        obtain ⟨e₂, a₂, w₂, hq₂, harr₂⟩ := ih (m x') (hn ▸ hlt) x' a₁ w₁ rfl hI₁
        exact ⟨e₂, a₂, w₂, hq₂, .of_steps (StepsIn.trans harr (.one (fenced_calm hb hr rfl) stepR_inLoop)) harr₂⟩
      | exit id => exact ⟨_, a₁, w₁, hq, .pass (x := .inLoop c) rfl (fun _ _ => .inl (by simp)) harr⟩
      | goto l => exact ⟨_, a₁, w₁, hq, .pass (x := .inLoop c) rfl (fun _ _ => .inl (by simp)) harr⟩
      | ret => exact ⟨_, a₁, w₁, hq, .pass (x := .inLoop c) rfl (fun _ _ => .inl (by simp)) harr⟩
      | panic ch => exact ⟨_, a₁, w₁, hq, .pass (x := .inLoop c) rfl (fun _ _ => .inl (by simp)) harr⟩
      | outgrown => exact ⟨_, a₁, w₁, hq, .pass (x := .inLoop c) rfl (fun _ _ => .inl (by simp)) harr⟩
  obtain ⟨e, a', w', hq, harr⟩ := key _ x a w rfl h₀
  exact ⟨e, a', w', hq, .of_steps (.one (fenced_calm hb hr rfl) stepR_loop) harr⟩

/-- A scope through which the run goes without a jump. -/
theorem stepR_scopeX {P : Program} {b : Frame} {a : Act} {k : List Item} {cs : List Frame} {w : World} {c : Code} : step P (lone (b.atR a (.code (.scope c) :: k)) cs w) = .next (lone (b.atR a (.code c :: .inScope c :: k)) cs w) :=
  step_lone_go (by simp [stepG, stepG.exec, Frame.atR])
theorem stepR_inScopeX {P : Program} {b : Frame} {a : Act} {k : List Item} {cs : List Frame} {w : World} {c : Code} : step P (lone (b.atR a (.inScope c :: k)) cs w) = .next (lone (b.atR a k) cs w) :=
  step_lone_go (by simp [stepG, stepG.exec, Frame.atR])
theorem wpIn_scopeX {F : Fence} {n : Nat} {P : Program} {Q : Exit → Act → World → Prop} {c : Code} {a : Act} {w : World} (h : c.wpIn F n P (Exit.noGoto Q) a w) : (Code.scope c).wpIn F n P Q a w := by
  intro b k cs hro hb hr
  have h0 : (lone (b.atR a (.code (.scope c) :: k)) cs w).fenced P F := fenced_calm hb hr rfl
  obtain ⟨e, a₁, w₁, hq, harr⟩ := h b (.inScope c :: k) cs hro hb hr
  cases e with
  | normal => exact ⟨.normal, a₁, w₁, hq, .head h0 stepR_scopeX (StepsIn.trans harr (.one (fenced_calm hb hr rfl) stepR_inScopeX))⟩
  | exit id =>
    have hx : exitTo id (.inScope c :: k) = exitTo id k := by simp [exitTo]
    exact ⟨.exit id, a₁, w₁, hq, fun k' hk => .head h0 stepR_scopeX (harr.1 k' (by rw [hx]; exact hk)),
      fun hr' hk => let ⟨k₁, h1, h2⟩ := harr.2 hr' (by rw [hx]; exact hk); ⟨k₁, h1, .head h0 stepR_scopeX h2⟩⟩
  | goto l => exact hq.elim
  | ret => exact ⟨_, a₁, w₁, hq, .of_steps (.one h0 stepR_scopeX) harr⟩
  | panic ch => exact ⟨_, a₁, w₁, hq, .of_steps (.one h0 stepR_scopeX) harr⟩
  | outgrown => exact ⟨_, a₁, w₁, hq, .of_steps (.one h0 stepR_scopeX) harr⟩

/-- The state at a round's head. -/
def headSt (A : LoopAnn) (s : St) (vs cs : List Value) (w : World) : St :=
  { env := (A.carried.map (·.1)).zip (vs.map SV.v) ++ keepEnv s.env A.keep, chs := setCells s.chs A.cells cs, esc := s.esc, w := w, defs := s.defs }
theorem get_zip {l : List (Nat × CTy)} {k i : Nat} (h : (l.map (·.1))[k]? = some i) : ∃ p, l[k]? = some p ∧ p.1 = i := by
  rw [List.getElem?_map] at h
  cases hp : l[k]? with
  | none => rw [hp] at h; cases h
  | some p => rw [hp] at h; simp only [Option.map_some, Option.some.injEq] at h; exact ⟨p, rfl, h⟩
theorem cells_ok {l : List (Nat × Nat × CTy)} {chs : List Ch} {vs : List Value} (h : cellVals chs l = some vs) : ∀ p ∈ l, ∃ c, nth chs p.1 = some c ∧ (lk c.cells p.2.1).isSome = true := by
  obtain ⟨hl, h2⟩ := cellVals_some h
  intro p hp
  obtain ⟨k, hk, e⟩ := List.mem_iff_getElem.1 hp
  have hk2 : k < vs.length := by omega
  obtain ⟨c, x, hc, hx, _⟩ := h2 k p vs[k] (by rw [← e]; exact List.getElem?_eq_getElem hk) (List.getElem?_eq_getElem hk2)
  exact ⟨c, hc, by simp [hx]⟩
/-- From a state s' whose slots and cells hold vs and cs, and whose other cells hold what s's hold: the head state of s holds. -/
theorem head_ok {N : Nat} {D : List Deferred} {A : LoopAnn} {s s' : St} {a : Act} {vs cs cs0 : List Value} (hs : Sat s) (hs' : Sat s') (hev : Evo s.chs s'.chs) (hr' : Rel N D s' a)
    (hslot : slotVals s'.env A.carried = some vs) (hcell : cellVals s'.chs A.cells = some cs) (hcell0 : cellVals s.chs A.cells = some cs0)
    (hkeep : ∀ i x, lk (keepEnv s.env A.keep) i = some x → a.tmps.getD i undef = x.val)
    (hrest : ∀ j c d o x y, nth s.chs j = some c → nth s'.chs j = some d → lk c.cells o = some x → lk d.cells o = some y → isCarried A.cells j o = false → y.val = x.val) :
    Rel N D (headSt A s vs cs s'.w) a ∧ Sat (headSt A s vs cs s'.w) := by
  obtain ⟨hsl, hs2⟩ := slotVals_some hslot
  obtain ⟨hcl, hc2⟩ := cellVals_some hcell
  have hspec := setCells_spec (vs := cs) (cells_ok hcell0)
  refine ⟨⟨hr'.1, hr'.2.1, fun i x hx => ?_⟩, ⟨fun j d hd o x hx => ?_, fun j d hd => ?_, fun j d hd => ?_, fun i j c d hc hd hij => ?_, fun i b j o hx => ?_, fun k d o b j o' hd hx => ?_⟩⟩
  · rcases lk_zipc hx with ⟨k, v, hk, hv, rfl⟩ | hx
    · obtain ⟨p, hp, rfl⟩ := get_zip hk
      obtain ⟨y, hy, e⟩ := hs2 k p v hp hv
      rw [hr'.2.2 p.1 y hy, e]; rfl
    · exact hkeep i x hx
  · obtain ⟨c, hc, hb, hk, hxs⟩ := hspec j d hd
    obtain ⟨d', hd', hb', hk'⟩ := hev j c hc
    show s'.w.cell? ⟨d.b, o, none⟩ = _ ∧ _
    rw [hb]
    rcases hxs o x hx with ⟨k, p, v, hp, hv, h1, h2, rfl⟩ | ⟨hx2, hcar⟩
    · obtain ⟨c', x', hc', hx', e⟩ := hc2 k p v hp hv
      rw [h1] at hc'
      rw [h2] at hx'
      have : c' = d' := Option.some.inj (hc'.symm.trans hd')
      subst this
      have := hs'.cell j c' hd' o x' hx'
      rw [hb'] at this
      exact ⟨by rw [this.1, e]; rfl, this.2⟩
    · have hkn := hs.keys j c hc
      have hkn' := hs'.keys j d' hd'
      have hmem : o ∈ d'.cells.map (·.1) := by
        rw [hk']; exact List.mem_map.2 ⟨_, (lk_mem hkn).1 hx2, rfl⟩
      obtain ⟨⟨o1, y⟩, hy, e⟩ := List.mem_map.1 hmem
      simp only at e
      subst e
      have hy' := (lk_mem hkn').2 hy
      have := hs'.cell j d' hd' o1 y hy'
      rw [hb'] at this
      rw [← hrest j c d' o1 x y hc hd' hx2 hy' (hcar hcl)]
      exact this
  · obtain ⟨c, hc, hb, hk, _⟩ := hspec j d hd
    rw [hk]; exact hs.keys j c hc
  · obtain ⟨c, hc, hb, _⟩ := hspec j d hd
    obtain ⟨d', hd', hb', _⟩ := hev j c hc
    have := hs'.lt j d' hd'
    show d.b < s'.w.heap.size
    rw [hb, ← hb']; exact this
  · obtain ⟨c1, e1, b1, _⟩ := hspec i c hc
    obtain ⟨c2, e2, b2, _⟩ := hspec j d hd
    rw [b1, b2]
    exact hs.apart i j c1 c2 e1 e2 hij
  · rcases lk_zipc hx with ⟨k, v, _, _, e⟩ | hx
    · cases e
    · obtain ⟨_, hx⟩ := lk_keep hx
      obtain ⟨c, hc, hb⟩ := hs.wfE i b j o hx
      obtain ⟨d, hd, hb', _⟩ := setCells_forth (l := A.cells) (vs := cs) (chs := s.chs) j c hc
      exact ⟨d, hd, hb'.trans hb⟩
  · obtain ⟨c, hc, hb, hk, hxs⟩ := hspec k d hd
    rcases hxs o _ hx with ⟨_, _, v, _, _, _, _, e⟩ | ⟨hx2, _⟩
    · cases e
    · obtain ⟨c', hc', hb'⟩ := hs.wfC k c o b j o' hc hx2
      obtain ⟨d', hd', hb2, _⟩ := setCells_forth (l := A.cells) (vs := cs) (chs := s.chs) j c' hc'
      exact ⟨d', hd', hb2.trans hb'⟩

/-! ### Code -/
theorem writesOps_mem {l : List Oper} {o : Oper} {d : Nat} (h : o ∈ l) (hd : o.dst = some d) : writesOps d l = true := by
  induction l with
  | nil => cases h
  | cons a r ih =>
    simp only [writesOps, Bool.or_eq_true]
    rcases List.mem_cons.1 h with rfl | h
    · left; rw [hd]; exact Nat.beq_refl d
    · exact .inr (ih h)
theorem inv_start {P : Program} {N : Nat} {Df : List Deferred} {arr : Array Oper} {s : St} {a : Act} (hr : Rel N Df s a) (hs : Sat s) : Inv P N Df arr 0 [] s (Array.replicate arr.size false) a (fun _ => undef) := by
  have h0 : ∀ i, bitOf 0 i = false := fun i => by rw [bitOf_eq]; simp
  have hl : ∀ i, ¬ isL (Array.replicate arr.size false) i := by
    intro i h
    unfold isL at h
    simp only [Array.getD_eq_getD_getElem?, Array.getElem?_replicate] at h
    split at h <;> simp at h
  refine ⟨hs, by simp, fun i hi => absurd hi (hl i), fun i o _ hi => absurd hi (hl i), fun i o _ hi => ?_, hr.1, hr.2.1, fun t x hx => .inr (hr.2.2 t x hx), fun u o hu => ?_⟩
  · simp only [h0] at hi; cases hi
  · have := hu.1
    rw [h0] at this; cases this
theorem cntL_le (listed : Array Bool) (n : Nat) : cntL listed n ≤ n := by
  unfold cntL
  exact Nat.le_trans (List.length_filter_le _ _) (by simp)
theorem QK.mono {N : Nat} {W : Nat → Prop} {s0 : St} {a0 : Act} {K K' : Exit → St → Prop} {e : Exit} {a : Act} {w : World} (h : QK N W s0 a0 K e a w) (hk : ∀ e s, K e s → K' e s) : QK N W s0 a0 K' e a w := by
  obtain ⟨s, h1, h2, h3, h4, h5⟩ := h
  exact ⟨s, h1, h2, h3, h4, hk e s h5⟩

theorem sameK_ok {a b : List Value} {K : Prop} (h : sameK a b K) : a = b ∧ K := by
  unfold sameK at h
  split at h
  · exact ⟨rfl, h⟩
  · exact h

theorem Sat.defs {s : St} (h : Sat s) (d : List Nat) : Sat { s with defs := d } := ⟨h.cell, h.keys, h.lt, h.apart, h.wfE, h.wfC⟩
theorem defsK_ok {a b : List Nat} {K : Prop} (h : defsK a b K) : a = b ∧ K := by
  unfold defsK at h
  split at h
  · exact ⟨rfl, h⟩
  · exact h
theorem lk_known {l : List (Nat × SV)} {o : Nat} {x : SV} (h : lk l o = some x) : (o, x) ∈ l := by
  induction l with
  | nil => cases h
  | cons p r ih =>
    obtain ⟨i, y⟩ := p
    rw [lk_cons] at h
    split at h
    · rename_i e
      subst e; cases h; exact List.mem_cons_self ..
    · exact List.mem_cons_of_mem _ (ih h)
theorem known_cell {w : World} : ∀ {chs : List Ch}, Known w (knowns chs) → ∀ j c, nth chs j = some c → c.b < w.heap.size ∧ ∀ o x, (o, x) ∈ c.cells → w.cell? ⟨c.b, o, none⟩ = some x.val ∧ w.frozen? ⟨c.b, o, none⟩ = false
  | [], _, j, c, h => by cases j <;> cases h
  | d :: r, ⟨⟨h1, h2⟩, h3⟩, 0, c, h => by
    simp only [nth, Option.some.injEq] at h
    subst h
    refine ⟨h1, fun o x hx => ?_⟩
    have key : ∀ l : List (Nat × Value), KnownC w d.b l → ∀ p ∈ l, w.cell? ⟨d.b, p.1, none⟩ = some p.2 ∧ w.frozen? ⟨d.b, p.1, none⟩ = false := by
      intro l
      induction l with
      | nil => intro _ p hp; cases hp
      | cons q r ih =>
        intro hk p hp
        rcases List.mem_cons.1 hp with rfl | hp
        · exact hk.1
        · exact ih hk.2 p hp
    exact key _ h2 (o, x.val) (List.mem_map.2 ⟨(o, x), hx, rfl⟩)
  | d :: r, ⟨_, h3⟩, j + 1, c, h => known_cell h3 j c h
/-- A state with other values in its known cells. -/
theorem sat_of_known {s : St} {cells : List (Nat × Nat × CTy)} {cs : List Value} {w : World} {env : List (Nat × SV)} {esc defs : List Nat} (hs : Sat s) (hok : (cellVals s.chs cells).isSome = true) (hk : Known w (knowns (setCells s.chs cells cs)))
    (he : ∀ i b j o, lk env i = some (.p b j o) → lk s.env i = some (.p b j o)) : Sat { env := env, chs := setCells s.chs cells cs, esc := esc, w := w, defs := defs } := by
  obtain ⟨cs0, hcs0⟩ := Option.isSome_iff_exists.1 hok
  have hspec := setCells_spec (vs := cs) (cells_ok hcs0)
  refine ⟨fun j d hd o x hx => (known_cell hk j d hd).2 o x (lk_known hx), fun j d hd => ?_, fun j d hd => (known_cell hk j d hd).1, fun i j c d hc hd hij => ?_, fun i b j o hx => ?_, fun k d o b j o' hd hx => ?_⟩
  · obtain ⟨c, hc, hb, hkk, _⟩ := hspec j d hd
    rw [hkk]; exact hs.keys j c hc
  · obtain ⟨c1, e1, b1, _⟩ := hspec i c hc
    obtain ⟨c2, e2, b2, _⟩ := hspec j d hd
    rw [b1, b2]
    exact hs.apart i j c1 c2 e1 e2 hij
  · obtain ⟨c, hc, hb⟩ := hs.wfE i b j o (he i b j o hx)
    obtain ⟨d, hd, hb', _⟩ := setCells_forth (l := cells) (vs := cs) (chs := s.chs) j c hc
    exact ⟨d, hd, hb'.trans hb⟩
  · obtain ⟨c, hc, hb, hkk, hxs⟩ := hspec k d hd
    rcases hxs o _ hx with ⟨_, _, v, _, _, _, _, e⟩ | ⟨hx2, _⟩
    · cases e
    · obtain ⟨c', hc', hb'⟩ := hs.wfC k c o b j o' hc hx2
      obtain ⟨d', hd', hb2, _⟩ := setCells_forth (l := cells) (vs := cs) (chs := s.chs) j c' hc'
      exact ⟨d', hd', hb2.trans hb'⟩
theorem Sat.putObj {s : St} (hs : Sat s) {l : Nat} {o o' : Obj} (hl : s.w.heap[l]? = some o) (ho : o.isCells = false) : Sat { s with w := s.w.putObj l o' } := by
  have hne : ∀ {a : Addr} {v : Value}, s.w.cell? a = some v → a.block ≠ l := by
    intro a v h e
    obtain ⟨o1, h1, h2⟩ := cells_of_cell h
    rw [e, hl] at h1
    cases h1
    rw [ho] at h2; cases h2
  refine ⟨fun j c hc o x hx => ?_, hs.keys, fun j c hc => ?_, hs.apart, hs.wfE, hs.wfC⟩
  · obtain ⟨h1, h2⟩ := hs.cell j c hc o x hx
    have hb := hne h1
    have hh : (s.w.putObj l o').heap[c.b]? = s.w.heap[c.b]? := World.putObj_heap_other hb
    exact ⟨(World.cell?_of_block (a := ⟨c.b, o, none⟩) hh).trans h1, (World.frozen?_of_block (a := ⟨c.b, o, none⟩) hh).trans h2⟩
  · show c.b < (s.w.putObj l o').heap.size
    rw [World.putObj_size]
    exact hs.lt j c hc
/-- The parameters' slots, in a round's act. -/
theorem round_tmps {N : Nat} : ∀ (ps : List Nat) (vs : List Value) (t : Array Value), t.size = N → (∀ i ∈ ps, i < N) → nodupN ps = true → ps.length = vs.length →
    ((ps.zip vs).foldl (fun tmps (t, a) => tmps.setIfInBounds t a) t).size = N ∧
    ∀ i, ((ps.zip vs).foldl (fun tmps (t, a) => tmps.setIfInBounds t a) t).getD i undef = match lk (ps.zip (vs.map SV.v)) i with | some x => x.val | none => t.getD i undef
  | [], _, t, ht, _, _, _ => ⟨by simpa using ht, fun i => by simp [lk]⟩
  | p :: ps, [], t, ht, _, _, hl => by simp at hl
  | p :: ps, v :: vs, t, ht, hp, hn, hl => by
    simp only [nodupN, Bool.and_eq_true, Bool.not_eq_true'] at hn
    obtain ⟨h1, h2⟩ := round_tmps ps vs (t.setIfInBounds p v) (by simpa using ht) (fun i hi => hp i (List.mem_cons_of_mem _ hi)) hn.2 (by simpa using hl)
    refine ⟨h1, fun i => ?_⟩
    simp only [List.zip_cons_cons, List.foldl_cons, List.map_cons] at h2 ⊢
    rw [h2 i, lk_cons]
    by_cases e : p = i
    · subst e
      rw [if_pos rfl]
      have hno : lk (ps.zip (vs.map SV.v)) p = none := by
        cases hx : lk (ps.zip (vs.map SV.v)) p with
        | none => rfl
        | some x =>
          have := (List.of_mem_zip (lk_known hx)).1
          have hm : memN p ps = true := by
            clear h2 h1 hx hp hn hl
            induction ps with
            | nil => cases this
            | cons q r ih =>
              simp only [memN]
              cases hb : Nat.beq q p with
              | true => rfl
              | false =>
                rcases List.mem_cons.1 this with e | h
                · subst e; rw [Nat.beq_refl] at hb; cases hb
                · exact ih h
          rw [hm] at hn; simp at hn
      rw [hno]
      have : p < t.size := by rw [ht]; exact hp p (List.mem_cons_self ..)
      simp [Array.getD_eq_getD_getElem?, this, SV.val]
    · rw [if_neg e]
      cases lk (ps.zip (vs.map SV.v)) i with
      | some x => rfl
      | none => simp [Array.getD_eq_getD_getElem?, Array.getElem?_setIfInBounds, e]
theorem alC_intro {c : CTy} {K : Value → Prop} (h : ∀ v, HasC c v → K v) : alC c K := by
  cases c with
  | agg l => exact alIs_intro fun vs hv => h _ ⟨vs, hv, rfl⟩
  | row l => exact alEs_intro fun vs hv => h _ ⟨vs, hv, rfl⟩
  | _ => simp only [alC] <;> intros <;> refine h _ ?_ <;> simp [HasC]
theorem alCs_intro : ∀ {ts : List CTy} {K : List Value → Prop}, (∀ vs, HasCs ts vs → K vs) → alCs ts K
  | [], K, h => h [] trivial
  | c :: r, K, h => alC_intro fun v hv => alCs_intro fun vs hvs => h (v :: vs) ⟨hv, hvs⟩
theorem sameNs_eq : ∀ {a b : List Nat}, sameNs a b = true → a = b
  | [], [], _ => rfl
  | [], _ :: _, h => by cases h
  | _ :: _, [], h => by cases h
  | x :: r, y :: t, h => by
    simp only [sameNs, Bool.and_eq_true] at h
    rw [natBeq h.1, sameNs_eq h.2]
/-- How the statement is left. -/
theorem rangeEnds_ok {l : Nat} {rec : LoopState → Option Code → Obj} {S : Option Code → St} {w : World} {K : Exit → St → Prop} : ∀ {ids : List Nat} {t : Bool}, rangeEnds l rec S w K ids t →
    (w.heap[l]? = some (rec .ready none) ∧ K .normal (S none)) ∨ (w.heap[l]? = some (rec .done (some .ret)) ∧ K .ret (S (some .ret))) ∨ ∃ id, w.heap[l]? = some (rec .done (some (.exit id))) ∧ K (.exit id) (S (some (.exit id)))
  | [], false, h => .inl h
  | [], true, h => h.elim .inl fun h => .inr (.inl h)
  | id :: r, t, h => h.elim (fun h => .inr (.inr ⟨id, h⟩)) rangeEnds_ok
theorem RangeVal_elim {P : Program} {fv y : Value} {w : World} {R : World → Prop} (h : RangeVal P fv y w R) :
    ∃ k first cap, fv = .func (.func k) first cap ∧ isGo P k = true ∧ Rets P k (first ++ #[y] ++ cap) w fun _ w' => R w' := by
  unfold RangeVal at h
  split at h
  · rename_i k first cap
    exact ⟨k, first, cap, rfl, h.1, h.2⟩
  · exact h.elim

theorem range_sound {P : Program} {N : Nat} {r : Option Nat} {A : LoopAnn} {g : Operand} {ps : Array Tmp} {assign body : Code} {exits : List Nat} {ret : Bool} {vcA vcB : Nat → (Exit → St → Prop) → St → Prop} {K : Exit → St → Prop} {s : St} {a : Act}
    (hng : noNG P) (hr : Rel N (marks s.defs) s a) (hs : Sat s)
    (IHa : ∀ l K' s' a', Rel N (marks s'.defs) s' a' → Sat s' → vcA l K' s' → assign.wpIn (fenceR (some l)) 0 P (QK N (fun i => writes i assign = true) s' a' K') a' s'.w)
    (IHb : ∀ l K' s' a', Rel N (marks s'.defs) s' a' → Sat s' → vcB l K' s' → body.wpIn (fenceR (some l)) 0 P (QK N (fun i => writes i body = true) s' a' K') a' s'.w)
    (h : vcRange P N r A g ps.toList exits ret vcA vcB K s) :
    (Code.rangeFunc g ps assign body).wpIn (fenceR r) 0 P (QK N (fun i => writes i (.rangeFunc g ps assign body) = true) s a K) a s.w := by
  unfold vcRange at h
  split at h
  rotate_left
  · exact h.elim
  rename_i fv hg
  obtain ⟨hc, h⟩ := cond_ok h
  simp only [Bool.and_eq_true] at hc
  obtain ⟨⟨⟨hsame, hnod⟩, hlt⟩, hcells⟩ := hc
  have hps := sameNs_eq hsame
  have h := knownK_ok h (knowns_ok hs)
  have hgv : a.eval g = fv := hr.agrees [g] g (by simp) _ hg
  refine wpIn_rangeFunc fun fn hfn => ?_
  let rec_ : LoopState → Option Code → Obj := fun st p => .loop { state := st, pending := p, fn, tmps := a.tmps, params := ps, assign, body, defers := s.w.heap.size }
  have hrun := run_enterLoop_outer (w := s.w) (P := P) fn a.tmps ps assign body
  have hpn : ∀ i ∈ ps.toList, i < N := fun i hi => by
    have := List.all_eq_true.1 hlt i hi
    simpa [Nat.blt_eq] using this
  have hstate : ∀ (cs : List Value) (w2 : World) (p : Option Code) (st : LoopState) (q : Option Code), Known w2 (knowns (setCells s.chs A.cells cs)) → w2.heap[s.w.heap.size + 1]? = some (rec_ st q) →
      ∃ s' : St, s' = { s with chs := setCells s.chs A.cells cs, w := w2.putObj (s.w.heap.size + 1) (rec_ .exhausted p), defs := s.w.heap.size :: s.defs } ∧
        Ev (fun i => writes i (.rangeFunc g ps assign body) = true) s a s' { a with defers := [markB s.w.heap.size] ++ a.defers } ∧ Rel N (marks s'.defs) s' { a with defers := [markB s.w.heap.size] ++ a.defers } ∧ Sat s' := by
    intro cs w2 p st q hkn hl
    have h0 : Sat { s with chs := setCells s.chs A.cells cs, w := w2, defs := s.w.heap.size :: s.defs } := sat_of_known hs hcells hkn (fun _ _ _ _ h => h)
    refine ⟨_, rfl, ⟨setCells_forth, fun _ _ => rfl⟩, ⟨hr.1, ?_, hr.2.2⟩, Sat.putObj (l := s.w.heap.size + 1) (o := rec_ st q) (o' := rec_ .exhausted p) h0 hl rfl⟩
    show [markB s.w.heap.size] ++ a.defers = markB s.w.heap.size :: marks s.defs
    rw [hr.2.1]; rfl
  have hR := h rec_ (fun _ _ => rfl) (alCs_intro fun vs hvs => alCs_intro fun cs hcs => ?_)
  · obtain ⟨k, first, cap, rfl, hgo, hR⟩ := RangeVal_elim hR
    generalize hw1 : ((s.w.alloc (.deferred (some []))).alloc (.loop { state := .ready, pending := none, fn, tmps := a.tmps, params := ps, assign, body, defers := s.w.heap.size })) = w1 at hrun
    refine ⟨s.w.heap.size + 1, [markB s.w.heap.size], w1, { target := .fn (.func k) cap, args := first ++ #[.func (.yield (s.w.heap.size + 1)) #[] #[]] }, w1, k, first ++ #[.func (.yield (s.w.heap.size + 1)) #[] #[]] ++ cap, w1, hrun, ?_, fun f' _ => trivial, ?_, fun h => (by cases h), ?_⟩
    · simp only [resolve, rangeCall, hgv, Deferred.ofValue, Sem.run_pure, List.map_toArray, List.map_cons, List.map_nil]
      rfl
    · simp only [invoke]
      exact run_callFunc_go hng hgo
    subst hw1
    refine callsIn_wide.2 (Calls.mono hR ?_)
    rintro e w2 ⟨v, rfl, hex⟩
    obtain ⟨cs, _, hkn, hend⟩ := exCs_ex hex
    rcases rangeEnds_ok hend with ⟨hl, hK⟩ | ⟨hl, hK⟩ | ⟨id, hl, hK⟩
    · obtain ⟨s', e', h1, h2, h3⟩ := hstate cs w2 none _ _ hkn hl
      refine ⟨none, _, run_endLoop hl (by simp), s', h1, h2, h3, by rw [e'], by rw [e']; exact hK⟩
    · obtain ⟨s', e', h1, h2, h3⟩ := hstate cs w2 (some .ret) _ _ hkn hl
      refine ⟨some .ret, _, run_endLoop hl (by simp), wpIn_ret ⟨s', h1, h2, h3, by rw [e'], by rw [e']; exact hK⟩⟩
    · obtain ⟨s', e', h1, h2, h3⟩ := hstate cs w2 (some (.exit id)) _ _ hkn hl
      refine ⟨some (.exit id), _, run_endLoop hl (by simp), wpIn_exit ⟨s', h1, h2, h3, by rw [e'], by rw [e']; exact hK⟩⟩
  · intro w R hrec hkn hround
    have hlen : vs.length = ps.size := by
      have h1 := HasCs_len hvs
      have h2 := congrArg List.length hps
      simp only [List.length_map, Array.length_toList] at h1 h2
      omega
    obtain ⟨t1, t2⟩ := round_tmps ps.toList vs a.tmps hr.1 hpn hnod (by simpa using hlen.symm)
    have hfold : ((ps.zip vs.toArray).foldl (fun tmps (t, a) => tmps.setIfInBounds t a) a.tmps) = ((ps.toList.zip vs).foldl (fun tmps (t, a) => tmps.setIfInBounds t a) a.tmps) := by
      rw [← Array.foldl_toList]; simp
    refine ⟨fn, ((ps.zip vs.toArray).foldl (fun tmps (t, a) => tmps.setIfInBounds t a) a.tmps), assign, body, ?_, ?_⟩
    · have := run_yield (P := P) (args := vs.toArray) hrec (by simpa using hlen)
      simpa using this
    refine roundIn_of_wpIn (F := Fence.wide) (n := 0) trivial ?_
    rw [hfold]
    have hrel : Rel N (marks []) { env := ps.toList.zip (vs.map SV.v) ++ s.env, chs := setCells s.chs A.cells cs, esc := s.esc, w := w, defs := [] } { tmps := ((ps.toList.zip vs).foldl (fun tmps (t, a) => tmps.setIfInBounds t a) a.tmps), defers := [] } := by
      refine ⟨t1, rfl, fun i x hx => ?_⟩
      show (((ps.toList.zip vs).foldl (fun tmps (t, a) => tmps.setIfInBounds t a) a.tmps)).getD i undef = x.val
      rw [t2 i]
      have hap : ∀ (l m : List (Nat × SV)), lk (l ++ m) i = match lk l i with | some x => some x | none => lk m i := by
        intro l m
        induction l with
        | nil => rfl
        | cons p r ih =>
          obtain ⟨j, y⟩ := p
          simp only [List.cons_append, lk_cons]
          split
          · rfl
          · exact ih
      rw [hap] at hx
      cases hz : lk (ps.toList.zip (vs.map SV.v)) i with
      | some y => rw [hz] at hx; simp only [Option.some.injEq] at hx ⊢; rw [hx]
      | none => rw [hz] at hx; exact hr.2.2 i x hx
    have hsat : Sat { env := ps.toList.zip (vs.map SV.v) ++ s.env, chs := setCells s.chs A.cells cs, esc := s.esc, w := w, defs := [] } := by
      refine sat_of_known hs hcells hkn fun i b j o hx => ?_
      rcases lk_zipc hx with ⟨_, v, _, _, e⟩ | hx
      · cases e
      · exact hx
    refine wpIn_mono (IHa _ _ _ _ hrel hsat hround) ?_
    rintro e a1 w1 ⟨s1, _, hr1, hs1, rfl, hK⟩
    cases e with
    | normal =>
      obtain ⟨hrec1, hB⟩ := hK
      refine ⟨_, run_beginRound hrec1 rfl, ?_⟩
      refine wpIn_mono (IHb _ _ { s1 with w := s1.w.putObj (s.w.heap.size + 1) (rec_ .busy none) } a1 hr1 (Sat.putObj hs1 hrec1 rfl) hB) ?_
      rintro e2 a2 w2 ⟨s2, _, _, hs2, rfl, hK2⟩
      have hK2 := knownK_ok hK2 (knowns_ok hs2)
      cases e2 with
      | normal => exact ⟨_, _, run_endRound none hK2.1, _, rfl, hK2.2⟩
      | ret => exact ⟨_, _, run_endRound (some .ret) hK2.1, _, rfl, hK2.2⟩
      | exit id => exact ⟨_, _, run_endRound (some (.exit id)) hK2.1, _, rfl, hK2.2⟩
      | _ => exact hK2.elim
    | _ => exact hK.elim

theorem join_sound {P : Program} {N : Nat} {r : Option Nat} {A : LoopAnn} {x y : Code} {vcA vcB : (Exit → St → Prop) → St → Prop} {K : Exit → St → Prop} {s : St} {a : Act}
    (hr : Rel N (marks s.defs) s a) (hs : Sat s)
    (IHa : ∀ K' s' a', Rel N (marks s'.defs) s' a' → Sat s' → vcA K' s' → x.wpIn (fenceR r) 0 P (QK N (fun i => writes i x = true) s' a' K') a' s'.w)
    (IHb : ∀ K' s' a', Rel N (marks s'.defs) s' a' → Sat s' → vcB K' s' → y.wpIn (fenceR r) 0 P (QK N (fun i => writes i y = true) s' a' K') a' s'.w)
    (h : vcJoin A x vcA vcB K s) : (Code.seq x y).wpIn (fenceR r) 0 P (QK N (fun i => writes i (.seq x y) = true) s a K) a s.w := by
  unfold vcJoin at h
  split at h
  rotate_left
  · exact h.elim
  rename_i cs0 hcs0
  obtain ⟨hkw, h⟩ := cond_ok h
  obtain ⟨I, hB, hA⟩ := h
  refine wpIn_seq (wpIn_mono (IHa _ s a hr hs hA) ?_)
  rintro e a2 w2 ⟨s2, hev2, hr2, hs2, rfl, hK⟩
  have hev1 : Ev (fun i => writes i (.seq x y) = true) s a s2 a2 := hev2.mono fun i hi => by simp only [writes, hi, Bool.true_or]
  have hnw : ∀ i ∈ A.keep, ¬ (writes i x = true) := by
    intro i hi hw
    have := List.all_eq_true.1 hkw i hi
    rw [hw] at this; cases this
  cases e with
  | normal =>
    simp only at hK
    split at hK
    · rename_i vs' cs' hv' hc'
      obtain ⟨hdefs, hK⟩ := defsK_ok hK
      obtain ⟨hsame, hK1⟩ := sameK_ok hK
      have hr2 : Rel N (marks s.defs) s2 a2 := hdefs ▸ hr2
      have hreq := restVals_eq hev2.1 rfl hsame
      obtain ⟨h7, h8⟩ : HasCs (A.carried.map (·.2)) vs' ∧ HasCs (A.cells.map (·.2.2)) cs' := HasCs_app (apF_has hK1) (by simpa using (slotVals_some hv').1)
      have hkp : ∀ i z, lk (keepEnv s.env A.keep) i = some z → a2.tmps.getD i undef = z.val := fun i z hz => by
        obtain ⟨h1, h2⟩ := lk_keep hz
        rw [hev2.2 i (hnw i h1)]
        exact hr.2.2 i z h2
      obtain ⟨h9, h10⟩ := head_ok (A := A) hs hs2 hev2.1 hr2 hv' hc' hcs0 hkp (fun j c d o u v hc hd hx hy hcar => by
        have := hreq j c d hc hd
        rw [Nat.zero_add] at this
        obtain ⟨d', hd', _, hk'⟩ := hev2.1 j c hc
        have e : d' = d := Option.some.inj (hd'.symm.trans hd)
        subst e
        exact restC_eq hk' this o v u ((lk_mem (hs2.keys j d' hd)).1 hy) (hs2.keys j d' hd) hx hcar)
      have hvc := alCs_use (alCs_use hB h7) h8 s2.w hK1
      have hvc := knownK_ok hvc (knowns_ok h10)
      refine wpIn_mono (IHb K (headSt A s vs' cs' s2.w) a2 h9 h10 hvc) ?_
      rintro e a3 w3 ⟨s3, hev3, h3⟩
      exact ⟨s3, ⟨(setCells_forth (l := A.cells) (vs := cs')).trans hev3.1, fun i hi => (hev3.2 i (fun hw => hi (by simp only [writes, hw, Bool.or_true]))).trans (hev1.2 i hi)⟩, h3⟩
    · exact hK.elim
  | exit id => exact ⟨s2, hev1, hr2, hs2, rfl, hK⟩
  | goto l => exact ⟨s2, hev1, hr2, hs2, rfl, hK⟩
  | ret => exact ⟨s2, hev1, hr2, hs2, rfl, hK⟩
  | panic c => exact ⟨s2, hev1, hr2, hs2, rfl, hK⟩
  | outgrown => exact ⟨s2, hev1, hr2, hs2, rfl, hK⟩

theorem vcCode_sound {P : Program} {N : Nat} {ann : List (Nat × LoopAnn)} (hng : noNG P) (hm : P.follows .mixedOrders = true) :
    ∀ (c : Code) (r : Option Nat) (K : Exit → St → Prop) (s : St) (a : Act), Rel N (marks s.defs) s a → Sat s → vcCode P N r ann c K s → c.wpIn (fenceR r) 0 P (QK N (fun i => writes i c = true) s a K) a s.w
  | .skip, r, K, s, a, hr, hs, h => wpIn_skip ⟨s, Ev.refl _ _ _, hr, hs, rfl, h⟩
  | .label l, r, K, s, a, hr, hs, h => wpIn_label ⟨s, Ev.refl _ _ _, hr, hs, rfl, h⟩
  | .exit id, r, K, s, a, hr, hs, h => wpIn_exit ⟨s, Ev.refl _ _ _, hr, hs, rfl, h⟩
  | .ret, r, K, s, a, hr, hs, h => wpIn_ret ⟨s, Ev.refl _ _ _, hr, hs, rfl, h⟩
  | .seq x y, r, K, s, a, hr, hs, h => by
    unfold vcCode at h
    split at h
    · exact join_sound hr hs (fun K' s' a' h1 h2 h3 => vcCode_sound hng hm x r K' s' a' h1 h2 h3) (fun K' s' a' h1 h2 h3 => vcCode_sound hng hm y r K' s' a' h1 h2 h3) h
    refine wpIn_seq (wpIn_mono (vcCode_sound hng hm x r _ s a hr hs h) ?_)
    rintro e a' w' ⟨s', hev, hr', hs', rfl, hK⟩
    have hev1 : Ev (fun i => writes i (.seq x y) = true) s a s' a' := hev.mono fun i hi => by simp only [writes, hi, Bool.true_or]
    cases e with
    | normal =>
      refine wpIn_mono (vcCode_sound hng hm y r _ s' a' hr' hs' hK) ?_
      rintro e a2 w2 ⟨s2, hev2, h2⟩
      exact ⟨s2, hev1.trans (hev2.mono fun i hi => by simp only [writes, hi, Bool.or_true]), h2⟩
    | exit id => exact ⟨s', hev1, hr', hs', rfl, hK⟩
    | goto l => exact ⟨s', hev1, hr', hs', rfl, hK⟩
    | ret => exact ⟨s', hev1, hr', hs', rfl, hK⟩
    | panic c => exact ⟨s', hev1, hr', hs', rfl, hK⟩
    | outgrown => exact ⟨s', hev1, hr', hs', rfl, hK⟩
  | .cond c x y, r, K, s, a, hr, hs, h => by
    unfold vcCode at h
    split at h
    · rename_i t hc
      have he : a.eval c = .bool t := hr.agrees [c] c (by simp) _ hc
      cases t with
      | true =>
        refine wpIn_cond_true he (wpIn_mono (vcCode_sound hng hm x r _ s a hr hs h) ?_)
        rintro e a2 w2 ⟨s2, hev2, h2⟩
        exact ⟨s2, hev2.mono fun i hi => by simp only [writes, hi, Bool.true_or], h2⟩
      | false =>
        refine wpIn_cond_false he (wpIn_mono (vcCode_sound hng hm y r _ s a hr hs h) ?_)
        rintro e a2 w2 ⟨s2, hev2, h2⟩
        exact ⟨s2, hev2.mono fun i hi => by simp only [writes, hi, Bool.or_true], h2⟩
    · exact h.elim
  | .block id c, r, K, s, a, hr, hs, h => by
    refine wpIn_block (wpIn_mono (vcCode_sound hng hm c r _ s a hr hs h) ?_)
    rintro e a' w' ⟨s', hev, hr', hs', rfl, hK⟩
    cases e with
    | exit i =>
      simp only [Exit.inBlock]
      cases hb : Nat.beq i id with
      | true =>
        simp only [hb, cond_true] at hK
        rw [if_pos (natBeq hb)]
        exact ⟨s', hev, hr', hs', rfl, hK⟩
      | false =>
        simp only [hb, cond_false] at hK
        rw [if_neg (natBeq_false hb)]
        exact ⟨s', hev, hr', hs', rfl, hK⟩
    | normal => exact ⟨s', hev, hr', hs', rfl, hK⟩
    | goto l => exact ⟨s', hev, hr', hs', rfl, hK⟩
    | ret => exact ⟨s', hev, hr', hs', rfl, hK⟩
    | panic c => exact ⟨s', hev, hr', hs', rfl, hK⟩
    | outgrown => exact ⟨s', hev, hr', hs', rfl, hK⟩
  | .region id ops false, r, K, s, a, hr, hs, h => by
    refine wpIn_region_list (vcOps_sound (r := r) (s0 := s) (a0 := a) (W := fun i => writes i (.region id ops false) = true) hng (fun s' a' hev hr' hs' hK => ⟨{ s' with defs := s.defs }, hev, hr', hs'.defs _, rfl, hK⟩) ops.toList s a (fun o ho d hd => writesOps_mem ho hd) (Ev.refl _ _ _) hr hs h)
  | .region id ops true, r, K, s, a, hr, hs, h => by
    unfold vcCode at h
    obtain ⟨hok, h⟩ := cond_ok h
    have hok := regOk_spec hok
    refine wpIn_region_any hm ?_
    have hr' : Rel N (marks s.defs) { s with w := s.w.drew } a := hr
    have := draw_sound (r := r) (s0 := s) (a0 := a) (W := fun i => writes i (.region id ops true) = true) (Q := QK N (fun i => writes i (.region id ops true) = true) s a K) hng hok
      (fun k o d ho hd => writesOps_mem (by rw [nth_eq] at ho; exact List.mem_of_getElem? ho) hd)
      (fun s' a' hev hr' hs' hK => ⟨{ s' with defs := s.defs }, hev, hr', hs'.defs _, rfl, hK⟩) _ 0 [] { s with w := s.w.drew } (fun _ => undef) (Evo.refl _) h ops.size (Array.replicate ops.size false) a (inv_start hr' hs.drew) (fun _ _ => rfl) (cntL_le _ _)
    exact this
  | .loop body, r, K, s, a, hr, hs, h => by
    unfold vcCode vcLoop at h
    split at h
    · rename_i vs0 cs0 hvs0 hcs0
      obtain ⟨hkw, h⟩ := cond_ok h
      obtain ⟨I, m, hI0, hround⟩ := h
      generalize annAt ann (firstReg body) = A at *
      -- typed lists
      have hlen : ∀ {vs cs : List Value} {s' : St}, slotVals s'.env A.carried = some vs → ∀ {w}, apF False (A.carried.map (·.2) ++ A.cells.map (·.2.2)) I (vs ++ cs) w → HasCs (A.carried.map (·.2)) vs ∧ HasCs (A.cells.map (·.2.2)) cs := by
        intro vs cs s' hv w hap
        exact HasCs_app (apF_has hap) (by simpa using (slotVals_some hv).1)
      have hnw : ∀ i ∈ A.keep, ¬ (writes i body = true) := by
        intro i hi hw
        have := List.all_eq_true.1 hkw i hi
        rw [hw] at this; cases this
      let J : (List Value × List Value × World) → Act → World → Prop := fun x a' w =>
        x.2.2 = w ∧ HasCs (A.carried.map (·.2)) x.1 ∧ HasCs (A.cells.map (·.2.2)) x.2.1 ∧ Rel N (marks s.defs) (headSt A s x.1 x.2.1 w) a' ∧ Sat (headSt A s x.1 x.2.1 w) ∧ apF False (A.carried.map (·.2) ++ A.cells.map (·.2.2)) I (x.1 ++ x.2.1) w ∧
          Fr (fun i => writes i (.loop body) = true) a a'
      have hkp : ∀ a' : Act, Fr (fun i => writes i (.loop body) = true) a a' → ∀ i x, lk (keepEnv s.env A.keep) i = some x → a'.tmps.getD i undef = x.val := fun a' hfr i x hx => by
        obtain ⟨h1, h2⟩ := lk_keep hx
        rw [hfr i (hnw i h1)]
        exact hr.2.2 i x h2
      have hstart : J (vs0, cs0, s.w) a s.w := by
        obtain ⟨h1, h2⟩ := hlen hvs0 hI0
        obtain ⟨h3, h4⟩ := head_ok (A := A) hs hs (Evo.refl _) hr hvs0 hcs0 hcs0 (hkp a fun _ _ => rfl) (fun j c d o x y hc hd hx hy _ => by
          have : c = d := Option.some.inj (hc.symm.trans hd)
          subst this
          have : x = y := Option.some.inj (hx.symm.trans hy)
          subst this; rfl)
        exact ⟨rfl, h1, h2, h3, h4, hI0, fun _ _ => rfl⟩
      refine wpIn_loopX J (fun x => apF 0 (A.carried.map (·.2) ++ A.cells.map (·.2.2)) m (x.1 ++ x.2.1) x.2.2) ?_ (vs0, cs0, s.w) hstart
      rintro ⟨vs, cs, w0⟩ a1 w1 ⟨e0, h1, h2, h3, h4, h5, h6⟩
      simp only at e0 h1 h2 h3 h4 h5
      subst e0
      have hvc := alCs_use (alCs_use hround h1) h2 w0 h5
      have hvc := knownK_ok hvc (knowns_ok h4)
      have := vcCode_sound hng hm body r _ (headSt A s vs cs w0) a1 h3 h4 hvc
      refine wpIn_mono this ?_
      rintro e a2 w2 ⟨s2, hev2, hr2, hs2, rfl, hK⟩
      have hevc : Evo s.chs s2.chs := (setCells_forth (l := A.cells) (vs := cs)).trans hev2.1
      have hfr2 : Fr (fun i => writes i (.loop body) = true) a a2 := fun i hi => (hev2.2 i hi).trans (h6 i hi)
      cases e with
      | normal =>
        simp only at hK
        split at hK
        · rename_i vs' cs' hv' hc'
          obtain ⟨hdefs, hK⟩ := defsK_ok hK
          obtain ⟨hsame, hK1, hK2⟩ := sameK_ok hK
          have hr2 : Rel N (marks s.defs) s2 a2 := hdefs ▸ hr2
          have hreq := restVals_eq hevc rfl hsame
          obtain ⟨h7, h8⟩ := hlen hv' hK1
          obtain ⟨h9, h10⟩ := head_ok (A := A) hs hs2 hevc hr2 hv' hc' hcs0 (hkp a2 hfr2) (fun j c d o x y hc hd hx hy hcar => by
            have := hreq j c d hc hd
            rw [Nat.zero_add] at this
            obtain ⟨d', hd', _, hk'⟩ := hevc j c hc
            have e : d' = d := Option.some.inj (hd'.symm.trans hd)
            subst e
            exact restC_eq hk' this o y x ((lk_mem (hs2.keys j d' hd)).1 hy) (hs2.keys j d' hd) hx hcar)
          exact ⟨(vs', cs', s2.w), ⟨rfl, h7, h8, h9, h10, hK1, hfr2⟩, hK2⟩
        · exact hK.elim
      | exit i => exact ⟨s2, ⟨hevc, hfr2⟩, hr2, hs2, rfl, hK⟩
      | goto l => exact ⟨s2, ⟨hevc, hfr2⟩, hr2, hs2, rfl, hK⟩
      | ret => exact ⟨s2, ⟨hevc, hfr2⟩, hr2, hs2, rfl, hK⟩
      | panic c => exact ⟨s2, ⟨hevc, hfr2⟩, hr2, hs2, rfl, hK⟩
      | outgrown => exact ⟨s2, ⟨hevc, hfr2⟩, hr2, hs2, rfl, hK⟩
    · exact h.elim
  | .rangeFunc g ps x y, r, K, s, a, hr, hs, h =>
    range_sound hng hr hs (fun l K' s' a' h1 h2 h3 => vcCode_sound hng hm x (some l) K' s' a' h1 h2 h3) (fun l K' s' a' h1 h2 h3 => vcCode_sound hng hm y (some l) K' s' a' h1 h2 h3) h
  | .scope c, r, K, s, a, hr, hs, h => by
    refine wpIn_scopeX (wpIn_mono (vcCode_sound hng hm c r _ s a hr hs h) ?_)
    rintro e a' w' ⟨s', hev, hr', hs', rfl, hK⟩
    cases e with
    | goto l => exact hK.elim
    | normal => exact ⟨s', hev, hr', hs', rfl, hK⟩
    | exit i => exact ⟨s', hev, hr', hs', rfl, hK⟩
    | ret => exact ⟨s', hev, hr', hs', rfl, hK⟩
    | panic c => exact ⟨s', hev, hr', hs', rfl, hK⟩
    | outgrown => exact ⟨s', hev, hr', hs', rfl, hK⟩
  | .goto l, r, K, s, a, hr, hs, h => h.elim
  | .refuse why, r, K, s, a, hr, hs, h => h.elim

end Go.SX
set_option linter.unusedSimpArgs false
set_option linter.unusedVariables false
namespace Go.SX
open Go

def resOne (tmps : Array Value) : ResultVar → Sem Value
  | .tmp t => pure (tmps.getD t undef)
  | .cell a t => do loadVar t (← asAddr (tmps.getD a undef))
def pack (l : List Value) : Value := if l.length = 1 then l.getD 0 undef else .tuple l.toArray
theorem retC_nil {P : Program} {acc : List Value} {s : St} {R : Value → Prop} (h : retC P [] acc s R) : R (pack acc) := by
  unfold retC at h
  match acc, h with
  | [], h => exact h
  | [v], h => exact h
  | u :: v :: r, h => simpa [pack] using h
theorem retC_sound {P : Program} {N : Nat} {D : List Deferred} {a : Act} {R : Value → Prop} {s : St} (hr : Rel N D s a) (hs : Sat s) : ∀ (rs : List ResultVar) (acc : List Value), retC P rs acc s R →
    ∃ vs, (rs.mapM (m := Sem) (resOne a.tmps)).run P s.w = .ok vs s.w ∧ R (pack (acc ++ vs))
  | [], acc, h => ⟨[], rfl, by simpa using retC_nil h⟩
  | .tmp t :: r, acc, h => by
    have h' : (match lk s.env t with | some x => retC P r (acc ++ [x.val]) s R | none => False) := by
      cases r <;> cases acc <;> exact h
    split at h'
    · rename_i x hx
      obtain ⟨vs, h1, h2⟩ := retC_sound hr hs r _ h'
      refine ⟨x.val :: vs, ?_, by simpa using h2⟩
      simp only [List.mapM_cons, resOne, Sem.run_bind, Sem.run_pure, Result.andThen_ok, h1, hr.2.2 t x hx]
    · exact h'.elim
  | .cell c t :: r, acc, h => by
    have h' : (match lk s.env c with | some x => loadC P t x s fun y _ _ => retC P r (acc ++ [y.val]) s R | none => False) := by
      cases r <;> cases acc <;> exact h
    split at h'
    · rename_i x hx
      have hv := hr.2.2 c x hx
      have hwf : wfV s.chs x := fun b j o e => by subst e; exact hs.wfE c b j o hx
      obtain ⟨y, e, G, hK, _, hG, hrun⟩ := loadC_sound hs hwf h'
      have hrun := hrun s.w hG
      obtain ⟨vs, h1, h2⟩ := retC_sound hr hs r _ hK
      refine ⟨y.val :: vs, ?_, by simpa using h2⟩
      have h3 : (resOne a.tmps (.cell c t)).run P s.w = .ok y.val s.w := by
        simp only [resOne, hv]
        unfold loadC at h'
        obtain ⟨_, h'⟩ := cond_ok h'
        cases x with
        | p b j off => simpa only [SV.val, loadAt_eq, asAddr, pure_bind] using hrun
        | v z =>
          cases z with
          | pointer q =>
            cases q with
            | none => exact h'.elim
            | some ad => simpa only [SV.val, loadAt_eq, asAddr, pure_bind] using hrun
          | _ => exact h'.elim
      simp only [List.mapM_cons, Sem.run_bind, h3, Sem.run_pure, Result.andThen_ok, h1]
    · exact h'.elim
theorem results_eq (fn : Func) (tmps : Array Value) : results fn tmps = (fn.results.mapM (resOne tmps) >>= fun vs => pure (if h : vs.size = 1 then vs[0] else .tuple vs)) := by
  unfold results resOne
  rfl
theorem results_run {P : Program} {N : Nat} {D : List Deferred} {a : Act} {R : Value → Prop} {s : St} {fn : Func} (hr : Rel N D s a) (hs : Sat s) (h : retC P fn.results.toList [] s R) : ∃ v, (results fn a.tmps).run P s.w = .ok v s.w ∧ R v := by
  obtain ⟨vs, h1, h2⟩ := retC_sound hr hs _ _ h
  refine ⟨pack vs, ?_, by simpa using h2⟩
  rw [results_eq, Sem.run_bind, Array.mapM_eq_mapM_toList, Sem.run_map, h1]
  simp only [Result.andThen_ok, Sem.run_pure, pack]
  congr 1
  by_cases hl : vs.length = 1
  · have : vs.toArray.size = 1 := by simpa using hl
    rw [dif_pos this, if_pos hl]
    match vs, hl with
    | [v], _ => rfl
  · have : ¬ vs.toArray.size = 1 := by simpa using hl
    rw [dif_neg this, if_neg hl]
theorem args_env (args : List SV) (i : Nat) : lk (args.zipIdx.map fun (x, i) => (i, x)) i = args[i]? := by
  rw [lk_zip]; simp

theorem leaves_ends {P : Program} {N : Nat} {fn : Func} {a : Act} {R : Ending → World → Prop} : ∀ (ds : List Nat) (s : St), Rel N (marks s.defs) s a → Sat s → endD ds s.w (fun w' => retC P fn.results.toList [] { s with w := w' } fun v => R (.returned v) w') →
    LeavesInM Fence.wide 0 P fn a.tmps R (marks ds) .returning s.w
  | [], s, hr, hs, h => by
    obtain ⟨v, h1, h2⟩ := results_run (s := s) hr hs h
    exact ⟨v, h1, h2⟩
  | d :: ds, s, hr, hs, ⟨h1, h2⟩ => by
    have hs' : Sat { s with w := s.w.putObj d (.deferred none) } := hs.putObj h1 rfl
    exact ⟨by simp, .inl ⟨d, _, rfl, run_takeDeferred h1, leaves_ends ds { s with w := s.w.putObj d (.deferred none) } hr hs' h2⟩⟩

/-- **The condition of a function is a contract.** -/
theorem vcFn_sound {P : Program} {ann : List (Nat × LoopAnn)} {k : FuncId} {fn : Func} {args : List SV} {chs : List Ch} {w : World} {R : Ending → World → Prop}
    (hng : noNG P) (hm : P.follows .mixedOrders = true) (hf : P.funcs[k]? = some fn) (hs : Sat ⟨args.zipIdx.map fun (x, i) => (i, x), chs, [], w, []⟩)
    (h : vcFn P ann fn args chs w R) : Calls P k (args.map SV.val).toArray w R := by
  unfold vcFn at h
  split at h
  · rename_i c hc
    obtain ⟨hle, h⟩ := cond_ok h
    have hle := Nat.le_of_ble_eq_true hle
    refine callsIn_wide.1 (callsIn_of_wp_marks (F := Fence.wide) (n := 0) hf hc trivial ?_)
    have hr : Rel fn.ntmps [] ⟨args.zipIdx.map fun (x, i) => (i, x), chs, [], w, []⟩ { tmps := (args.map SV.val).toArray ++ Array.replicate (fn.ntmps - (args.map SV.val).toArray.size) undef, defers := [] } := by
      refine ⟨by simp; omega, rfl, fun i x hx => ?_⟩
      simp only [args_env] at hx
      have hi : i < args.length := by
        rcases Nat.lt_or_ge i args.length with h | h
        · exact h
        · rw [List.getElem?_eq_none h] at hx; cases hx
      have hx' : args[i] = x := by rw [List.getElem?_eq_getElem hi] at hx; exact Option.some.inj hx
      simp [Array.getD_eq_getD_getElem?, Array.getElem?_append, hi, hx']
    have := vcCode_sound hng hm c none _ _ _ hr hs h
    refine wpIn_mono this ?_
    rintro e a w' ⟨s, _, hr', hs', rfl, hK⟩
    cases e with
    | normal =>
      show LeavesInM Fence.wide 0 P fn a.tmps R a.defers .returning s.w
      rw [hr'.2.1]
      exact leaves_ends _ s hr' hs' (knownK_ok hK (knowns_ok hs'))
    | ret =>
      show LeavesInM Fence.wide 0 P fn a.tmps R a.defers .returning s.w
      rw [hr'.2.1]
      exact leaves_ends _ s hr' hs' (knownK_ok hK (knowns_ok hs'))
    | _ => exact hK.elim
  · exact h.elim
/-- Without known blocks. -/
theorem Sat.plain {args : List Value} {w : World} : Sat ⟨(args.map SV.v).zipIdx.map fun (x, i) => (i, x), [], [], w, []⟩ := by
  refine ⟨fun j c h => by simp [nth] at h, fun j c h => by simp [nth] at h, fun j c h => by simp [nth] at h, fun i j c d h => by simp [nth] at h, fun i b j o h => ?_, fun k c o b j o' h => by simp [nth] at h⟩
  simp only [args_env, List.getElem?_map] at h
  cases hx : args[i]? <;> rw [hx] at h <;> simp at h
end Go.SX
