/- What the row needs, part 2. -/
import Derived.ProofKit
import Derived.MapKept
import Derived.Laws.CopyRow
import Derived.Lib.AppendZerosOnto
import Derived.Lib.ConvBytes
import Derived.Lib.SlBytesConst
import Derived.Lib.OthersKept
import Derived.Lib.SplitLaws
import Derived.Lib.Split
import Derived.Lib.Overlaps
import Derived.Test.YtbpknjldphckgaaDoorXsa
set_option linter.unusedSimpArgs false
set_option linter.unusedVariables false
namespace Go.SX
open Go

/-! ### Frames -/
theorem getD_put (a : Act) (d t : Nat) (v : Value) (hd : d < a.tmps.size) : (a.put (some d) v).tmps.getD t undef = if d = t then v else a.tmps.getD t undef := by
  simp only [Act.put, Array.getD_eq_getD_getElem?, Array.getElem?_setIfInBounds]
  by_cases h : d = t
  · subst h; simp [hd]
  · simp [h]
theorem size_put (a : Act) (d : Option Tmp) (v : Value) : (a.put d v).tmps.size = a.tmps.size := by cases d <;> simp [Act.put]
theorem defers_put (a : Act) (d : Option Tmp) (v : Value) : (a.put d v).defers = a.defers := by cases d <;> rfl
theorem Rel.put {N : Nat} {D : List Deferred} {s s' : St} {a : Act} {d : Option Tmp} {x : SV} (h : Rel N D s a) (he : s'.env = s.env) (hd : ∀ t, d = some t → t < N) : Rel N D (putS s' d x) (a.put d x.val) := by
  obtain ⟨h1, h2, h3⟩ := h
  refine ⟨by rw [size_put, h1], by rw [defers_put, h2], fun i y hy => ?_⟩
  cases d with
  | none =>
    simp only [putS, putE, he] at hy
    exact h3 i y hy
  | some d =>
    simp only [putS, putE, he, lk_cons] at hy
    rw [getD_put a d i _ (by rw [h1]; exact hd d rfl)]
    split at hy
    · rename_i e
      simp only [Option.some.injEq] at hy
      subst hy
      simp [e]
    · rename_i e
      simp only [e, if_false]
      exact h3 i y hy
theorem Rel.agrees {N : Nat} {D : List Deferred} {s : St} {a : Act} (h : Rel N D s a) (xs : List Operand) : Agrees s a.eval xs := by
  intro x _ y hy
  cases x with
  | tmp t => exact h.2.2 t y hy
  | const v => simp only [look, Option.some.injEq] at hy; subst hy; rfl
  | global g => simp only [look, Option.some.injEq] at hy; subst hy; rfl
  | func f => simp only [look, Option.some.injEq] at hy; subst hy; rfl
theorem Sat.put {s : St} (h : Sat s) {d : Option Tmp} {x : SV} (hx : wfV s.chs x) : Sat (putS s d x) := by
  refine ⟨h.cell, h.keys, h.lt, h.apart, fun i b j o he => ?_, h.wfC⟩
  cases d with
  | none => exact h.wfE i b j o he
  | some d =>
    simp only [putS, putE, lk_cons] at he
    split at he
    · simp only [Option.some.injEq] at he; exact hx b j o he
    · exact h.wfE i b j o he
theorem dstOk_lt {N : Nat} {o : Oper} (h : dstOk N o = true) : ∀ t, o.dst = some t → t < N := by
  intro t ht
  unfold dstOk at h
  rw [ht] at h
  exact natBlt h

/-! ### Guards -/
def sameSt (s s1 : St) : Prop := s1.chs = s.chs ∧ s1.w = s.w ∧ ∀ i, (lk s1.env i).map SV.val = (lk s.env i).map SV.val ∧ ∀ b j o, lk s1.env i = some (.p b j o) → lk s.env i = some (.p b j o)
theorem sameSt.refl (s : St) : sameSt s s := ⟨rfl, rfl, fun i => ⟨rfl, fun _ _ _ h => h⟩⟩
theorem sameSt.refine {s : St} {d : Nat} {g : Bool} (h : lk s.env d = some (.v (.bool g))) : sameSt s { s with env := (d, .v (.bool g)) :: s.env } := by
  refine ⟨rfl, rfl, fun i => ?_⟩
  simp only [lk_cons]
  by_cases hi : d = i
  · subst hi
    simp [h]
  · simp [hi]
theorem Rel.same {N : Nat} {D : List Deferred} {s s1 : St} {a : Act} (h : Rel N D s a) (hs : sameSt s s1) : Rel N D s1 a := by
  refine ⟨h.1, h.2.1, fun i x hx => ?_⟩
  have := (hs.2.2 i).1
  rw [hx] at this
  cases h2 : lk s.env i with
  | none => rw [h2] at this; cases this
  | some y =>
    rw [h2] at this
    simp only [Option.map_some, Option.some.injEq] at this
    rw [this]
    exact h.2.2 i y h2
theorem Sat.same {s s1 : St} (h : Sat s) (hs : sameSt s s1) : Sat s1 := by
  obtain ⟨h1, h2, h3⟩ := hs
  refine ⟨?_, ?_, ?_, ?_, ?_, ?_⟩
  · rw [h1, h2]; exact h.cell
  · rw [h1]; exact h.keys
  · rw [h1, h2]; exact h.lt
  · rw [h1]; exact h.apart
  · intro i b j o he
    rw [h1]
    exact h.wfE i b j o ((h3 i).2 b j o he)
  · rw [h1]; exact h.wfC
theorem guardC_sound {arr : Array Oper} {o : Oper} {s : St} {run skip : St → Prop} (h : guardC arr.toList o s run skip) :
    ∃ s1, sameSt s s1 ∧ ((run s1 ∧ ∀ tmps : Array Value, (∀ g d, o.guard = some g → gslot arr.toList g.1 = some d → ∀ x, lk s.env d = some x → tmps.getD d undef = x.val) → Region.wanted o (yielded arr tmps) = true) ∨
      (skip s1 ∧ ∀ tmps : Array Value, (∀ g d, o.guard = some g → gslot arr.toList g.1 = some d → ∀ x, lk s.env d = some x → tmps.getD d undef = x.val) → Region.wanted o (yielded arr tmps) = false)) := by
  unfold guardC at h
  split at h
  · rename_i hg
    exact ⟨s, .refl s, .inl ⟨h, fun _ _ => by simp [Region.wanted, hg]⟩⟩
  · rename_i j want hg
    split at h
    · exact h.elim
    · rename_i d hd
      have hslot : (arr[j]?).bind (·.dst) = some d := by
        unfold gslot at hd
        rw [nth_eq] at hd
        simp only [Array.getElem?_toList] at hd
        cases hj : arr[j]? with
        | none => rw [hj] at hd; cases hd
        | some o' => rw [hj] at hd; simpa using hd
      have hy : ∀ (tmps : Array Value) (v : Value), v ≠ undef → tmps.getD d undef = v → tmps[d]? = some v := by
        intro tmps v hv h
        rw [Array.getD_eq_getD_getElem?] at h
        cases ht : tmps[d]? with
        | none => rw [ht] at h; exact absurd h.symm hv
        | some u => rw [ht] at h; simp only [Option.getD_some] at h; rw [h]
      have hb : ∀ (tmps : Array Value) (g : Bool), tmps.getD d undef = .bool g → Region.wanted o (yielded arr tmps) = (g == want) := by
        intro tmps g h
        have := hy tmps (.bool g) (by simp [undef]) h
        simp only [Region.wanted, hg, yielded, hslot, Option.bind_some, this]
        cases g <;> cases want <;> rfl
      split at h
      · rename_i g hl
        have hr := sameSt.refine hl
        have hw : ∀ tmps : Array Value, (∀ g d, o.guard = some g → gslot arr.toList g.1 = some d → ∀ x, lk s.env d = some x → tmps.getD d undef = x.val) → tmps.getD d undef = .bool g := by
          intro tmps ht
          exact ht (j, want) d hg hd _ hl
        cases g <;> cases want <;> simp only [cond_true, cond_false] at h
        · exact ⟨_, hr, .inl ⟨h, fun tmps ht => by rw [hb tmps _ (hw tmps ht)]; rfl⟩⟩
        · exact ⟨_, hr, .inr ⟨h, fun tmps ht => by rw [hb tmps _ (hw tmps ht)]; rfl⟩⟩
        · exact ⟨_, hr, .inr ⟨h, fun tmps ht => by rw [hb tmps _ (hw tmps ht)]; rfl⟩⟩
        · exact ⟨_, hr, .inl ⟨h, fun tmps ht => by rw [hb tmps _ (hw tmps ht)]; rfl⟩⟩
      · rename_i ts hl
        refine ⟨s, .refl s, .inr ⟨h, fun tmps ht => ?_⟩⟩
        have h1 : tmps.getD d undef = .tuple ts := ht (j, want) d hg hd _ hl
        simp only [Region.wanted, hg, yielded, hslot, Option.bind_some]
        rw [Array.getD_eq_getD_getElem?] at h1
        cases h2 : tmps[d]? with
        | none => simp
        | some u =>
          rw [h2] at h1
          simp only [Option.getD_some] at h1
          subst h1
          simp
      · exact h.elim

theorem Ev.refl (W : Nat → Prop) (s : St) (a : Act) : Ev W s a s a := ⟨Evo.refl _, fun _ _ => rfl⟩
theorem Ev.trans {W : Nat → Prop} {a b c : St} {x y z : Act} (h : Ev W a x b y) (k : Ev W b y c z) : Ev W a x c z := ⟨h.1.trans k.1, fun i hi => (k.2 i hi).trans (h.2 i hi)⟩
theorem Ev.mono {W W' : Nat → Prop} {a b : St} {x y : Act} (h : Ev W a x b y) (hw : ∀ i, W i → W' i) : Ev W' a x b y := ⟨h.1, fun i hi => h.2 i fun h' => hi (hw i h')⟩
theorem Fr.put {W : Nat → Prop} {a0 a : Act} {d : Option Tmp} {v : Value} (h : Fr W a0 a) (hw : ∀ t, d = some t → W t) : Fr W a0 (a.put d v) := by
  intro i hi
  cases d with
  | none => exact h i hi
  | some d =>
    rw [← h i hi]
    have hne : ¬ d = i := fun e => hi (by rw [← e]; exact hw d rfl)
    simp [Act.put, Array.getD_eq_getD_getElem?, Array.getElem?_setIfInBounds, hne]
theorem Ev.same {W : Nat → Prop} {s0 s s1 : St} {a0 a : Act} (h : Ev W s0 a0 s a) (k : sameSt s s1) : Ev W s0 a0 s1 a := ⟨by rw [k.1]; exact h.1, h.2⟩
theorem Ev.ext {W : Nat → Prop} {s0 s s1 : St} {a0 a : Act} (h : Ev W s0 a0 s a) (k : Evo s.chs s1.chs) : Ev W s0 a0 s1 a := ⟨h.1.trans k, h.2⟩
theorem Ev.put {W : Nat → Prop} {s0 s : St} {a0 a : Act} {d : Option Tmp} {x : SV} {v : Value} (h : Ev W s0 a0 s a) (hw : ∀ t, d = some t → W t) : Ev W s0 a0 (putS s d x) (a.put d v) := ⟨h.1, h.2.put hw⟩

/-! ### One operation within the machine -/
theorem fenceR_fn (r : Option Nat) (f : FuncId) : (fenceR r).fn f := trivial
theorem wpIn_of_out {P : Program} {r : Option Nat} {o : Oper} {s : St} {a : Act} {K : SV → St → Prop} {next : Act → World → Prop} {Q : Exit → Act → World → Prop} (hp : plainOp o = true)
    (h : Out P ((execOp a.eval o).run P s.w) s K) (hn : ∀ x s', K x s' → Ext s s' → wfV s'.chs x → next (a.put o.dst x.val) s'.w) : o.wpIn (fenceR r) 0 P a s.w next Q := by
  refine ⟨fun f _ => fenceR_fn r f, ?_⟩
  rw [Oper.semAt_eq _ _ _ (fun c hc => by simp [plainOp, hc] at hp)]
  cases h with
  | value x s' h he hw hK => rw [h]; exact hn x s' hK he hw
  | skip s' h he hK => rw [h]; exact hn (.v undef) s' hK he (wfV_v _ _)
  | enter f args h hc =>
    rw [h]
    refine ⟨fun h => by simp [fenceR, Fence.wide] at h, ?_⟩
    have : CallsIn Fence.wide 0 P f args s.w (fun
      | .returned v, w'' => next (a.put o.dst v) w''
      | .panicked chain, w'' => Q (.panic chain) a w''
      | .outgrown, _ => LetsOut Q) := callsIn_wide.2 (Calls.mono hc fun e w' ⟨v, he, x, s', hv, hw', hE, hwf, hK⟩ => by
        subst he; subst hv; subst hw'
        exact hn x s' hK hE hwf)
    exact this
  | round l fn tmps assign body h hc =>
    rw [h]
    refine ⟨fun h => by simp [fenceR, Fence.wide] at h, ?_⟩
    have : RoundIn Fence.wide 0 P l fn tmps assign body s.w (fun
      | .returned v, w'' => next (a.put o.dst v) w''
      | .panicked chain, w'' => Q (.panic chain) a w''
      | .outgrown, _ => LetsOut Q) := hc.mono fun e w' ⟨v, he, x, s', hv, hw', hE, hwf, hK⟩ => by
        subst he; subst hv; subst hw'
        exact hn x s' hK hE hwf
    exact this

abbrev noNG (P : Program) : Prop := P.funcs.toList.all (fun fn => !(fn.name == "runtime.NumGoroutine")) = true
theorem vcOp_out {P : Program} {o : Oper} {s : St} {K : SV → St → Prop} (hng : noNG P) (hs : Sat s) (h : vcOp P o s K) {ρ : Operand → Value} (hρ : Agrees s ρ o.op.operands.toList) : Out P ((execOp ρ o).run P s.w) s K := by
  unfold vcOp at h
  rcases cond_true' h with ⟨hY, h⟩ | ⟨_, h⟩
  · obtain ⟨x, e, G, hK, hw, hG, hr⟩ := yC_sound hs h hY
    exact .value x { s with esc := e } (hr s.w hG ρ hρ) ⟨rfl, hs.esc e, Evo.refl _⟩ hw hK
  · exact eC_sound hng hs h hρ

theorem vcOps_sound {P : Program} {r : Option Nat} {N : Nat} {D : List Deferred} {arr : Array Oper} {K : St → Prop} {Q : Exit → Act → World → Prop} {s0 : St} {a0 : Act} {W : Nat → Prop} (hng : noNG P) (hQ : ∀ s a, Ev W s0 a0 s a → Rel N D s a → Sat s → K s → Q .normal a s.w) :
    ∀ (l : List Oper) (s : St) (a : Act), (∀ o ∈ l, ∀ d, o.dst = some d → W d) → Ev W s0 a0 s a → Rel N D s a → Sat s → vcOps P N arr.toList l s K → wpListIn (fenceR r) 0 P arr Q l a s.w
  | [], s, a, _, hev, hr, hs, h => hQ s a hev hr hs h
  | o :: l, s, a, hW, hev, hr, hs, h => by
    simp only [vcOps] at h
    obtain ⟨hc, h⟩ := cond_ok h
    rw [Bool.and_eq_true] at hc
    have hd := dstOk_lt hc.1
    unfold wpListIn
    obtain ⟨s1, h1, h2⟩ := guardC_sound h
    have hr1 := hr.same h1
    have hs1 := hs.same h1
    have hw1 : s1.w = s.w := h1.2.1
    have htm : ∀ g d, o.guard = some g → gslot arr.toList g.1 = some d → ∀ x, lk s.env d = some x → a.tmps.getD d undef = x.val := fun _ _ _ _ x hx => hr.2.2 _ x hx
    rcases h2 with ⟨hrun, hw⟩ | ⟨hskip, hw⟩
    · rw [if_pos (hw a.tmps htm), ← hw1]
      refine wpIn_of_out hc.2 (vcOp_out hng hs1 hrun (hr1.agrees _)) fun x s' hK hE hwf => ?_
      have := vcOps_sound (r := r) hng hQ l (putS s' o.dst x) (a.put o.dst x.val) (fun o' ho' => hW o' (List.mem_cons_of_mem _ ho')) (((hev.same h1).ext hE.evo).put (hW o (by simp))) (hr1.put hE.env hd) (hE.sat.put hwf) hK
      exact this
    · rw [if_neg (by rw [hw a.tmps htm]; simp), ← hw1]
      refine ⟨fun f _ => fenceR_fn r f, ?_⟩
      have := vcOps_sound (r := r) hng hQ l (putS s1 o.dst (.v undef)) (a.put o.dst undef) (fun o' ho' => hW o' (List.mem_cons_of_mem _ ho')) ((hev.same h1).put (hW o (by simp))) (hr1.put (x := .v undef) rfl hd) (hs1.put (wfV_v _ _)) hskip
      exact this

end Go.SX
set_option linter.unusedSimpArgs false
set_option linter.unusedVariables false
namespace Go.SX
open Go

/-! ### Bits, edges -/
theorem bitOf_eq (m i : Nat) : bitOf m i = m.testBit i := by
  unfold bitOf
  rw [Nat.testBit_eq_decide_div_mod_eq, Nat.shiftRight_eq_div_pow]
  cases h : Nat.beq (m / 2 ^ i % 2) 1 with
  | true => simp [natBeq h]
  | false => simp [natBeq_false h]
theorem bitOf_or (m k i : Nat) : bitOf (m ||| 2 ^ k) i = (bitOf m i || decide (k = i)) := by
  simp only [bitOf_eq, Nat.testBit_or, Nat.testBit_two_pow]
theorem binds_eq (e : Edge) : Region.binds .any e = bindsAny e := by
  unfold Region.binds bindsAny
  cases e.ground <;> rfl
theorem mask_foldl (l : List Edge) : ∀ (m i : Nat), bitOf (l.foldl (fun m e => cond (bindsAny e) (m ||| 2 ^ e.on) m) m) i = (bitOf m i || l.any fun e => bindsAny e && decide (e.on = i)) := by
  induction l with
  | nil => intro m i; simp
  | cons e r ih =>
    intro m i
    simp only [List.foldl_cons, ih, List.any_cons]
    cases bindsAny e
    · simp
    · simp [bitOf_or, Bool.or_assoc]
theorem maskOf_bit (o : Oper) (i : Nat) : bitOf (maskOf o) i = true ↔ ∃ e ∈ o.after, bindsAny e = true ∧ e.on = i := by
  unfold maskOf
  rw [mask_foldl]
  have h0 : bitOf 0 i = false := by rw [bitOf_eq]; simp
  rw [h0, Bool.false_or, List.any_eq_true]
  constructor
  · rintro ⟨e, he, h⟩
    simp only [Bool.and_eq_true, decide_eq_true_eq] at h
    exact ⟨e, by simpa using he, h.1, h.2⟩
  · rintro ⟨e, he, h1, h2⟩
    exact ⟨e, by simpa using he, by simp [h1, h2]⟩
theorem land_mask {m d : Nat} : Nat.beq (Nat.land m d) m = true ↔ ∀ i, bitOf m i = true → bitOf d i = true := by
  constructor
  · intro h i hi
    have h := natBeq h
    have : (m &&& d).testBit i = m.testBit i := by rw [show m &&& d = Nat.land m d from rfl, h]
    rw [Nat.testBit_and] at this
    rw [bitOf_eq] at hi ⊢
    rw [hi] at this
    simpa using this
  · intro h
    have : Nat.land m d = m := by
      apply Nat.eq_of_testBit_eq
      intro i
      show (m &&& d).testBit i = _
      rw [Nat.testBit_and]
      cases hm : m.testBit i with
      | false => rfl
      | true => have := h i (by rw [bitOf_eq]; exact hm); rw [bitOf_eq] at this; simp [this]
    rw [this]
    exact Nat.beq_refl m
theorem rdy_mem {ops : List Oper} {D : Nat} : ∀ {l : List Oper} {i k : Nat}, k ∈ rdy i l D ↔ ∃ o, i ≤ k ∧ nth l (k - i) = some o ∧ bitOf D k = false ∧ ∀ j, bitOf (maskOf o) j = true → bitOf D j = true
  | [], i, k => by simp [rdy, nth]
  | o :: r, i, k => by
    have ih := rdy_mem (ops := ops) (D := D) (l := r) (i := i + 1) (k := k)
    have hrest : (∃ o', i + 1 ≤ k ∧ nth r (k - (i + 1)) = some o' ∧ bitOf D k = false ∧ ∀ j, bitOf (maskOf o') j = true → bitOf D j = true) ↔
        (∃ o', i ≤ k ∧ k ≠ i ∧ nth (o :: r) (k - i) = some o' ∧ bitOf D k = false ∧ ∀ j, bitOf (maskOf o') j = true → bitOf D j = true) := by
      constructor
      · rintro ⟨o', h1, h2, h3⟩
        refine ⟨o', by omega, by omega, ?_, h3⟩
        rw [show k - i = (k - (i + 1)) + 1 by omega]; exact h2
      · rintro ⟨o', h1, h2, h3, h4⟩
        refine ⟨o', by omega, ?_, h4⟩
        rw [show k - i = (k - (i + 1)) + 1 by omega] at h3; exact h3
    unfold rdy
    cases hc : (!bitOf D i && Nat.beq (Nat.land (maskOf o) D) (maskOf o)) with
    | true =>
      rw [Bool.and_eq_true, land_mask] at hc
      simp only [cond_true, List.mem_cons, ih, hrest]
      constructor
      · rintro (rfl | ⟨o', h1, h2, h3⟩)
        · exact ⟨o, Nat.le_refl _, by simp [nth], by simpa using hc.1, hc.2⟩
        · exact ⟨o', h1, h3⟩
      · rintro ⟨o', h1, h2⟩
        by_cases hk : k = i
        · exact .inl hk
        · exact .inr ⟨o', h1, hk, h2⟩
    | false =>
      simp only [cond_false, ih, hrest]
      constructor
      · rintro ⟨o', h1, _, h3⟩; exact ⟨o', h1, h3⟩
      · rintro ⟨o', h1, h2, h3, h4⟩
        refine ⟨o', h1, ?_, h2, h3, h4⟩
        rintro rfl
        simp only [Nat.sub_self, nth, Option.some.injEq] at h2
        subst h2
        have : (!bitOf D k && Nat.beq (Nat.land (maskOf o) D) (maskOf o)) = true := by
          rw [Bool.and_eq_true, land_mask]
          exact ⟨by simp [h3], h4⟩
        rw [this] at hc; cases hc

/-- A set of operations that is closed under what they wait for. -/
def Closed (ops : List Oper) (L : Nat → Prop) : Prop := ∀ i o, nth ops i = some o → L i → ∀ e ∈ o.after, bindsAny e = true → L e.on
theorem pre_foldl (acc : List Nat) (l : List Edge) : ∀ (m k : Nat), bitOf (l.foldl (fun m e => cond (bindsAny e) (m ||| 2 ^ e.on ||| (match nth acc e.on with | some q => q | none => 0)) m) m) k = true →
    bitOf m k = true ∨ ∃ e ∈ l, bindsAny e = true ∧ (e.on = k ∨ ∃ q, nth acc e.on = some q ∧ bitOf q k = true) := by
  induction l with
  | nil => intro m k h; exact .inl h
  | cons e r ih =>
    intro m k h
    simp only [List.foldl_cons] at h
    rcases ih _ _ h with h | ⟨e', he', hb, h⟩
    · cases hb : bindsAny e with
      | false => rw [hb] at h; exact .inl h
      | true =>
        rw [hb] at h
        simp only [cond_true, bitOf_eq, Nat.testBit_or, Nat.testBit_two_pow, Bool.or_eq_true, decide_eq_true_eq] at h
        rcases h with (h | h) | h
        · exact .inl (by rw [bitOf_eq]; exact h)
        · exact .inr ⟨e, by simp, hb, .inl h⟩
        · cases hq : nth acc e.on with
          | none => rw [hq] at h; simp at h
          | some q => rw [hq] at h; exact .inr ⟨e, by simp, hb, .inr ⟨q, hq, by rw [bitOf_eq]; exact h⟩⟩
    · exact .inr ⟨e', List.mem_cons_of_mem _ he', hb, h⟩
theorem preGo_closed {ops : List Oper} {L : Nat → Prop} (hL : Closed ops L) : ∀ (l : List Oper) (acc : List Nat), (∀ i, nth l i = nth ops (acc.length + i)) → 
    (∀ i q, nth acc i = some q → L i → ∀ k, bitOf q k = true → L k) → ∀ i q, nth (preGo l acc) i = some q → L i → ∀ k, bitOf q k = true → L k
  | [], acc, _, h => h
  | o :: r, acc, hl, h => by
    unfold preGo
    refine preGo_closed hL r _ (fun i => ?_) (fun i q hq hi k hk => ?_)
    · have := hl (i + 1)
      simp only [nth] at this
      rw [this]
      simp only [List.length_append, List.length_singleton]
      congr 1; omega
    · rw [nth_append] at hq
      split at hq
      · exact h i q hq hi k hk
      · rename_i hlt
        have hi0 : i - acc.length = 0 := by
          rcases Nat.eq_zero_or_pos (i - acc.length) with h0 | h0
          · exact h0
          · obtain ⟨m, hm⟩ : ∃ m, i - acc.length = m + 1 := ⟨i - acc.length - 1, by omega⟩
            rw [hm] at hq; simp [nth] at hq
        rw [hi0] at hq
        simp only [nth, Option.some.injEq] at hq
        subst hq
        have hio : i = acc.length := by omega
        subst hio
        have ho : nth ops acc.length = some o := by have := hl 0; simp only [nth, Nat.add_zero] at this; exact this.symm
        rcases pre_foldl acc _ _ _ hk with h0 | ⟨e, he, hb, h1⟩
        · rw [bitOf_eq] at h0; simp at h0
        · have hLe := hL acc.length o ho hi e (by simpa using he) hb
          rcases h1 with rfl | ⟨q, hq, hqk⟩
          · exact hLe
          · exact h e.on q hq hLe k hqk
theorem preAt_closed {ops : List Oper} {L : Nat → Prop} (hL : Closed ops L) {i k : Nat} (hi : L i) (h : bitOf (preAt (preOf ops) i) k = true) : L k := by
  unfold preAt at h
  cases hq : nth (preOf ops) i with
  | none => rw [hq] at h; rw [bitOf_eq] at h; simp at h
  | some q =>
    rw [hq] at h
    exact preGo_closed hL ops [] (fun i => by simp) (fun i q hq => by simp [nth] at hq) i q hq hi k h
/-- What an operation that may come waits for is there. -/
theorem preAt_ready {ops : List Oper} {L : Nat → Prop} (hL : Closed ops L) {i k : Nat} {o : Oper} (ho : nth ops i = some o) (hr : ∀ e ∈ o.after, bindsAny e = true → L e.on) (h : bitOf (preAt (preOf ops) i) k = true) : k = i ∨ L k := by
  have hL' : Closed ops (fun j => j = i ∨ L j) := by
    intro j oj hj hLj e he hb
    rcases hLj with rfl | hLj
    · have : oj = o := Option.some.inj (hj.symm.trans ho)
      subst this
      exact .inr (hr e he hb)
    · exact .inr (hL j oj hj hLj e he hb)
  exact preAt_closed hL' (.inl rfl) h

theorem edgesOk_lt : ∀ {l : List Oper} {i : Nat}, edgesOk i l = true → ∀ k o, nth l k = some o → ∀ e ∈ o.after, bindsAny e = true → e.on < i + k
  | [], i, _, k, o, hk => by cases k <;> simp [nth] at hk
  | a :: r, i, h, k, o, hk => by
    simp only [edgesOk, Bool.and_eq_true] at h
    intro e he hb
    cases k with
    | zero =>
      simp only [nth, Option.some.injEq] at hk
      subst hk
      have := List.all_eq_true.1 h.1 e (by simpa using he)
      rw [hb] at this
      simp only [Bool.not_true, Bool.false_or] at this
      have := natBlt this
      omega
    | succ k =>
      have := edgesOk_lt h.2 k o hk e he hb
      omega
theorem slotOk_spec {ops : List Oper} {pres : List Nat} {j d : Nat} : ∀ {l : List Oper} {i : Nat}, slotOk ops pres j d i l = true → ∀ k o, nth l k = some o → i + k ≠ j → (d ∈ looksC ops o → ordB pres (i + k) j = true) ∧ o.dst ≠ some d
  | [], i, _, k, o, hk => by cases k <;> simp [nth] at hk
  | a :: r, i, h, k, o, hk => by
    intro hne
    simp only [slotOk, Bool.and_eq_true] at h
    cases k with
    | zero =>
      simp only [nth, Option.some.injEq] at hk
      subst hk
      simp only [Nat.add_zero] at hne ⊢
      have h1 := h.1
      have hij : Nat.beq i j = false := by
        cases hb : Nat.beq i j with
        | false => rfl
        | true => exact absurd (natBeq hb) hne
      simp only [hij, Bool.false_or, Bool.and_eq_true, Bool.or_eq_true] at h1
      refine ⟨fun hm => ?_, fun hd => ?_⟩
      · rcases h1.1 with h2 | h2
        · rw [(memN_iff d _).2 hm] at h2; cases h2
        · exact h2
      · have h2 := h1.2
        rw [hd] at h2
        simp only [Bool.not_eq_true'] at h2
        exact natBeq_false h2 rfl
    | succ k =>
      have := slotOk_spec h.2 k o hk (by omega)
      rw [show i + (k + 1) = i + 1 + k by omega]
      exact this
theorem slotsOk_spec {ops : List Oper} {pres : List Nat} : ∀ {l : List Oper} {j : Nat}, slotsOk ops pres j l = true → ∀ k o d, nth l k = some o → o.dst = some d → slotOk ops pres (j + k) d 0 ops = true
  | [], j, _, k, o, d, hk => by cases k <;> simp [nth] at hk
  | a :: r, j, h, k, o, d, hk => by
    intro hd
    simp only [slotsOk, Bool.and_eq_true] at h
    cases k with
    | zero =>
      simp only [nth, Option.some.injEq] at hk
      subst hk
      have h1 := h.1
      rw [hd] at h1
      exact h1
    | succ k =>
      have := slotsOk_spec h.2 k o d hk hd
      rw [show j + (k + 1) = j + 1 + k by omega]
      exact this
structure RegOk (N : Nat) (ops : List Oper) : Prop where
  edge : ∀ k o, nth ops k = some o → ∀ e ∈ o.after, bindsAny e = true → e.on < k
  slot : ∀ j oj d, nth ops j = some oj → oj.dst = some d → ∀ i oi, nth ops i = some oi → i ≠ j → (d ∈ looksC ops oi → bitOf (preAt (preOf ops) i) j = true ∨ bitOf (preAt (preOf ops) j) i = true) ∧ oi.dst ≠ some d
  plain : ∀ k o, nth ops k = some o → dstOk N o = true ∧ plainOp o = true
theorem regOk_spec {N : Nat} {ops : List Oper} (h : regOk N ops (preOf ops) = true) : RegOk N ops := by
  simp only [regOk, Bool.and_eq_true] at h
  refine ⟨fun k o hk e he hb => ?_, fun j oj d hj hd i oi hi hne => ?_, fun k o hk => ?_⟩
  · have := edgesOk_lt h.1.1 k o hk e he hb; omega
  · have h1 := slotsOk_spec h.1.2 j oj d hj hd
    rw [Nat.zero_add] at h1
    have h2 := slotOk_spec h1 i oi hi (by omega)
    rw [Nat.zero_add] at h2
    refine ⟨fun hm => ?_, h2.2⟩
    have := h2.1 hm
    simpa [ordB] using this
  · have hm : o ∈ ops := by rw [nth_eq] at hk; exact List.mem_of_getElem? hk
    have := List.all_eq_true.1 h.2 o hm
    simpa using this

end Go.SX
set_option linter.unusedSimpArgs false
set_option linter.unusedVariables false
namespace Go.SX
open Go

def isL (listed : Array Bool) (i : Nat) : Prop := listed.getD i false = true
def lagB (arr : Array Oper) (D : Nat) (listed : Array Bool) (u : Nat) : Prop := bitOf D u = true ∧ ¬ isL listed u ∧ u < arr.size
structure Lag (P : Program) (arr : Array Oper) (D : Nat) (pend : Pend) (s : St) (listed : Array Bool) (a : Act) (val : Nat → Value) (u : Nat) (o : Oper) : Prop where
  dst : ∀ d, o.dst = some d → ∃ x, lk s.env d = some x ∧ x.val = val u
  more : ∃ (rec : Nat → Option Value) (G : Option (World → Prop)),
    (∀ t ∈ looksC arr.toList o, ∀ y, rec t = some y →
      (∀ z oz, lagB arr D listed z → z ≠ u → nth arr.toList z = some oz → oz.dst = some t → bitOf (preAt (preOf arr.toList) u) z = true → val z = y) ∧
      ((∃ z oz, lagB arr D listed z ∧ z ≠ u ∧ nth arr.toList z = some oz ∧ oz.dst = some t ∧ bitOf (preAt (preOf arr.toList) u) z = true) ∨ a.tmps.getD t undef = y)) ∧
    (∀ a' : Act, (∀ t ∈ looksC arr.toList o, ∀ y, rec t = some y → a'.tmps.getD t undef = y) →
      (Region.wanted o (yielded arr a'.tmps) = true ∧ ∀ w, GP G w → (execOp a'.eval o).run P w = .ok (.value (val u)) w) ∨ (Region.wanted o (yielded arr a'.tmps) = false ∧ val u = undef)) ∧
    GP G s.w ∧ ∀ g, G = some g → (u, g) ∈ pend
structure Inv (P : Program) (N : Nat) (Df : List Deferred) (arr : Array Oper) (D : Nat) (pend : Pend) (s : St) (listed : Array Bool) (a : Act) (val : Nat → Value) : Prop where
  sat : Sat s
  size : listed.size = arr.size
  sub : ∀ i, isL listed i → bitOf D i = true
  cL : Closed arr.toList (isL listed)
  cD : Closed arr.toList (fun i => bitOf D i = true)
  tsize : a.tmps.size = N
  defs : a.defers = Df
  frame : ∀ t x, lk s.env t = some x → (∃ u o, lagB arr D listed u ∧ nth arr.toList u = some o ∧ o.dst = some t) ∨ a.tmps.getD t undef = x.val
  lags : ∀ u o, lagB arr D listed u → nth arr.toList u = some o → Lag P arr D pend s listed a val u o

theorem isL_set {listed : Array Bool} {u i : Nat} (hu : u < listed.size) : isL (listed.setIfInBounds u true) i ↔ i = u ∨ isL listed i := by
  unfold isL
  simp only [Array.getD_eq_getD_getElem?, Array.getElem?_setIfInBounds]
  by_cases h : u = i
  · subst h; simp [hu]
  · have : ¬ i = u := fun e => h e.symm
    simp [h, this]
theorem unlisted {listed : Array Bool} {i : Nat} (h : listed.getD i true = false) : i < listed.size ∧ ¬ isL listed i := by
  rcases Nat.lt_or_ge i listed.size with h' | h'
  · refine ⟨h', fun hl => ?_⟩
    unfold isL at hl
    simp [h'] at h hl
    rw [h] at hl; cases hl
  · simp [Array.getElem?_eq_none h'] at h
theorem ready_spec {arr : Array Oper} {listed : Array Bool} {i : Nat} (h : i ∈ Region.ready .any arr listed) : i < listed.size ∧ ¬ isL listed i ∧ ∃ o, arr[i]? = some o ∧ nth arr.toList i = some o ∧ ∀ e ∈ o.after, bindsAny e = true → isL listed e.on := by
  obtain ⟨h1, o, ho, hall⟩ := mem_ready.1 h
  obtain ⟨h2, h3⟩ := unlisted h1
  refine ⟨h2, h3, o, ho, by rw [nth_eq]; simpa using ho, fun e he hb => hall e he (by rw [binds_eq]; exact hb)⟩

theorem lag_set {arr : Array Oper} {D : Nat} {listed : Array Bool} {u v : Nat} (hu : u < listed.size) : lagB arr D (listed.setIfInBounds u true) v ↔ lagB arr D listed v ∧ v ≠ u := by
  unfold lagB
  rw [isL_set hu]
  constructor
  · rintro ⟨h1, h2, h3⟩
    exact ⟨⟨h1, fun h => h2 (.inr h), h3⟩, fun h => h2 (.inl h)⟩
  · rintro ⟨⟨h1, h2, h3⟩, h4⟩
    exact ⟨h1, fun h => h.elim h4 h2, h3⟩

/-- A lagging operation comes up. -/
theorem exec_lag {P : Program} {r : Option Nat} {N : Nat} {Df : List Deferred} {arr : Array Oper} {D : Nat} {pend : Pend} {s : St} {listed : Array Bool} {a : Act} {val : Nat → Value} (hok : RegOk N arr.toList)
    (I : Inv P N Df arr D pend s listed a val) {u : Nat} {o : Oper} (hr : u ∈ Region.ready .any arr listed) (ho : nth arr.toList u = some o) (hl : lagB arr D listed u) {Q : Exit → Act → World → Prop} {K : Act → World → Prop}
    (hK : Inv P N Df arr D pend s (listed.setIfInBounds u true) (a.put o.dst (val u)) val → K (a.put o.dst (val u)) s.w) : wpOpIn (fenceR r) 0 P arr Q u K a s.w := by
  obtain ⟨hu, hun, o', ho', ho'', hwait⟩ := ready_spec hr
  have : o' = o := Option.some.inj (ho''.symm.trans ho)
  subst this
  have L := I.lags u o' hl ho
  obtain ⟨rec, G, hslots, hrun, hnow, hpend⟩ := L.more
  have hd := dstOk_lt (hok.plain u o' ho).1
  have hag : ∀ t ∈ looksC arr.toList o', ∀ y, rec t = some y → a.tmps.getD t undef = y := by
    intro t ht y hy
    rcases (hslots t ht y hy).2 with ⟨z, oz, hz, hne, hoz, hdz, hpre⟩ | h
    · rcases preAt_ready I.cL ho hwait hpre with e | h
      · exact absurd e hne
      · exact absurd h hz.2.1
    · exact h
  have hput : ∀ t, (a.put o'.dst (val u)).tmps.getD t undef = if o'.dst = some t then val u else a.tmps.getD t undef := by
    intro t
    cases hdd : o'.dst with
    | none => simp [Act.put]
    | some d =>
      rw [getD_put a d t _ (by rw [I.tsize]; exact hd d hdd)]
      simp
  have I' : Inv P N Df arr D pend s (listed.setIfInBounds u true) (a.put o'.dst (val u)) val := by
    refine ⟨I.sat, by simp [I.size], fun i hi => ?_, ?_, I.cD, by rw [size_put]; exact I.tsize, by rw [defers_put]; exact I.defs, fun t x hx => ?_, fun v ov hv hov => ?_⟩
    · rcases (isL_set hu).1 hi with rfl | hi
      · exact hl.1
      · exact I.sub i hi
    · intro i oi hoi hi e he hb
      rw [isL_set hu] at hi ⊢
      rcases hi with rfl | hi
      · have : oi = o' := Option.some.inj (hoi.symm.trans ho)
        subst this
        exact .inr (hwait e he hb)
      · exact .inr (I.cL i oi hoi hi e he hb)
    · rw [hput]
      by_cases hdt : o'.dst = some t
      · obtain ⟨x', hx', hv⟩ := L.dst t hdt
        have : x' = x := Option.some.inj (hx'.symm.trans hx)
        subst this
        right; rw [if_pos hdt, hv]
      · rw [if_neg hdt]
        rcases I.frame t x hx with ⟨z, oz, hz, hoz, hdz⟩ | h
        · left
          refine ⟨z, oz, (lag_set hu).2 ⟨hz, fun e => ?_⟩, hoz, hdz⟩
          subst e
          have : oz = o' := Option.some.inj (hoz.symm.trans ho)
          subst this
          exact hdt hdz
        · exact .inr h
    · obtain ⟨hv, hvu⟩ := (lag_set hu).1 hv
      have Lv := I.lags v ov hv hov
      obtain ⟨rec2, G2, hs2, hr2, hn2, hp2⟩ := Lv.more
      refine ⟨Lv.dst, rec2, G2, fun t ht y hy => ?_, hr2, hn2, hp2⟩
      obtain ⟨hall, hex⟩ := hs2 t ht y hy
      refine ⟨fun z oz hz hzv hoz hdz hpre => hall z oz ((lag_set hu).1 hz).1 hzv hoz hdz hpre, ?_⟩
      rw [hput]
      by_cases hdt : o'.dst = some t
      · right
        rw [if_pos hdt]
        rcases (hok.slot u o' t ho hdt v ov hov hvu).1 ht with hpre | hpre
        · exact hall u o' hl (fun e => hvu e.symm) ho hdt hpre
        · rcases preAt_ready I.cL ho hwait hpre with e | h
          · exact absurd e hvu
          · exact absurd h hv.2.1
      · rw [if_neg hdt]
        rcases hex with ⟨z, oz, hz, hzv, hoz, hdz, hpre⟩ | h
        · left
          refine ⟨z, oz, (lag_set hu).2 ⟨hz, fun e => ?_⟩, hzv, hoz, hdz, hpre⟩
          subst e
          have : oz = o' := Option.some.inj (hoz.symm.trans ho)
          subst this
          exact hdt hdz
        · exact .inr h
  have hK' := hK I'
  unfold wpOpIn
  simp only [ho']
  rcases hrun a hag with ⟨hw, hr'⟩ | ⟨hw, hv⟩
  · rw [if_pos hw]
    refine ⟨fun f _ => fenceR_fn r f, ?_⟩
    rw [Oper.semAt_eq _ _ _ (fun c hc => by have := (hok.plain u o' ho).2; simp [plainOp, hc] at this), hr' s.w hnow]
    exact hK'
  · rw [if_neg (by rw [hw]; simp)]
    refine ⟨fun f _ => fenceR_fn r f, ?_⟩
    rw [← hv]
    exact hK'

theorem stays_ok {pre : Nat} {w : World} {K : Prop} : ∀ {pend : Pend}, stays pre w pend K → K ∧ ∀ i g, (i, g) ∈ pend → bitOf pre i = true ∨ g w
  | [], h => ⟨h, by simp⟩
  | (i, G) :: r, h => by
    simp only [stays] at h
    rcases cond_true' h with ⟨hb, h⟩ | ⟨_, h⟩
    · obtain ⟨hK, hr⟩ := stays_ok h
      refine ⟨hK, fun j g hm => ?_⟩
      rcases List.mem_cons.1 hm with e | hm
      · cases e; exact .inl hb
      · exact hr j g hm
    · obtain ⟨hK, hr⟩ := stays_ok h.2
      refine ⟨hK, fun j g hm => ?_⟩
      rcases List.mem_cons.1 hm with e | hm
      · cases e; exact .inr h.1
      · exact hr j g hm
theorem sameSt.back {s s1 : St} (h : sameSt s s1) {t : Nat} {x : SV} (hx : lk s1.env t = some x) : ∃ y, lk s.env t = some y ∧ y.val = x.val := by
  have := (h.2.2 t).1
  rw [hx] at this
  cases h2 : lk s.env t with
  | none => rw [h2] at this; cases this
  | some y => rw [h2] at this; simp only [Option.map_some, Option.some.injEq] at this; exact ⟨y, rfl, this.symm⟩
theorem sameSt.forth {s s1 : St} (h : sameSt s s1) {t : Nat} {x : SV} (hx : lk s.env t = some x) : ∃ y, lk s1.env t = some y ∧ y.val = x.val := by
  have := (h.2.2 t).1
  rw [hx] at this
  cases h2 : lk s1.env t with
  | none => rw [h2] at this; cases this
  | some y => rw [h2] at this; simp only [Option.map_some, Option.some.injEq] at this; exact ⟨y, rfl, this⟩
theorem lk_putE {env : List (Nat × SV)} {d : Option Tmp} {x : SV} {t : Nat} : lk (putE env d x) t = if d = some t then some x else lk env t := by
  cases d with
  | none => simp [putE]
  | some d => simp [putE, lk_cons]

/-- An operation that leaves the world alone is planned. -/
theorem plan_y {P : Program} {N : Nat} {Df : List Deferred} {arr : Array Oper} {D : Nat} {pend : Pend} {s : St} {listed : Array Bool} {a : Act} {val : Nat → Value} (hok : RegOk N arr.toList)
    (I : Inv P N Df arr D pend s listed a val) {y : Nat} {o : Oper} (ho : nth arr.toList y = some o) (hD : bitOf D y = false) (hw : ∀ j, bitOf (maskOf o) j = true → bitOf D j = true)
    {s1 : St} (h1 : sameSt s s1) (x : SV) (e : List Nat) (G : Option (World → Prop)) (hwf : wfV s1.chs x) (hG : GP G s1.w)
    (hrun : ∀ a' : Act, (∀ t ∈ looksC arr.toList o, ∀ z, lk s1.env t = some z → a'.tmps.getD t undef = z.val) →
      (Region.wanted o (yielded arr a'.tmps) = true ∧ ∀ w, GP G w → (execOp a'.eval o).run P w = .ok (.value x.val) w) ∨ (Region.wanted o (yielded arr a'.tmps) = false ∧ x.val = undef)) :
    Inv P N Df arr (D ||| 2 ^ y) (addP y G pend) (putS { s1 with esc := e } o.dst x) listed a (fun i => if i = y then x.val else val i) := by
  have hylt : y < arr.size := by have := nth_lt ho; simpa using this
  have hyL : ¬ isL listed y := fun h => by have := I.sub y h; rw [hD] at this; cases this
  have hlag : ∀ v, lagB arr (D ||| 2 ^ y) listed v ↔ lagB arr D listed v ∨ v = y := by
    intro v
    unfold lagB
    rw [bitOf_or]
    constructor
    · rintro ⟨h2, h3, h4⟩
      simp only [Bool.or_eq_true, decide_eq_true_eq] at h2
      rcases h2 with h2 | h2
      · exact .inl ⟨h2, h3, h4⟩
      · exact .inr h2.symm
    · rintro (⟨h2, h3, h4⟩ | rfl)
      · exact ⟨by simp [h2], h3, h4⟩
      · exact ⟨by simp, hyL, hylt⟩
  have hne : ∀ v, lagB arr D listed v → v ≠ y := fun v hv e => by subst e; rw [hv.1] at hD; cases hD
  have hcD : Closed arr.toList (fun i => bitOf (D ||| 2 ^ y) i = true) := by
    intro i oi hoi hi ed he hb
    simp only [bitOf_or, Bool.or_eq_true, decide_eq_true_eq] at hi ⊢
    rcases hi with hi | rfl
    · exact .inl (I.cD i oi hoi hi ed he hb)
    · have : oi = o := Option.some.inj (hoi.symm.trans ho)
      subst this
      exact .inl (hw ed.on ((maskOf_bit oi ed.on).2 ⟨ed, he, hb, rfl⟩))
  have hdst : ∀ v ov d, v ≠ y → nth arr.toList v = some ov → ov.dst = some d → o.dst ≠ some d := fun v ov d hvy hov hd hod =>
    (hok.slot y o d ho hod v ov hov hvy).2 hd
  refine ⟨((I.sat.same h1).esc e).put hwf, I.size, fun i hi => by rw [bitOf_or, I.sub i hi]; rfl, I.cL, hcD, I.tsize, I.defs, fun t z hz => ?_, fun v ov hv hov => ?_⟩
  · simp only [putS, lk_putE] at hz
    split at hz
    · rename_i hd
      exact .inl ⟨y, o, (hlag y).2 (.inr rfl), ho, hd⟩
    · obtain ⟨z0, hz0, hv0⟩ := h1.back hz
      rcases I.frame t z0 hz0 with ⟨u, ou, hu, hou, hdu⟩ | h
      · exact .inl ⟨u, ou, (hlag u).2 (.inl hu), hou, hdu⟩
      · exact .inr (by rw [h, hv0])
  · rcases (hlag v).1 hv with hv | rfl
    · have hvD := hv.1
      have hvy := hne v hv
      have Lv := I.lags v ov hv hov
      obtain ⟨rec2, G2, hs2, hr2, hn2, hp2⟩ := Lv.more
      refine ⟨fun d hd => ?_, rec2, G2, fun t ht yv hy => ?_, ?_, ?_, fun g hg => ?_⟩
      · obtain ⟨x', hx', hv'⟩ := Lv.dst d hd
        obtain ⟨x2, hx2, hv2⟩ := h1.forth hx'
        refine ⟨x2, ?_, ?_⟩
        · simp only [putS, lk_putE, if_neg (hdst v ov d hvy hov hd)]; exact hx2
        · simp only [if_neg hvy]; rw [hv2, hv']
      · obtain ⟨hall, hex⟩ := hs2 t ht yv hy
        refine ⟨fun z oz hz hzv hoz hdz hpre => ?_, ?_⟩
        · rcases (hlag z).1 hz with hz | rfl
          · simp only [if_neg (hne z hz)]; exact hall z oz hz hzv hoz hdz hpre
          · have := preAt_closed I.cD hvD hpre
            rw [hD] at this; cases this
        · rcases hex with ⟨z, oz, hz, h3⟩ | h
          · exact .inl ⟨z, oz, (hlag z).2 (.inl hz), h3⟩
          · exact .inr h
      · simp only [if_neg hvy]; exact hr2
      · show GP G2 s1.w
        rw [h1.2.1]; exact hn2
      · have := hp2 g hg
        unfold addP
        cases G with
        | none => exact this
        | some g' => exact List.mem_cons_of_mem _ this
    · have : ov = o := Option.some.inj (hov.symm.trans ho)
      subst this
      refine ⟨fun d hd => ⟨x, ?_, ?_⟩, fun t => (lk s1.env t).map SV.val, G, fun t ht yv hy => ?_, fun a' ha' => ?_, hG, fun g hg => ?_⟩
      · simp only [putS, lk_putE, if_pos hd]
      · simp
      · replace hy : (lk s1.env t).map SV.val = some yv := hy
        cases hz : lk s1.env t with
        | none => rw [hz] at hy; cases hy
        | some z =>
          rw [hz] at hy
          simp only [Option.map_some, Option.some.injEq] at hy
          subst hy
          obtain ⟨z0, hz0, hv0⟩ := h1.back hz
          have hval : ∀ u ou, lagB arr D listed u → nth arr.toList u = some ou → ou.dst = some t → val u = z.val := by
            intro u ou hu hou hdu
            obtain ⟨x', hx', hvx⟩ := (I.lags u ou hu hou).dst t hdu
            have : x' = z0 := Option.some.inj (hx'.symm.trans hz0)
            subst this
            rw [← hvx, hv0]
          refine ⟨fun u ou hu huy hou hdu hpre => ?_, ?_⟩
          · rcases (hlag u).1 hu with hu | e
            · simp only [if_neg huy]; exact hval u ou hu hou hdu
            · exact absurd e huy
          · rcases I.frame t z0 hz0 with ⟨u, ou, hu, hou, hdu⟩ | h
            · left
              refine ⟨u, ou, (hlag u).2 (.inl hu), hne u hu, hou, hdu, ?_⟩
              rcases (hok.slot u ou t hou hdu v ov ho (fun e => hne u hu e.symm)).1 ht with hpre | hpre
              · exact hpre
              · have := preAt_closed I.cD hu.1 hpre
                rw [hD] at this; cases this
            · exact .inr (by rw [h, hv0])
      · simp only [if_true]
        exact hrun a' fun t ht z hz => ha' t ht z.val (by show (lk s1.env t).map SV.val = _; rw [hz]; rfl)
      · subst hg
        simp [addP]

/-- An operation with an effect comes up, in the plan and in the machine. -/
theorem step_e {P : Program} {N : Nat} {Df : List Deferred} {arr : Array Oper} {D : Nat} {pend : Pend} {s : St} {listed : Array Bool} {a : Act} {val : Nat → Value} (hok : RegOk N arr.toList)
    (I : Inv P N Df arr D pend s listed a val) {i : Nat} {o : Oper} (hr : i ∈ Region.ready .any arr listed) (ho : nth arr.toList i = some o) (hD : bitOf D i = false)
    {s1 s' : St} (h1 : sameSt s s1) (he : s'.env = s1.env) (hsat : Sat s') {x : SV} (hwf : wfV s'.chs x) (hst : ∀ v G, bitOf (preAt (preOf arr.toList) i) v = false → GP G s.w → (∀ g, G = some g → (v, g) ∈ pend) → GP G s'.w) :
    Inv P N Df arr (D ||| 2 ^ i) pend (putS s' o.dst x) (listed.setIfInBounds i true) (a.put o.dst x.val) val := by
  obtain ⟨hu, hun, o', ho', ho'', hwait⟩ := ready_spec hr
  have : o' = o := Option.some.inj (ho''.symm.trans ho)
  subst this
  have hd := dstOk_lt (hok.plain i o' ho).1
  have hlag : ∀ v, lagB arr (D ||| 2 ^ i) (listed.setIfInBounds i true) v ↔ lagB arr D listed v := by
    intro v
    unfold lagB
    rw [isL_set hu, bitOf_or]
    constructor
    · rintro ⟨h2, h3, h4⟩
      simp only [Bool.or_eq_true, decide_eq_true_eq] at h2
      refine ⟨?_, fun h => h3 (.inr h), h4⟩
      rcases h2 with h2 | h2
      · exact h2
      · exact absurd (.inl h2.symm) h3
    · rintro ⟨h2, h3, h4⟩
      refine ⟨by simp [h2], ?_, h4⟩
      rintro (rfl | h)
      · rw [h2] at hD; cases hD
      · exact h3 h
  have hne : ∀ v, lagB arr D listed v → v ≠ i := fun v hv e => by subst e; rw [hv.1] at hD; cases hD
  have hput : ∀ t, (a.put o'.dst x.val).tmps.getD t undef = if o'.dst = some t then x.val else a.tmps.getD t undef := by
    intro t
    cases hdd : o'.dst with
    | none => simp [Act.put]
    | some d =>
      rw [getD_put a d t _ (by rw [I.tsize]; exact hd d hdd)]
      simp
  refine ⟨hsat.put hwf, by simp [I.size], fun j hj => ?_, ?_, ?_, by rw [size_put]; exact I.tsize, by rw [defers_put]; exact I.defs, fun t z hz => ?_, fun v ov hv hov => ?_⟩
  · rw [bitOf_or]
    rcases (isL_set hu).1 hj with rfl | hj
    · simp
    · rw [I.sub j hj]; rfl
  · intro j oj hoj hj e hee hb
    rw [isL_set hu] at hj ⊢
    rcases hj with rfl | hj
    · have : oj = o' := Option.some.inj (hoj.symm.trans ho)
      subst this
      exact .inr (hwait e hee hb)
    · exact .inr (I.cL j oj hoj hj e hee hb)
  · intro j oj hoj hj e hee hb
    simp only [bitOf_or, Bool.or_eq_true, decide_eq_true_eq] at hj ⊢
    rcases hj with hj | rfl
    · exact .inl (I.cD j oj hoj hj e hee hb)
    · have : oj = o' := Option.some.inj (hoj.symm.trans ho)
      subst this
      exact .inl (I.sub _ (hwait e hee hb))
  · simp only [putS, lk_putE] at hz
    rw [hput]
    split at hz
    · rename_i hdt
      simp only [Option.some.injEq] at hz
      subst hz
      right; rw [if_pos hdt]
    · rename_i hdt
      rw [he] at hz
      obtain ⟨z0, hz0, hv0⟩ := h1.back hz
      rw [if_neg hdt]
      rcases I.frame t z0 hz0 with ⟨u, ou, hu', hou, hdu⟩ | h
      · exact .inl ⟨u, ou, (hlag u).2 hu', hou, hdu⟩
      · exact .inr (by rw [h, hv0])
  · have hv := (hlag v).1 hv
    have hvi := hne v hv
    have Lv := I.lags v ov hv hov
    obtain ⟨rec2, G2, hs2, hr2, hn2, hp2⟩ := Lv.more
    have hnv : bitOf (preAt (preOf arr.toList) i) v = true → False := by
      intro hpre
      rcases preAt_ready I.cL ho hwait hpre with e | h
      · exact hvi e
      · exact hv.2.1 h
    refine ⟨fun d hd' => ?_, rec2, G2, fun t ht yv hy => ?_, hr2, ?_, hp2⟩
    · obtain ⟨x', hx', hv'⟩ := Lv.dst d hd'
      obtain ⟨x2, hx2, hv2⟩ := h1.forth hx'
      refine ⟨x2, ?_, by rw [hv2, hv']⟩
      have : ¬ o'.dst = some d := fun hod => (hok.slot i o' d ho hod v ov hov hvi).2 hd'
      simp only [putS, lk_putE, if_neg this, he]; exact hx2
    · obtain ⟨hall, hex⟩ := hs2 t ht yv hy
      refine ⟨fun z oz hz => hall z oz ((hlag z).1 hz), ?_⟩
      have hdt : ¬ o'.dst = some t := by
        intro hdt
        rcases (hok.slot i o' t ho hdt v ov hov hvi).1 ht with hpre | hpre
        · have := preAt_closed I.cD hv.1 hpre
          rw [hD] at this; cases this
        · exact hnv hpre
      rw [hput, if_neg hdt]
      rcases hex with ⟨z, oz, hz, h3⟩ | h
      · exact .inl ⟨z, oz, (hlag z).2 hz, h3⟩
      · exact .inr h
    · show GP G2 s'.w
      refine hst v G2 ?_ hn2 hp2
      cases hb : bitOf (preAt (preOf arr.toList) i) v with
      | false => rfl
      | true => exact (hnv hb).elim

def cntL (listed : Array Bool) (n : Nat) : Nat := ((List.range n).filter fun i => !listed.getD i true).length
theorem cntL_set {listed : Array Bool} {n i : Nat} (hn : listed.size = n) (hi : i < n) (hu : ¬ isL listed i) : cntL (listed.setIfInBounds i true) n < cntL listed n := by
  unfold cntL
  have hui : listed.getD i true = false := by
    unfold isL at hu
    simp [hn, hi] at hu ⊢
    exact hu
  have hsub : ((List.range n).filter fun k => !(listed.setIfInBounds i true).getD k true) = ((List.range n).filter fun k => !listed.getD k true).filter (fun k => decide (k ≠ i)) := by
    rw [List.filter_filter]
    apply List.filter_congr
    intro k hk
    simp only [Array.getD_eq_getD_getElem?, Array.getElem?_setIfInBounds]
    by_cases h : i = k
    · subst h; simp [hn, hi]
    · have : ¬ k = i := fun e => h e.symm
      simp [h, this]
  rw [hsub]
  refine List.length_filter_lt_length_iff_exists.2 ⟨i, ?_, by simp⟩
  rw [List.mem_filter]
  exact ⟨List.mem_range.2 hi, by simp [hui]⟩
/-- Where nothing may come any more, all have come. -/
theorem all_done {arr : Array Oper} {listed : Array Bool} (hN : ∀ k o, nth arr.toList k = some o → ∀ e ∈ o.after, bindsAny e = true → e.on < k) (hs : listed.size = arr.size) (h : Region.ready .any arr listed = []) : ∀ i, i < arr.size → isL listed i := by
  intro i
  induction i using Nat.strongRecOn with
  | _ i ih =>
    intro hi
    rcases Classical.em (isL listed i) with hl | hl
    · exact hl
    · exfalso
      have hget : arr[i]? = some arr[i] := Array.getElem?_eq_getElem hi
      have hm : i ∈ Region.ready .any arr listed := by
        refine mem_ready.2 ⟨?_, arr[i], hget, fun e he hb => ?_⟩
        · unfold isL at hl
          simp [hs, hi] at hl ⊢
          exact hl
        · have hlt := hN i arr[i] (by rw [nth_eq]; simp [hi]) e he (by rw [← binds_eq]; exact hb)
          exact ih e.on hlt (by omega)
      rw [h] at hm
      cases hm
theorem allN_mem {l : List Nat} {K : Nat → Prop} (h : allN l K) : ∀ i ∈ l, K i := by
  induction l with
  | nil => intro i hi; cases hi
  | cons x r ih =>
    intro i hi
    cases r with
    | nil =>
      have : i = x := by simpa using hi
      subst this; exact h
    | cons y r =>
      rcases List.mem_cons.1 hi with rfl | hi
      · exact h.1
      · exact ih h.2 i hi
theorem findY_some {P : Program} {ops : List Oper} : ∀ {l : List Nat} {y : Nat}, findY P ops l = some y → y ∈ l ∧ ∃ o, nth ops y = some o ∧ isY P o = true
  | [], y, h => by cases h
  | i :: r, y, h => by
    unfold findY at h
    split at h
    · rename_i o ho
      cases hY : isY P o with
      | true => rw [hY] at h; simp only [cond_true, Option.some.injEq] at h; subst h; exact ⟨by simp, o, ho, hY⟩
      | false =>
        rw [hY] at h
        obtain ⟨h1, h2⟩ := findY_some (l := r) h
        exact ⟨List.mem_cons_of_mem _ h1, h2⟩
    · obtain ⟨h1, h2⟩ := findY_some (l := r) h
      exact ⟨List.mem_cons_of_mem _ h1, h2⟩
theorem findY_none {P : Program} {ops : List Oper} : ∀ {l : List Nat}, findY P ops l = none → ∀ i ∈ l, ∀ o, nth ops i = some o → isY P o = false
  | [], _, i, hi => by cases hi
  | j :: r, h, i, hi => by
    intro o ho
    unfold findY at h
    split at h
    · rename_i oj hj
      cases hY : isY P oj with
      | true => rw [hY] at h; cases h
      | false =>
        rw [hY] at h
        rcases List.mem_cons.1 hi with rfl | hi
        · have : o = oj := Option.some.inj (ho.symm.trans hj)
          subst this; exact hY
        · exact findY_none (l := r) h i hi o ho
    · rename_i hj
      rcases List.mem_cons.1 hi with rfl | hi
      · rw [hj] at ho; cases ho
      · exact findY_none (l := r) h i hi o ho
theorem mem_looks_tmp {arr : Array Oper} {o : Oper} {t : Nat} (h : Operand.tmp t ∈ o.op.operands.toList) : t ∈ looksC arr.toList o := by
  unfold looksC
  refine List.mem_append_left _ (List.mem_flatMap.2 ⟨.tmp t, h, by simp⟩)
theorem mem_looks_guard {arr : Array Oper} {o : Oper} {g : Nat × Bool} {d : Nat} (h : o.guard = some g) (hd : gslot arr.toList g.1 = some d) : d ∈ looksC arr.toList o := by
  unfold looksC
  refine List.mem_append_right _ ?_
  rw [h]
  obtain ⟨g1, g2⟩ := g
  simp only at hd ⊢
  rw [hd]
  simp
theorem agrees_of_looks {arr : Array Oper} {o : Oper} {s1 : St} {a : Act} (h : ∀ t ∈ looksC arr.toList o, ∀ z, lk s1.env t = some z → a.tmps.getD t undef = z.val) : Agrees s1 a.eval o.op.operands.toList := by
  intro x hx y hy
  cases x with
  | tmp t => exact h t (mem_looks_tmp hx) y hy
  | const v => simp only [look, Option.some.injEq] at hy; subst hy; rfl
  | global g => simp only [look, Option.some.injEq] at hy; subst hy; rfl
  | func f => simp only [look, Option.some.injEq] at hy; subst hy; rfl

theorem draw_sound {P : Program} {r : Option Nat} {N : Nat} {Df : List Deferred} {arr : Array Oper} {K : St → Prop} {Q : Exit → Act → World → Prop} {s0 : St} {a0 : Act} {W : Nat → Prop} (hng : noNG P) (hok : RegOk N arr.toList) (hW : ∀ k o d, nth arr.toList k = some o → o.dst = some d → W d) (hQ : ∀ s a, Ev W s0 a0 s a → Rel N Df s a → Sat s → K s → Q .normal a s.w) :
    ∀ (f D : Nat) (pend : Pend) (s : St) (val : Nat → Value), Evo s0.chs s.chs → vcDraw P N arr.toList (preOf arr.toList) f D pend s K →
    ∀ (fuel : Nat) (listed : Array Bool) (a : Act), Inv P N Df arr D pend s listed a val → Fr W a0 a → cntL listed arr.size ≤ fuel → wpAnyIn (fenceR r) 0 P .any arr Q fuel listed a s.w
  | 0, _, _, _, _, _, h => h.elim
  | f + 1, D, pend, s, val, hev, h => by
    -- what is common to a leaf and to a branching: the lagging ones come up first or last
    have branch : ∀ (R : ∀ (listed : Array Bool) (a : Act), Inv P N Df arr D pend s listed a val → Fr W a0 a → ∀ (fuel i : Nat), i ∈ Region.ready .any arr listed → bitOf D i = false → cntL (listed.setIfInBounds i true) arr.size ≤ fuel →
          wpOpIn (fenceR r) 0 P arr Q i (wpAnyIn (fenceR r) 0 P .any arr Q fuel (listed.setIfInBounds i true)) a s.w)
        (hend : ∀ (listed : Array Bool) (a : Act), Inv P N Df arr D pend s listed a val → Fr W a0 a → Region.ready .any arr listed = [] → Q .normal a s.w),
        ∀ (fuel : Nat) (listed : Array Bool) (a : Act), Inv P N Df arr D pend s listed a val → Fr W a0 a → cntL listed arr.size ≤ fuel → wpAnyIn (fenceR r) 0 P .any arr Q fuel listed a s.w := by
      intro R hend fuel
      induction fuel with
      | zero =>
        intro listed a I hfr hc
        have hr : Region.ready .any arr listed = [] := by
          rcases hr : Region.ready .any arr listed with _ | ⟨i, rs⟩
          · rfl
          · exfalso
            obtain ⟨hi, hun, _⟩ := ready_spec (show i ∈ Region.ready .any arr listed by rw [hr]; simp)
            have := cntL_set I.size (by rw [← I.size]; exact hi) hun
            omega
        exact ⟨hr, hend listed a I hfr hr⟩
      | succ fuel ih =>
        intro listed a I hfr hc
        refine ⟨fun hr => hend listed a I hfr hr, fun i hi => ?_⟩
        obtain ⟨hlt, hun, o, ho, ho', _⟩ := ready_spec hi
        have hcnt := cntL_set I.size (by rw [← I.size]; exact hlt) hun
        cases hD : bitOf D i with
        | true =>
          exact exec_lag hok I hi ho' ⟨hD, hun, by rw [← I.size]; exact hlt⟩ fun I' => ih _ _ I' (hfr.put fun t ht => hW i o t ho' ht) (by omega)
        | false => exact R listed a I hfr fuel i hi hD (by omega)
    have hdone : ∀ (listed : Array Bool) (a : Act), Inv P N Df arr D pend s listed a val → Region.ready .any arr listed = [] → Rel N Df s a ∧ rdy 0 arr.toList D = [] := by
      intro listed a I hr
      have hall := all_done hok.edge I.size hr
      refine ⟨⟨I.tsize, I.defs, fun t x hx => ?_⟩, ?_⟩
      · rcases I.frame t x hx with ⟨u, o, hu, _, _⟩ | h
        · exact absurd (hall u hu.2.2) hu.2.1
        · exact h
      · rcases hd : rdy 0 arr.toList D with _ | ⟨i, rs⟩
        · rfl
        · exfalso
          obtain ⟨o, _, ho, hD, _⟩ := (rdy_mem (ops := arr.toList) (l := arr.toList) (i := 0) (k := i) (D := D)).1 (by rw [hd]; simp)
          have hi : i < arr.size := by have := nth_lt ho; simpa using this
          have := I.sub i (hall i hi)
          rw [hD] at this; cases this
    have hplan : ∀ (listed : Array Bool) (a : Act), Inv P N Df arr D pend s listed a val → ∀ i, i ∈ Region.ready .any arr listed → bitOf D i = false → i ∈ rdy 0 arr.toList D := by
      intro listed a I i hi hD
      obtain ⟨hlt, hun, o, ho, ho', hwait⟩ := ready_spec hi
      refine (rdy_mem (ops := arr.toList)).2 ⟨o, Nat.zero_le _, ho', hD, fun j hj => ?_⟩
      obtain ⟨e, he, hb, rfl⟩ := (maskOf_bit o j).1 hj
      exact I.sub _ (hwait e he hb)
    have hagree : ∀ (listed : Array Bool) (a : Act), Inv P N Df arr D pend s listed a val → ∀ i o, i ∈ Region.ready .any arr listed → nth arr.toList i = some o → bitOf D i = false → ∀ t ∈ looksC arr.toList o, ∀ z, lk s.env t = some z → a.tmps.getD t undef = z.val := by
      intro listed a I i o hi ho hD t ht z hz
      obtain ⟨hlt, hun, o', ho1, ho', hwait⟩ := ready_spec hi
      have : o' = o := Option.some.inj (ho'.symm.trans ho)
      subst this
      rcases I.frame t z hz with ⟨u, ou, hu, hou, hdu⟩ | h
      · exfalso
        have hui : u ≠ i := fun e => by subst e; rw [hu.1] at hD; cases hD
        rcases (hok.slot u ou t hou hdu i o' ho (fun e => hui e.symm)).1 ht with hpre | hpre
        · rcases preAt_ready I.cL ho hwait hpre with e | h
          · exact hui e
          · exact hu.2.1 h
        · have := preAt_closed I.cD hu.1 hpre
          rw [hD] at this; cases this
      · exact h
    unfold vcDraw at h
    split at h
    · -- a leaf
      rename_i hrd
      refine branch (fun listed a I hfr fuel i hi hD _ => ?_) (fun listed a I hfr hr => hQ s a ⟨hev, hfr⟩ (hdone listed a I hr).1 I.sat h)
      have := hplan listed a I i hi hD
      rw [hrd] at this; cases this
    · rename_i i0 rs hrd
      split at h
      · -- an operation that leaves the world alone
        rename_i y hy
        obtain ⟨hmem, o, ho, hY⟩ := findY_some hy
        rw [← hrd] at hmem
        obtain ⟨o', _, ho', hD, hwait⟩ := (rdy_mem (ops := arr.toList)).1 hmem
        rw [Nat.sub_zero] at ho'
        have : o' = o := Option.some.inj (ho'.symm.trans ho)
        subst this
        simp only [ho] at h
        intro fuel listed a I hfr hc
        obtain ⟨s1, h1, h2⟩ := guardC_sound h
        have hw1 : s1.w = s.w := h1.2.1
        have htm : ∀ a' : Act, (∀ t ∈ looksC arr.toList o', ∀ z, lk s1.env t = some z → a'.tmps.getD t undef = z.val) →
            ∀ g d, o'.guard = some g → gslot arr.toList g.1 = some d → ∀ x, lk s.env d = some x → a'.tmps.getD d undef = x.val := by
          intro a' ha' g d hg hd x hx
          obtain ⟨x1, hx1, hv1⟩ := h1.forth hx
          rw [ha' d (mem_looks_guard hg hd) x1 hx1, hv1]
        rcases h2 with ⟨hrun, hw⟩ | ⟨hskip, hw⟩
        · obtain ⟨x, e, G, hK, hwf, hG, hr⟩ := yC_sound (I.sat.same h1) hrun hY
          have I2 := plan_y hok I ho hD hwait h1 x e G hwf hG (fun a' ha' => .inl ⟨hw a'.tmps (htm a' ha'), fun w hGw => hr w hGw a'.eval (agrees_of_looks ha')⟩)
          have := draw_sound (r := r) hng hok hW hQ f _ _ _ _ (by show Evo s0.chs s1.chs; rw [h1.1]; exact hev) hK fuel listed a I2 hfr hc
          rw [← hw1]; exact this
        · have I2 := plan_y hok I ho hD hwait h1 (.v undef) s1.esc none (wfV_v _ _) trivial (fun a' ha' => .inr ⟨hw a'.tmps (htm a' ha'), rfl⟩)
          have := draw_sound (r := r) hng hok hW hQ f _ _ _ _ (by show Evo s0.chs s1.chs; rw [h1.1]; exact hev) hskip fuel listed a I2 hfr hc
          rw [← hw1]; exact this
      · -- operations with effects: whichever comes
        rename_i hy
        have hall := allN_mem h
        refine branch (fun listed a I hfr fuel i hi hD hc => ?_) (fun listed a I hfr hr => ?_)
        · have hm := hplan listed a I i hi hD
          rw [hrd] at hm
          have hi' := hall i hm
          obtain ⟨hlt, hun, o, ho1, ho, hwait⟩ := ready_spec hi
          have hYf := findY_none hy i hm o ho
          simp only [ho] at hi'
          have hag := hagree listed a I i o hi ho hD
          obtain ⟨s1, h1, h2⟩ := guardC_sound hi'
          have hw1 : s1.w = s.w := h1.2.1
          have htm : ∀ g d, o.guard = some g → gslot arr.toList g.1 = some d → ∀ x, lk s.env d = some x → a.tmps.getD d undef = x.val := fun g d hg hd x hx => hag d (mem_looks_guard hg hd) x hx
          have hag1 : ∀ t ∈ looksC arr.toList o, ∀ z, lk s1.env t = some z → a.tmps.getD t undef = z.val := by
            intro t ht z hz
            obtain ⟨z0, hz0, hv0⟩ := h1.back hz
            rw [hag t ht z0 hz0, hv0]
          unfold wpOpIn
          simp only [ho1]
          rcases h2 with ⟨hrun, hw⟩ | ⟨hskip, hw⟩
          · rw [if_pos (hw a.tmps htm), ← hw1]
            refine wpIn_of_out (hok.plain i o ho).2 (eC_sound hng (I.sat.same h1) hrun (agrees_of_looks hag1)) fun x s' hK hE hwf => ?_
            obtain ⟨hK, hst⟩ := stays_ok hK
            have I2 := step_e hok I hi ho hD h1 hE.env hE.sat hwf (fun v G hb hG hp => by
              cases G with
              | none => trivial
              | some g =>
                rcases hst v g (hp g rfl) with h' | h'
                · rw [hb] at h'; cases h'
                · exact h')
            have := draw_sound (r := r) hng hok hW hQ f _ _ (putS s' o.dst x) _ ((show Evo s0.chs s1.chs by rw [h1.1]; exact hev).trans hE.evo) hK fuel _ _ I2 (hfr.put fun t ht => hW i o t ho ht) hc
            exact this
          · rw [if_neg (by rw [hw a.tmps htm]; simp), ← hw1]
            refine ⟨fun f _ => fenceR_fn r f, ?_⟩
            have I2 := step_e hok I hi ho hD h1 (s' := s1) rfl (I.sat.same h1) (wfV_v _ undef) (fun v G _ hG _ => by rw [hw1]; exact hG)
            have := draw_sound (r := r) hng hok hW hQ f _ _ _ _ (by show Evo s0.chs s1.chs; rw [h1.1]; exact hev) hskip fuel _ _ I2 (hfr.put fun t ht => hW i o t ho ht) hc
            exact this
        · have := (hdone listed a I hr).2
          rw [hrd] at this; cases this

end Go.SX
set_option linter.unusedSimpArgs false
set_option linter.unusedVariables false
namespace Go.SX
open Go

/-! ### Loops: typed values -/
def HasIs : List IntKind → List Value → Prop
  | [], [] => True
  | k :: r, v :: vs => (∃ n, v = .int k n) ∧ HasIs r vs
  | _, _ => False
theorem alIs_use : ∀ {l : List IntKind} {K : List Value → Prop}, alIs l K → ∀ {vs : List Value}, HasIs l vs → K vs
  | [], K, h, [], _ => h
  | [], K, h, v :: vs, hv => hv.elim
  | c :: r, K, h, [], hv => hv.elim
  | c :: r, K, h, v :: vs, hv => by
    obtain ⟨⟨n, rfl⟩, h2⟩ := hv
    exact alIs_use (h n) h2
theorem alIs_intro : ∀ {l : List IntKind} {K : List Value → Prop}, (∀ vs, HasIs l vs → K vs) → alIs l K
  | [], K, h => h [] trivial
  | k :: r, K, h => fun n => alIs_intro fun vs hv => h (.int k n :: vs) ⟨⟨n, rfl⟩, hv⟩
def HasE : EK → Value → Prop
  | .int k, v => ∃ n, v = .int k n
  | .bool, v => ∃ n, v = .bool n
  | .str, v => ∃ n, v = .string n
  | .ptr, v => ∃ n, v = .pointer n
  | .slice, v => ∃ a n c, v = .slice a n c
  | .map, v => ∃ n, v = .map n
def HasEs : List EK → List Value → Prop
  | [], [] => True
  | k :: r, v :: vs => HasE k v ∧ HasEs r vs
  | _, _ => False
theorem alE_use {c : EK} {K : Value → Prop} (h : alE c K) {v : Value} (hv : HasE c v) : K v := by
  cases c <;> simp only [alE, HasE] at h hv
  all_goals first | (obtain ⟨x, y, z, rfl⟩ := hv; exact h x y z) | (obtain ⟨x, rfl⟩ := hv; exact h x)
theorem alE_intro {c : EK} {K : Value → Prop} (h : ∀ v, HasE c v → K v) : alE c K := by
  cases c <;> simp only [alE] <;> intros <;> refine h _ ?_ <;> simp [HasE]
theorem alEs_use : ∀ {l : List EK} {K : List Value → Prop}, alEs l K → ∀ {vs : List Value}, HasEs l vs → K vs
  | [], K, h, [], _ => h
  | [], K, h, v :: vs, hv => hv.elim
  | c :: r, K, h, [], hv => hv.elim
  | c :: r, K, h, v :: vs, hv => alEs_use (alE_use h hv.1) hv.2
theorem alEs_intro : ∀ {l : List EK} {K : List Value → Prop}, (∀ vs, HasEs l vs → K vs) → alEs l K
  | [], K, h => h [] trivial
  | k :: r, K, h => alE_intro fun v hv => alEs_intro fun vs hvs => h (v :: vs) ⟨hv, hvs⟩
def HasC : CTy → Value → Prop
  | .int k, v => ∃ n, v = .int k n
  | .bool, v => ∃ n, v = .bool n
  | .str, v => ∃ n, v = .string n
  | .ptr, v => ∃ n, v = .pointer n
  | .slice, v => ∃ a n c, v = .slice a n c
  | .map, v => ∃ n, v = .map n
  | .raw, _ => True
  | .agg l, v => ∃ vs, HasIs l vs ∧ v = .agg vs.toArray
  | .row l, v => ∃ vs, HasEs l vs ∧ v = .agg vs.toArray
def HasCs : List CTy → List Value → Prop
  | [], [] => True
  | c :: r, v :: vs => HasC c v ∧ HasCs r vs
  | _, _ => False
theorem alC_use {c : CTy} {K : Value → Prop} (h : alC c K) {v : Value} (hv : HasC c v) : K v := by
  cases c <;> simp only [alC, HasC] at h hv
  all_goals first | exact h v | (obtain ⟨vs, h1, rfl⟩ := hv; exact alIs_use h h1) | (obtain ⟨vs, h1, rfl⟩ := hv; exact alEs_use h h1) | (obtain ⟨x, rfl⟩ := hv; exact h x) | (obtain ⟨x, y, z, rfl⟩ := hv; exact h x y z)
theorem alCs_use : ∀ {cs : List CTy} {K : List Value → Prop}, alCs cs K → ∀ {vs : List Value}, HasCs cs vs → K vs
  | [], K, h, [], _ => h
  | [], K, h, v :: vs, hv => hv.elim
  | c :: r, K, h, [], hv => hv.elim
  | c :: r, K, h, v :: vs, hv => alCs_use (alC_use h hv.1) hv.2
theorem apF_has : ∀ {ts : List CTy} {I : FTy Prop ts} {vs : List Value} {w : World}, apF False ts I vs w → HasCs ts vs
  | [], I, [], w, h => trivial
  | [], I, v :: vs, w, h => h.elim
  | .int _ :: r, I, v :: vs, w, h => by
    cases v <;> try exact (h : False).elim
    rename_i k k' n
    have h' : cond (sameKind k k') (apF False r (I n) vs w) False := h
    obtain ⟨hk, h'⟩ := cond_ok h'
    exact ⟨⟨n, by rw [sameKind_eq hk]⟩, apF_has (ts := r) h'⟩
  | .bool :: r, I, v :: vs, w, h => by
    cases v <;> first | exact ⟨⟨_, rfl⟩, apF_has (ts := r) h⟩ | exact (h : False).elim
  | .str :: r, I, v :: vs, w, h => by
    cases v <;> first | exact ⟨⟨_, rfl⟩, apF_has (ts := r) h⟩ | exact (h : False).elim
  | .ptr :: r, I, v :: vs, w, h => by
    cases v <;> first | exact ⟨⟨_, rfl⟩, apF_has (ts := r) h⟩ | exact (h : False).elim
  | .slice :: r, I, v :: vs, w, h => by
    cases v <;> first | exact ⟨⟨_, _, _, rfl⟩, apF_has (ts := r) h⟩ | exact (h : False).elim
  | .map :: r, I, v :: vs, w, h => by
    cases v <;> first | exact ⟨⟨_, rfl⟩, apF_has (ts := r) h⟩ | exact (h : False).elim
  | .raw :: r, I, v :: vs, w, h => ⟨trivial, apF_has (ts := r) (I := I v) (w := w) (by cases v <;> exact h)⟩
  | .int _ :: r, I, [], w, h => h.elim
  | .bool :: r, I, [], w, h => h.elim
  | .str :: r, I, [], w, h => h.elim
  | .ptr :: r, I, [], w, h => h.elim
  | .slice :: r, I, [], w, h => h.elim
  | .map :: r, I, [], w, h => h.elim
  | .raw :: r, I, [], w, h => h.elim
  | .agg _ :: r, I, [], w, h => h.elim
  | .agg _ :: r, I, v :: vs, w, h => by cases v <;> exact (h : False).elim
  | .row _ :: r, I, [], w, h => h.elim
  | .row _ :: r, I, v :: vs, w, h => by cases v <;> exact (h : False).elim
theorem HasCs_len : ∀ {cs : List CTy} {vs : List Value}, HasCs cs vs → vs.length = cs.length
  | [], [], _ => rfl
  | [], v :: vs, h => h.elim
  | c :: r, [], h => h.elim
  | c :: r, v :: vs, h => by simp [HasCs_len h.2]
theorem HasCs_app : ∀ {cs ds : List CTy} {vs us : List Value}, HasCs (cs ++ ds) (vs ++ us) → vs.length = cs.length → HasCs cs vs ∧ HasCs ds us
  | [], ds, [], us, h, _ => ⟨trivial, h⟩
  | [], ds, v :: vs, us, h, hl => by simp at hl
  | c :: r, ds, [], us, h, hl => by simp at hl
  | c :: r, ds, v :: vs, us, h, hl => by
    obtain ⟨h1, h2⟩ := HasCs_app (cs := r) (vs := vs) h.2 (by simpa using hl)
    exact ⟨⟨h.1, h1⟩, h2⟩

theorem slotVals_some : ∀ {l : List (Nat × CTy)} {env : List (Nat × SV)} {vs : List Value}, slotVals env l = some vs →
    vs.length = l.length ∧ ∀ (k : Nat) (p : Nat × CTy) (v : Value), l[k]? = some p → vs[k]? = some v → ∃ x, lk env p.1 = some x ∧ x.val = v
  | [], env, vs, h => by
    simp only [slotVals, Option.some.injEq] at h
    subst h
    exact ⟨rfl, fun k p v hp => by simp at hp⟩
  | (i, c) :: r, env, vs, h => by
    simp only [slotVals] at h
    split at h
    · rename_i x l hx hl
      simp only [Option.some.injEq] at h
      subst h
      obtain ⟨h1, h2⟩ := slotVals_some hl
      refine ⟨by simp [h1], fun k p v hp hv => ?_⟩
      cases k with
      | zero => simp at hp hv; subst hp; subst hv; exact ⟨x, hx, rfl⟩
      | succ k => exact h2 k p v (by simpa using hp) (by simpa using hv)
    · cases h
theorem cellVals_some : ∀ {l : List (Nat × Nat × CTy)} {chs : List Ch} {vs : List Value}, cellVals chs l = some vs →
    vs.length = l.length ∧ ∀ (k : Nat) (p : Nat × Nat × CTy) (v : Value), l[k]? = some p → vs[k]? = some v → ∃ c x, nth chs p.1 = some c ∧ lk c.cells p.2.1 = some x ∧ x.val = v
  | [], chs, vs, h => by
    simp only [cellVals, Option.some.injEq] at h
    subst h
    exact ⟨rfl, fun k p v hp => by simp at hp⟩
  | (j, o, t) :: r, chs, vs, h => by
    simp only [cellVals] at h
    split at h
    · rename_i c hc
      split at h
      · rename_i x l hx hl
        simp only [Option.some.injEq] at h
        subst h
        obtain ⟨h1, h2⟩ := cellVals_some hl
        refine ⟨by simp [h1], fun k p v hp hv => ?_⟩
        cases k with
        | zero => simp at hp hv; subst hp; subst hv; exact ⟨c, x, hc, hx, rfl⟩
        | succ k => exact h2 k p v (by simpa using hp) (by simpa using hv)
      · cases h
    · cases h
theorem lk_keep : ∀ {l : List Nat} {env : List (Nat × SV)} {i : Nat} {x : SV}, lk (keepEnv env l) i = some x → i ∈ l ∧ lk env i = some x
  | [], env, i, x, h => by simp [keepEnv, lk] at h
  | j :: r, env, i, x, h => by
    simp only [keepEnv] at h
    split at h
    · rename_i y hy
      rw [lk_cons] at h
      split at h
      · rename_i e
        subst e
        simp only [Option.some.injEq] at h
        subst h
        exact ⟨by simp, hy⟩
      · obtain ⟨h1, h2⟩ := lk_keep h
        exact ⟨List.mem_cons_of_mem _ h1, h2⟩
    · obtain ⟨h1, h2⟩ := lk_keep h
      exact ⟨List.mem_cons_of_mem _ h1, h2⟩
theorem lk_zipc : ∀ {l : List Nat} {vs : List Value} {e : List (Nat × SV)} {i : Nat} {x : SV}, lk (l.zip (vs.map SV.v) ++ e) i = some x →
    (∃ (k : Nat) (v : Value), l[k]? = some i ∧ vs[k]? = some v ∧ x = .v v) ∨ lk e i = some x
  | [], vs, e, i, x, h => .inr (by simpa using h)
  | j :: r, [], e, i, x, h => .inr (by simpa using h)
  | j :: r, v :: vs, e, i, x, h => by
    simp only [List.map_cons, List.zip_cons_cons, List.cons_append, lk_cons] at h
    split at h
    · rename_i e'
      simp only [Option.some.injEq] at h
      exact .inl ⟨0, v, by simp [e'], by simp, h.symm⟩
    · rcases lk_zipc h with ⟨k, u, h1, h2, h3⟩ | h
      · exact .inl ⟨k + 1, u, by simpa using h1, by simpa using h2, h3⟩
      · exact .inr h
/-- What the cells hold at a round's head: the carried ones anew, the others as they were. -/
theorem setCells_spec : ∀ {l : List (Nat × Nat × CTy)} {vs : List Value} {chs : List Ch}, (∀ p ∈ l, ∃ c, nth chs p.1 = some c ∧ (lk c.cells p.2.1).isSome = true) →
    ∀ j d, nth (setCells chs l vs) j = some d → ∃ c, nth chs j = some c ∧ d.b = c.b ∧ d.cells.map (·.1) = c.cells.map (·.1) ∧
      ∀ o x, lk d.cells o = some x → (∃ (k : Nat) (p : Nat × Nat × CTy) (v : Value), l[k]? = some p ∧ vs[k]? = some v ∧ p.1 = j ∧ p.2.1 = o ∧ x = .v v) ∨ lk c.cells o = some x ∧ (vs.length = l.length → isCarried l j o = false)
  | [], vs, chs, _, j, d, h => ⟨d, by cases vs <;> exact h, rfl, rfl, fun o x hx => .inr ⟨hx, fun _ => rfl⟩⟩
  | p :: l, [], chs, _, j, d, h => ⟨d, h, rfl, rfl, fun o x hx => .inr ⟨hx, fun e => by simp at e⟩⟩
  | (j0, o0, t0) :: l, v :: vs, chs, hp, j, d, h => by
    obtain ⟨c0, hc0, ho0⟩ := hp (j0, o0, t0) (by simp)
    have hp' : ∀ p ∈ l, ∃ c, nth (updCh chs j0 o0 (.v v)) p.1 = some c ∧ (lk c.cells p.2.1).isSome = true := by
      intro p hpm
      obtain ⟨c, hc, ho⟩ := hp p (List.mem_cons_of_mem _ hpm)
      rw [nth_updCh, hc]
      split
      · rename_i e
        refine ⟨_, rfl, ?_⟩
        have : c = c0 := by rw [e] at hc; exact Option.some.inj (hc.symm.trans hc0)
        subst this
        simp only
        rw [lk_upd _ _ _ _ ho0]
        split
        · rfl
        · exact ho
      · exact ⟨c, rfl, ho⟩
    obtain ⟨c1, hc1, hb1, hk1, hx1⟩ := setCells_spec (l := l) (vs := vs) (chs := updCh chs j0 o0 (.v v)) hp' j d h
    obtain ⟨c, hc, hb, hne, heq⟩ := nth_upd hc1
    refine ⟨c, hc, hb1.trans hb, ?_, fun o x hx => ?_⟩
    · by_cases hj : j = j0
      · rw [hk1, heq hj, upd_keys]
      · rw [hk1, hne hj]
    · rcases hx1 o x hx with ⟨k, p, u, h1, h2, h3⟩ | ⟨hx2, hcar⟩
      · exact .inl ⟨k + 1, p, u, by simpa using h1, by simpa using h2, h3⟩
      · by_cases hj : j = j0
        · have : c = c0 := by rw [hj] at hc; exact Option.some.inj (hc.symm.trans hc0)
          subst this
          rw [heq hj, lk_upd _ _ _ _ ho0] at hx2
          split at hx2
          · rename_i e
            simp only [Option.some.injEq] at hx2
            exact .inl ⟨0, (j0, o0, t0), v, by simp, by simp, hj.symm, e, hx2.symm⟩
          · rename_i e
            refine .inr ⟨hx2, fun hl => ?_⟩
            have : Nat.beq o0 o = false := by
              cases hb' : Nat.beq o0 o with
              | false => rfl
              | true => exact absurd (natBeq hb') e
            simp [isCarried, this, hcar (by simpa using hl)]
        · rw [hne hj] at hx2
          refine .inr ⟨hx2, fun hl => ?_⟩
          have : Nat.beq j0 j = false := by
            cases hb' : Nat.beq j0 j with
            | false => rfl
            | true => exact absurd (natBeq hb').symm hj
          simp [isCarried, this, hcar (by simpa using hl)]
theorem setCells_forth : ∀ {l : List (Nat × Nat × CTy)} {vs : List Value} {chs : List Ch}, Evo chs (setCells chs l vs)
  | [], vs, chs => by cases vs <;> exact Evo.refl _
  | p :: l, [], chs => Evo.refl _
  | (j0, o0, t0) :: l, v :: vs, chs => (Evo.upd _ _ _ _).trans (setCells_forth (l := l) (vs := vs))
/-- The cells that are not carried have the same values. -/
theorem restC_eq {l : List (Nat × Nat × CTy)} {j : Nat} : ∀ {a b : List (Nat × SV)}, a.map (·.1) = b.map (·.1) → restC l j a = restC l j b → ∀ o x y, (o, x) ∈ a → (a.map (·.1)).Nodup → lk b o = some y → isCarried l j o = false → x.val = y.val
  | [], b, _, _, o, x, y, hm, _, _, _ => by cases hm
  | (i, u) :: r, [], hk, _, _, _, _, _, _, _, _ => by simp at hk
  | (i, u) :: r, (i', u') :: r', hk, hr, o, x, y, hm, hn, hy, hc => by
    simp only [List.map_cons, List.cons.injEq] at hk
    obtain ⟨rfl, hk⟩ := hk
    simp only [List.map_cons, List.nodup_cons] at hn
    simp only [restC] at hr
    rw [lk_cons] at hy
    rcases List.mem_cons.1 hm with e | hm
    · cases e
      simp only [if_true, Option.some.injEq] at hy
      subst hy
      rw [hc] at hr
      simp only [cond_false, List.cons.injEq] at hr
      exact hr.1
    · have hne : ¬ i = o := fun e => hn.1 (by rw [e]; exact List.mem_map.2 ⟨_, hm, rfl⟩)
      rw [if_neg hne] at hy
      cases hci : isCarried l j i with
      | true => rw [hci] at hr; exact restC_eq hk hr o x y hm hn.2 hy hc
      | false => rw [hci] at hr; simp only [cond_false, List.cons.injEq] at hr; exact restC_eq hk hr.2 o x y hm hn.2 hy hc
theorem restC_len {l : List (Nat × Nat × CTy)} {j : Nat} : ∀ {a b : List (Nat × SV)}, a.map (·.1) = b.map (·.1) → (restC l j a).length = (restC l j b).length
  | [], [], _ => rfl
  | [], _ :: _, h => by simp at h
  | _ :: _, [], h => by simp at h
  | (i, u) :: r, (i', u') :: r', h => by
    simp only [List.map_cons, List.cons.injEq] at h
    obtain ⟨rfl, h⟩ := h
    have := restC_len (l := l) (j := j) h
    simp only [restC]
    cases isCarried l j i <;> simp [this]
theorem restVals_eq {l : List (Nat × Nat × CTy)} : ∀ {n j : Nat} {a b : List Ch}, Evo b a → b.length = n → restVals l n j a = restVals l n j b → ∀ k c d, nth b k = some c → nth a k = some d → restC l (j + k) d.cells = restC l (j + k) c.cells
  | 0, j, a, b, _, hl, _, k, c, d, hc, _ => by
    have := nth_lt hc; omega
  | n + 1, j, [], b, hev, hl, _, k, c, d, _, hd => by cases k <;> simp [nth] at hd
  | n + 1, j, x :: a, [], _, hl, _, k, c, d, hc, _ => by cases k <;> simp [nth] at hc
  | n + 1, j, x :: a, y :: b, hev, hl, hr, k, c, d, hc, hd => by
    simp only [restVals] at hr
    obtain ⟨x', hx', hb0, hk0⟩ := hev 0 y rfl
    simp only [nth, Option.some.injEq] at hx'
    subst hx'
    have hlen := restC_len (l := l) (j := j) hk0
    obtain ⟨h1, h2⟩ := List.append_inj hr hlen
    cases k with
    | zero =>
      simp only [nth, Option.some.injEq] at hc hd
      subst hc; subst hd
      exact h1
    | succ k =>
      have hev' : Evo b a := fun j z hz => hev (j + 1) z hz
      have := restVals_eq (l := l) (n := n) (j := j + 1) (a := a) (b := b) hev' (by simpa using hl) h2 k c d hc hd
      rw [show j + (k + 1) = j + 1 + k by omega]
      exact this

end Go.SX
set_option linter.unusedSimpArgs false
set_option linter.unusedVariables false
namespace Go.SX
open Go

/-- A loop, by a measure on a ghost. -/
theorem wpIn_loopX {F : Fence} {n : Nat} {P : Program} {Q : Exit → Act → World → Prop} {c : Code} {X : Type} (J : X → Act → World → Prop) (m : X → Nat)
    (round : ∀ x a w, J x a w → c.wpIn F n P (Exit.then (fun a' w' => ∃ x', J x' a' w' ∧ m x' < m x) Q) a w) : ∀ {a : Act} {w : World} (x : X), J x a w → (Code.loop c).wpIn F n P Q a w := by
  intro a w x h₀ b k cs hro hb hr
  have key : ∀ j (x : X) a w, m x = j → J x a w →
      ∃ e a' w', Q e a' w' ∧ ArrivesIn (Machine.fenced P F) P (lone (b.atR a (.code c :: .inLoop c :: k)) cs w) b k cs e a' w' := by
    intro j
    induction j using Nat.strongRecOn with
    | _ j ih =>
      intro x a w hn hI
      obtain ⟨e, a₁, w₁, hq, harr⟩ := round x a w hI b (.inLoop c :: k) cs hro hb hr
      cases e with
      | normal =>
        obtain ⟨x', hI₁, hlt⟩ := hq
        obtain ⟨e₂, a₂, w₂, hq₂, harr₂⟩ := ih (m x') (hn ▸ hlt) x' a₁ w₁ rfl hI₁
        exact ⟨e₂, a₂, w₂, hq₂, .of_steps (StepsIn.trans harr (.one (fenced_calm hb hr rfl) stepR_inLoop)) harr₂⟩
      | exit id => exact ⟨_, a₁, w₁, hq, .pass (x := .inLoop c) rfl (fun _ _ => .inl (by simp)) harr⟩
      | goto l => exact ⟨_, a₁, w₁, hq, .pass (x := .inLoop c) rfl (fun _ _ => .inl (by simp)) harr⟩
      | ret => exact ⟨_, a₁, w₁, hq, .pass (x := .inLoop c) rfl (fun _ _ => .inl (by simp)) harr⟩
      | panic ch => exact ⟨_, a₁, w₁, hq, .pass (x := .inLoop c) rfl (fun _ _ => .inl (by simp)) harr⟩
      | outgrown => exact ⟨_, a₁, w₁, hq, .pass (x := .inLoop c) rfl (fun _ _ => .inl (by simp)) harr⟩
  obtain ⟨e, a', w', hq, harr⟩ := key _ x a w rfl h₀
  exact ⟨e, a', w', hq, .of_steps (.one (fenced_calm hb hr rfl) stepR_loop) harr⟩

/-- A scope through which the run goes without a jump. -/
theorem stepR_scopeX {P : Program} {b : Frame} {a : Act} {k : List Item} {cs : List Frame} {w : World} {c : Code} : step P (lone (b.atR a (.code (.scope c) :: k)) cs w) = .next (lone (b.atR a (.code c :: .inScope c :: k)) cs w) :=
  step_lone_go (by simp [stepG, stepG.exec, Frame.atR])
theorem stepR_inScopeX {P : Program} {b : Frame} {a : Act} {k : List Item} {cs : List Frame} {w : World} {c : Code} : step P (lone (b.atR a (.inScope c :: k)) cs w) = .next (lone (b.atR a k) cs w) :=
  step_lone_go (by simp [stepG, stepG.exec, Frame.atR])
theorem wpIn_scopeX {F : Fence} {n : Nat} {P : Program} {Q : Exit → Act → World → Prop} {c : Code} {a : Act} {w : World} (h : c.wpIn F n P (Exit.noGoto Q) a w) : (Code.scope c).wpIn F n P Q a w := by
  intro b k cs hro hb hr
  have h0 : (lone (b.atR a (.code (.scope c) :: k)) cs w).fenced P F := fenced_calm hb hr rfl
  obtain ⟨e, a₁, w₁, hq, harr⟩ := h b (.inScope c :: k) cs hro hb hr
  cases e with
  | normal => exact ⟨.normal, a₁, w₁, hq, .head h0 stepR_scopeX (StepsIn.trans harr (.one (fenced_calm hb hr rfl) stepR_inScopeX))⟩
  | exit id =>
    have hx : exitTo id (.inScope c :: k) = exitTo id k := by simp [exitTo]
    exact ⟨.exit id, a₁, w₁, hq, fun k' hk => .head h0 stepR_scopeX (harr.1 k' (by rw [hx]; exact hk)),
      fun hr' hk => let ⟨k₁, h1, h2⟩ := harr.2 hr' (by rw [hx]; exact hk); ⟨k₁, h1, .head h0 stepR_scopeX h2⟩⟩
  | goto l => exact hq.elim
  | ret => exact ⟨_, a₁, w₁, hq, .of_steps (.one h0 stepR_scopeX) harr⟩
  | panic ch => exact ⟨_, a₁, w₁, hq, .of_steps (.one h0 stepR_scopeX) harr⟩
  | outgrown => exact ⟨_, a₁, w₁, hq, .of_steps (.one h0 stepR_scopeX) harr⟩

/-- The state at a round's head. -/
def headSt (A : LoopAnn) (s : St) (vs cs : List Value) (w : World) : St :=
  { env := (A.carried.map (·.1)).zip (vs.map SV.v) ++ keepEnv s.env A.keep, chs := setCells s.chs A.cells cs, esc := s.esc, w := w, defs := s.defs }
theorem get_zip {l : List (Nat × CTy)} {k i : Nat} (h : (l.map (·.1))[k]? = some i) : ∃ p, l[k]? = some p ∧ p.1 = i := by
  rw [List.getElem?_map] at h
  cases hp : l[k]? with
  | none => rw [hp] at h; cases h
  | some p => rw [hp] at h; simp only [Option.map_some, Option.some.injEq] at h; exact ⟨p, rfl, h⟩
theorem cells_ok {l : List (Nat × Nat × CTy)} {chs : List Ch} {vs : List Value} (h : cellVals chs l = some vs) : ∀ p ∈ l, ∃ c, nth chs p.1 = some c ∧ (lk c.cells p.2.1).isSome = true := by
  obtain ⟨hl, h2⟩ := cellVals_some h
  intro p hp
  obtain ⟨k, hk, e⟩ := List.mem_iff_getElem.1 hp
  have hk2 : k < vs.length := by omega
  obtain ⟨c, x, hc, hx, _⟩ := h2 k p vs[k] (by rw [← e]; exact List.getElem?_eq_getElem hk) (List.getElem?_eq_getElem hk2)
  exact ⟨c, hc, by simp [hx]⟩
/-- From a state s' whose slots and cells hold vs and cs, and whose other cells hold what s's hold: the head state of s holds. -/
theorem head_ok {N : Nat} {D : List Deferred} {A : LoopAnn} {s s' : St} {a : Act} {vs cs cs0 : List Value} (hs : Sat s) (hs' : Sat s') (hev : Evo s.chs s'.chs) (hr' : Rel N D s' a)
    (hslot : slotVals s'.env A.carried = some vs) (hcell : cellVals s'.chs A.cells = some cs) (hcell0 : cellVals s.chs A.cells = some cs0)
    (hkeep : ∀ i x, lk (keepEnv s.env A.keep) i = some x → a.tmps.getD i undef = x.val)
    (hrest : ∀ j c d o x y, nth s.chs j = some c → nth s'.chs j = some d → lk c.cells o = some x → lk d.cells o = some y → isCarried A.cells j o = false → y.val = x.val) :
    Rel N D (headSt A s vs cs s'.w) a ∧ Sat (headSt A s vs cs s'.w) := by
  obtain ⟨hsl, hs2⟩ := slotVals_some hslot
  obtain ⟨hcl, hc2⟩ := cellVals_some hcell
  have hspec := setCells_spec (vs := cs) (cells_ok hcell0)
  refine ⟨⟨hr'.1, hr'.2.1, fun i x hx => ?_⟩, ⟨fun j d hd o x hx => ?_, fun j d hd => ?_, fun j d hd => ?_, fun i j c d hc hd hij => ?_, fun i b j o hx => ?_, fun k d o b j o' hd hx => ?_⟩⟩
  · rcases lk_zipc hx with ⟨k, v, hk, hv, rfl⟩ | hx
    · obtain ⟨p, hp, rfl⟩ := get_zip hk
      obtain ⟨y, hy, e⟩ := hs2 k p v hp hv
      rw [hr'.2.2 p.1 y hy, e]; rfl
    · exact hkeep i x hx
  · obtain ⟨c, hc, hb, hk, hxs⟩ := hspec j d hd
    obtain ⟨d', hd', hb', hk'⟩ := hev j c hc
    show s'.w.cell? ⟨d.b, o, none⟩ = _ ∧ _
    rw [hb]
    rcases hxs o x hx with ⟨k, p, v, hp, hv, h1, h2, rfl⟩ | ⟨hx2, hcar⟩
    · obtain ⟨c', x', hc', hx', e⟩ := hc2 k p v hp hv
      rw [h1] at hc'
      rw [h2] at hx'
      have : c' = d' := Option.some.inj (hc'.symm.trans hd')
      subst this
      have := hs'.cell j c' hd' o x' hx'
      rw [hb'] at this
      exact ⟨by rw [this.1, e]; rfl, this.2⟩
    · have hkn := hs.keys j c hc
      have hkn' := hs'.keys j d' hd'
      have hmem : o ∈ d'.cells.map (·.1) := by
        rw [hk']; exact List.mem_map.2 ⟨_, (lk_mem hkn).1 hx2, rfl⟩
      obtain ⟨⟨o1, y⟩, hy, e⟩ := List.mem_map.1 hmem
      simp only at e
      subst e
      have hy' := (lk_mem hkn').2 hy
      have := hs'.cell j d' hd' o1 y hy'
      rw [hb'] at this
      rw [← hrest j c d' o1 x y hc hd' hx2 hy' (hcar hcl)]
      exact this
  · obtain ⟨c, hc, hb, hk, _⟩ := hspec j d hd
    rw [hk]; exact hs.keys j c hc
  · obtain ⟨c, hc, hb, _⟩ := hspec j d hd
    obtain ⟨d', hd', hb', _⟩ := hev j c hc
    have := hs'.lt j d' hd'
    show d.b < s'.w.heap.size
    rw [hb, ← hb']; exact this
  · obtain ⟨c1, e1, b1, _⟩ := hspec i c hc
    obtain ⟨c2, e2, b2, _⟩ := hspec j d hd
    rw [b1, b2]
    exact hs.apart i j c1 c2 e1 e2 hij
  · rcases lk_zipc hx with ⟨k, v, _, _, e⟩ | hx
    · cases e
    · obtain ⟨_, hx⟩ := lk_keep hx
      obtain ⟨c, hc, hb⟩ := hs.wfE i b j o hx
      obtain ⟨d, hd, hb', _⟩ := setCells_forth (l := A.cells) (vs := cs) (chs := s.chs) j c hc
      exact ⟨d, hd, hb'.trans hb⟩
  · obtain ⟨c, hc, hb, hk, hxs⟩ := hspec k d hd
    rcases hxs o _ hx with ⟨_, _, v, _, _, _, _, e⟩ | ⟨hx2, _⟩
    · cases e
    · obtain ⟨c', hc', hb'⟩ := hs.wfC k c o b j o' hc hx2
      obtain ⟨d', hd', hb2, _⟩ := setCells_forth (l := A.cells) (vs := cs) (chs := s.chs) j c' hc'
      exact ⟨d', hd', hb2.trans hb'⟩

/-! ### Code -/
theorem writesOps_mem {l : List Oper} {o : Oper} {d : Nat} (h : o ∈ l) (hd : o.dst = some d) : writesOps d l = true := by
  induction l with
  | nil => cases h
  | cons a r ih =>
    simp only [writesOps, Bool.or_eq_true]
    rcases List.mem_cons.1 h with rfl | h
    · left; rw [hd]; exact Nat.beq_refl d
    · exact .inr (ih h)
theorem inv_start {P : Program} {N : Nat} {Df : List Deferred} {arr : Array Oper} {s : St} {a : Act} (hr : Rel N Df s a) (hs : Sat s) : Inv P N Df arr 0 [] s (Array.replicate arr.size false) a (fun _ => undef) := by
  have h0 : ∀ i, bitOf 0 i = false := fun i => by rw [bitOf_eq]; simp
  have hl : ∀ i, ¬ isL (Array.replicate arr.size false) i := by
    intro i h
    unfold isL at h
    simp only [Array.getD_eq_getD_getElem?, Array.getElem?_replicate] at h
    split at h <;> simp at h
  refine ⟨hs, by simp, fun i hi => absurd hi (hl i), fun i o _ hi => absurd hi (hl i), fun i o _ hi => ?_, hr.1, hr.2.1, fun t x hx => .inr (hr.2.2 t x hx), fun u o hu => ?_⟩
  · simp only [h0] at hi; cases hi
  · have := hu.1
    rw [h0] at this; cases this
theorem cntL_le (listed : Array Bool) (n : Nat) : cntL listed n ≤ n := by
  unfold cntL
  exact Nat.le_trans (List.length_filter_le _ _) (by simp)
theorem QK.mono {N : Nat} {W : Nat → Prop} {s0 : St} {a0 : Act} {K K' : Exit → St → Prop} {e : Exit} {a : Act} {w : World} (h : QK N W s0 a0 K e a w) (hk : ∀ e s, K e s → K' e s) : QK N W s0 a0 K' e a w := by
  obtain ⟨s, h1, h2, h3, h4, h5⟩ := h
  exact ⟨s, h1, h2, h3, h4, hk e s h5⟩

theorem sameK_ok {a b : List Value} {K : Prop} (h : sameK a b K) : a = b ∧ K := by
  unfold sameK at h
  split at h
  · exact ⟨rfl, h⟩
  · exact h

theorem Sat.defs {s : St} (h : Sat s) (d : List Nat) : Sat { s with defs := d } := ⟨h.cell, h.keys, h.lt, h.apart, h.wfE, h.wfC⟩
theorem defsK_ok {a b : List Nat} {K : Prop} (h : defsK a b K) : a = b ∧ K := by
  unfold defsK at h
  split at h
  · exact ⟨rfl, h⟩
  · exact h
theorem lk_known {l : List (Nat × SV)} {o : Nat} {x : SV} (h : lk l o = some x) : (o, x) ∈ l := by
  induction l with
  | nil => cases h
  | cons p r ih =>
    obtain ⟨i, y⟩ := p
    rw [lk_cons] at h
    split at h
    · rename_i e
      subst e; cases h; exact List.mem_cons_self ..
    · exact List.mem_cons_of_mem _ (ih h)
theorem known_cell {w : World} : ∀ {chs : List Ch}, Known w (knowns chs) → ∀ j c, nth chs j = some c → c.b < w.heap.size ∧ ∀ o x, (o, x) ∈ c.cells → w.cell? ⟨c.b, o, none⟩ = some x.val ∧ w.frozen? ⟨c.b, o, none⟩ = false
  | [], _, j, c, h => by cases j <;> cases h
  | d :: r, ⟨⟨h1, h2⟩, h3⟩, 0, c, h => by
    simp only [nth, Option.some.injEq] at h
    subst h
    refine ⟨h1, fun o x hx => ?_⟩
    have key : ∀ l : List (Nat × Value), KnownC w d.b l → ∀ p ∈ l, w.cell? ⟨d.b, p.1, none⟩ = some p.2 ∧ w.frozen? ⟨d.b, p.1, none⟩ = false := by
      intro l
      induction l with
      | nil => intro _ p hp; cases hp
      | cons q r ih =>
        intro hk p hp
        rcases List.mem_cons.1 hp with rfl | hp
        · exact hk.1
        · exact ih hk.2 p hp
    exact key _ h2 (o, x.val) (List.mem_map.2 ⟨(o, x), hx, rfl⟩)
  | d :: r, ⟨_, h3⟩, j + 1, c, h => known_cell h3 j c h
/-- A state with other values in its known cells. -/
theorem sat_of_known {s : St} {cells : List (Nat × Nat × CTy)} {cs : List Value} {w : World} {env : List (Nat × SV)} {esc defs : List Nat} (hs : Sat s) (hok : (cellVals s.chs cells).isSome = true) (hk : Known w (knowns (setCells s.chs cells cs)))
    (he : ∀ i b j o, lk env i = some (.p b j o) → lk s.env i = some (.p b j o)) : Sat { env := env, chs := setCells s.chs cells cs, esc := esc, w := w, defs := defs } := by
  obtain ⟨cs0, hcs0⟩ := Option.isSome_iff_exists.1 hok
  have hspec := setCells_spec (vs := cs) (cells_ok hcs0)
  refine ⟨fun j d hd o x hx => (known_cell hk j d hd).2 o x (lk_known hx), fun j d hd => ?_, fun j d hd => (known_cell hk j d hd).1, fun i j c d hc hd hij => ?_, fun i b j o hx => ?_, fun k d o b j o' hd hx => ?_⟩
  · obtain ⟨c, hc, hb, hkk, _⟩ := hspec j d hd
    rw [hkk]; exact hs.keys j c hc
  · obtain ⟨c1, e1, b1, _⟩ := hspec i c hc
    obtain ⟨c2, e2, b2, _⟩ := hspec j d hd
    rw [b1, b2]
    exact hs.apart i j c1 c2 e1 e2 hij
  · obtain ⟨c, hc, hb⟩ := hs.wfE i b j o (he i b j o hx)
    obtain ⟨d, hd, hb', _⟩ := setCells_forth (l := cells) (vs := cs) (chs := s.chs) j c hc
    exact ⟨d, hd, hb'.trans hb⟩
  · obtain ⟨c, hc, hb, hkk, hxs⟩ := hspec k d hd
    rcases hxs o _ hx with ⟨_, _, v, _, _, _, _, e⟩ | ⟨hx2, _⟩
    · cases e
    · obtain ⟨c', hc', hb'⟩ := hs.wfC k c o b j o' hc hx2
      obtain ⟨d', hd', hb2, _⟩ := setCells_forth (l := cells) (vs := cs) (chs := s.chs) j c' hc'
      exact ⟨d', hd', hb2.trans hb'⟩
theorem Sat.putObj {s : St} (hs : Sat s) {l : Nat} {o o' : Obj} (hl : s.w.heap[l]? = some o) (ho : o.isCells = false) : Sat { s with w := s.w.putObj l o' } := by
  have hne : ∀ {a : Addr} {v : Value}, s.w.cell? a = some v → a.block ≠ l := by
    intro a v h e
    obtain ⟨o1, h1, h2⟩ := cells_of_cell h
    rw [e, hl] at h1
    cases h1
    rw [ho] at h2; cases h2
  refine ⟨fun j c hc o x hx => ?_, hs.keys, fun j c hc => ?_, hs.apart, hs.wfE, hs.wfC⟩
  · obtain ⟨h1, h2⟩ := hs.cell j c hc o x hx
    have hb := hne h1
    have hh : (s.w.putObj l o').heap[c.b]? = s.w.heap[c.b]? := World.putObj_heap_other hb
    exact ⟨(World.cell?_of_block (a := ⟨c.b, o, none⟩) hh).trans h1, (World.frozen?_of_block (a := ⟨c.b, o, none⟩) hh).trans h2⟩
  · show c.b < (s.w.putObj l o').heap.size
    rw [World.putObj_size]
    exact hs.lt j c hc
/-- The parameters' slots, in a round's act. -/
theorem round_tmps {N : Nat} : ∀ (ps : List Nat) (vs : List Value) (t : Array Value), t.size = N → (∀ i ∈ ps, i < N) → nodupN ps = true → ps.length = vs.length →
    ((ps.zip vs).foldl (fun tmps (t, a) => tmps.setIfInBounds t a) t).size = N ∧
    ∀ i, ((ps.zip vs).foldl (fun tmps (t, a) => tmps.setIfInBounds t a) t).getD i undef = match lk (ps.zip (vs.map SV.v)) i with | some x => x.val | none => t.getD i undef
  | [], _, t, ht, _, _, _ => ⟨by simpa using ht, fun i => by simp [lk]⟩
  | p :: ps, [], t, ht, _, _, hl => by simp at hl
  | p :: ps, v :: vs, t, ht, hp, hn, hl => by
    simp only [nodupN, Bool.and_eq_true, Bool.not_eq_true'] at hn
    obtain ⟨h1, h2⟩ := round_tmps ps vs (t.setIfInBounds p v) (by simpa using ht) (fun i hi => hp i (List.mem_cons_of_mem _ hi)) hn.2 (by simpa using hl)
    refine ⟨h1, fun i => ?_⟩
    simp only [List.zip_cons_cons, List.foldl_cons, List.map_cons] at h2 ⊢
    rw [h2 i, lk_cons]
    by_cases e : p = i
    · subst e
      rw [if_pos rfl]
      have hno : lk (ps.zip (vs.map SV.v)) p = none := by
        cases hx : lk (ps.zip (vs.map SV.v)) p with
        | none => rfl
        | some x =>
          have := (List.of_mem_zip (lk_known hx)).1
          have hm : memN p ps = true := by
            clear h2 h1 hx hp hn hl
            induction ps with
            | nil => cases this
            | cons q r ih =>
              simp only [memN]
              cases hb : Nat.beq q p with
              | true => rfl
              | false =>
                rcases List.mem_cons.1 this with e | h
                · subst e; rw [Nat.beq_refl] at hb; cases hb
                · exact ih h
          rw [hm] at hn; simp at hn
      rw [hno]
      have : p < t.size := by rw [ht]; exact hp p (List.mem_cons_self ..)
      simp [Array.getD_eq_getD_getElem?, this, SV.val]
    · rw [if_neg e]
      cases lk (ps.zip (vs.map SV.v)) i with
      | some x => rfl
      | none => simp [Array.getD_eq_getD_getElem?, Array.getElem?_setIfInBounds, e]
theorem alC_intro {c : CTy} {K : Value → Prop} (h : ∀ v, HasC c v → K v) : alC c K := by
  cases c with
  | agg l => exact alIs_intro fun vs hv => h _ ⟨vs, hv, rfl⟩
  | row l => exact alEs_intro fun vs hv => h _ ⟨vs, hv, rfl⟩
  | _ => simp only [alC] <;> intros <;> refine h _ ?_ <;> simp [HasC]
theorem alCs_intro : ∀ {ts : List CTy} {K : List Value → Prop}, (∀ vs, HasCs ts vs → K vs) → alCs ts K
  | [], K, h => h [] trivial
  | c :: r, K, h => alC_intro fun v hv => alCs_intro fun vs hvs => h (v :: vs) ⟨hv, hvs⟩
theorem sameNs_eq : ∀ {a b : List Nat}, sameNs a b = true → a = b
  | [], [], _ => rfl
  | [], _ :: _, h => by cases h
  | _ :: _, [], h => by cases h
  | x :: r, y :: t, h => by
    simp only [sameNs, Bool.and_eq_true] at h
    rw [natBeq h.1, sameNs_eq h.2]
/-- How the statement is left. -/
theorem rangeEnds_ok {l : Nat} {rec : LoopState → Option Code → Obj} {S : Option Code → St} {w : World} {K : Exit → St → Prop} : ∀ {ids : List Nat} {t : Bool}, rangeEnds l rec S w K ids t →
    (w.heap[l]? = some (rec .ready none) ∧ K .normal (S none)) ∨ (w.heap[l]? = some (rec .done (some .ret)) ∧ K .ret (S (some .ret))) ∨ ∃ id, w.heap[l]? = some (rec .done (some (.exit id))) ∧ K (.exit id) (S (some (.exit id)))
  | [], false, h => .inl h
  | [], true, h => h.elim .inl fun h => .inr (.inl h)
  | id :: r, t, h => h.elim (fun h => .inr (.inr ⟨id, h⟩)) rangeEnds_ok
theorem RangeVal_elim {P : Program} {fv y : Value} {w : World} {R : World → Prop} (h : RangeVal P fv y w R) :
    ∃ k first cap, fv = .func (.func k) first cap ∧ isGo P k = true ∧ Rets P k (first ++ #[y] ++ cap) w fun _ w' => R w' := by
  unfold RangeVal at h
  split at h
  · rename_i k first cap
    exact ⟨k, first, cap, rfl, h.1, h.2⟩
  · exact h.elim

theorem range_sound {P : Program} {N : Nat} {r : Option Nat} {A : LoopAnn} {g : Operand} {ps : Array Tmp} {assign body : Code} {exits : List Nat} {ret : Bool} {vcA vcB : Nat → (Exit → St → Prop) → St → Prop} {K : Exit → St → Prop} {s : St} {a : Act}
    (hng : noNG P) (hr : Rel N (marks s.defs) s a) (hs : Sat s)
    (IHa : ∀ l K' s' a', Rel N (marks s'.defs) s' a' → Sat s' → vcA l K' s' → assign.wpIn (fenceR (some l)) 0 P (QK N (fun i => writes i assign = true) s' a' K') a' s'.w)
    (IHb : ∀ l K' s' a', Rel N (marks s'.defs) s' a' → Sat s' → vcB l K' s' → body.wpIn (fenceR (some l)) 0 P (QK N (fun i => writes i body = true) s' a' K') a' s'.w)
    (h : vcRange P N r A g ps.toList exits ret vcA vcB K s) :
    (Code.rangeFunc g ps assign body).wpIn (fenceR r) 0 P (QK N (fun i => writes i (.rangeFunc g ps assign body) = true) s a K) a s.w := by
  unfold vcRange at h
  split at h
  rotate_left
  · exact h.elim
  rename_i fv hg
  obtain ⟨hc, h⟩ := cond_ok h
  simp only [Bool.and_eq_true] at hc
  obtain ⟨⟨⟨hsame, hnod⟩, hlt⟩, hcells⟩ := hc
  have hps := sameNs_eq hsame
  have h := knownK_ok h (knowns_ok hs)
  have hgv : a.eval g = fv := hr.agrees [g] g (by simp) _ hg
  refine wpIn_rangeFunc fun fn hfn => ?_
  let rec_ : LoopState → Option Code → Obj := fun st p => .loop { state := st, pending := p, fn, tmps := a.tmps, params := ps, assign, body, defers := s.w.heap.size }
  have hrun := run_enterLoop_outer (w := s.w) (P := P) fn a.tmps ps assign body
  have hpn : ∀ i ∈ ps.toList, i < N := fun i hi => by
    have := List.all_eq_true.1 hlt i hi
    simpa [Nat.blt_eq] using this
  have hstate : ∀ (cs : List Value) (w2 : World) (p : Option Code) (st : LoopState) (q : Option Code), Known w2 (knowns (setCells s.chs A.cells cs)) → w2.heap[s.w.heap.size + 1]? = some (rec_ st q) →
      ∃ s' : St, s' = { s with chs := setCells s.chs A.cells cs, w := w2.putObj (s.w.heap.size + 1) (rec_ .exhausted p), defs := s.w.heap.size :: s.defs } ∧
        Ev (fun i => writes i (.rangeFunc g ps assign body) = true) s a s' { a with defers := [markB s.w.heap.size] ++ a.defers } ∧ Rel N (marks s'.defs) s' { a with defers := [markB s.w.heap.size] ++ a.defers } ∧ Sat s' := by
    intro cs w2 p st q hkn hl
    have h0 : Sat { s with chs := setCells s.chs A.cells cs, w := w2, defs := s.w.heap.size :: s.defs } := sat_of_known hs hcells hkn (fun _ _ _ _ h => h)
    refine ⟨_, rfl, ⟨setCells_forth, fun _ _ => rfl⟩, ⟨hr.1, ?_, hr.2.2⟩, Sat.putObj (l := s.w.heap.size + 1) (o := rec_ st q) (o' := rec_ .exhausted p) h0 hl rfl⟩
    show [markB s.w.heap.size] ++ a.defers = markB s.w.heap.size :: marks s.defs
    rw [hr.2.1]; rfl
  have hR := h rec_ (fun _ _ => rfl) (alCs_intro fun vs hvs => alCs_intro fun cs hcs => ?_)
  · obtain ⟨k, first, cap, rfl, hgo, hR⟩ := RangeVal_elim hR
    generalize hw1 : ((s.w.alloc (.deferred (some []))).alloc (.loop { state := .ready, pending := none, fn, tmps := a.tmps, params := ps, assign, body, defers := s.w.heap.size })) = w1 at hrun
    refine ⟨s.w.heap.size + 1, [markB s.w.heap.size], w1, { target := .fn (.func k) cap, args := first ++ #[.func (.yield (s.w.heap.size + 1)) #[] #[]] }, w1, k, first ++ #[.func (.yield (s.w.heap.size + 1)) #[] #[]] ++ cap, w1, hrun, ?_, fun f' _ => trivial, ?_, fun h => (by cases h), ?_⟩
    · simp only [resolve, rangeCall, hgv, Deferred.ofValue, Sem.run_pure, List.map_toArray, List.map_cons, List.map_nil]
      rfl
    · simp only [invoke]
      exact run_callFunc_go hng hgo
    subst hw1
    refine callsIn_wide.2 (Calls.mono hR ?_)
    rintro e w2 ⟨v, rfl, hex⟩
    obtain ⟨cs, _, hkn, hend⟩ := exCs_ex hex
    rcases rangeEnds_ok hend with ⟨hl, hK⟩ | ⟨hl, hK⟩ | ⟨id, hl, hK⟩
    · obtain ⟨s', e', h1, h2, h3⟩ := hstate cs w2 none _ _ hkn hl
      refine ⟨none, _, run_endLoop hl (by simp), s', h1, h2, h3, by rw [e'], by rw [e']; exact hK⟩
    · obtain ⟨s', e', h1, h2, h3⟩ := hstate cs w2 (some .ret) _ _ hkn hl
      refine ⟨some .ret, _, run_endLoop hl (by simp), wpIn_ret ⟨s', h1, h2, h3, by rw [e'], by rw [e']; exact hK⟩⟩
    · obtain ⟨s', e', h1, h2, h3⟩ := hstate cs w2 (some (.exit id)) _ _ hkn hl
      refine ⟨some (.exit id), _, run_endLoop hl (by simp), wpIn_exit ⟨s', h1, h2, h3, by rw [e'], by rw [e']; exact hK⟩⟩
  · intro w R hrec hkn hround
    have hlen : vs.length = ps.size := by
      have h1 := HasCs_len hvs
      have h2 := congrArg List.length hps
      simp only [List.length_map, Array.length_toList] at h1 h2
      omega
    obtain ⟨t1, t2⟩ := round_tmps ps.toList vs a.tmps hr.1 hpn hnod (by simpa using hlen.symm)
    have hfold : ((ps.zip vs.toArray).foldl (fun tmps (t, a) => tmps.setIfInBounds t a) a.tmps) = ((ps.toList.zip vs).foldl (fun tmps (t, a) => tmps.setIfInBounds t a) a.tmps) := by
      rw [← Array.foldl_toList]; simp
    refine ⟨fn, ((ps.zip vs.toArray).foldl (fun tmps (t, a) => tmps.setIfInBounds t a) a.tmps), assign, body, ?_, ?_⟩
    · have := run_yield (P := P) (args := vs.toArray) hrec (by simpa using hlen)
      simpa using this
    refine roundIn_of_wpIn (F := Fence.wide) (n := 0) trivial ?_
    rw [hfold]
    have hrel : Rel N (marks []) { env := ps.toList.zip (vs.map SV.v) ++ s.env, chs := setCells s.chs A.cells cs, esc := s.esc, w := w, defs := [] } { tmps := ((ps.toList.zip vs).foldl (fun tmps (t, a) => tmps.setIfInBounds t a) a.tmps), defers := [] } := by
      refine ⟨t1, rfl, fun i x hx => ?_⟩
      show (((ps.toList.zip vs).foldl (fun tmps (t, a) => tmps.setIfInBounds t a) a.tmps)).getD i undef = x.val
      rw [t2 i]
      have hap : ∀ (l m : List (Nat × SV)), lk (l ++ m) i = match lk l i with | some x => some x | none => lk m i := by
        intro l m
        induction l with
        | nil => rfl
        | cons p r ih =>
          obtain ⟨j, y⟩ := p
          simp only [List.cons_append, lk_cons]
          split
          · rfl
          · exact ih
      rw [hap] at hx
      cases hz : lk (ps.toList.zip (vs.map SV.v)) i with
      | some y => rw [hz] at hx; simp only [Option.some.injEq] at hx ⊢; rw [hx]
      | none => rw [hz] at hx; exact hr.2.2 i x hx
    have hsat : Sat { env := ps.toList.zip (vs.map SV.v) ++ s.env, chs := setCells s.chs A.cells cs, esc := s.esc, w := w, defs := [] } := by
      refine sat_of_known hs hcells hkn fun i b j o hx => ?_
      rcases lk_zipc hx with ⟨_, v, _, _, e⟩ | hx
      · cases e
      · exact hx
    refine wpIn_mono (IHa _ _ _ _ hrel hsat hround) ?_
    rintro e a1 w1 ⟨s1, _, hr1, hs1, rfl, hK⟩
    cases e with
    | normal =>
      obtain ⟨hrec1, hB⟩ := hK
      refine ⟨_, run_beginRound hrec1 rfl, ?_⟩
      refine wpIn_mono (IHb _ _ { s1 with w := s1.w.putObj (s.w.heap.size + 1) (rec_ .busy none) } a1 hr1 (Sat.putObj hs1 hrec1 rfl) hB) ?_
      rintro e2 a2 w2 ⟨s2, _, _, hs2, rfl, hK2⟩
      have hK2 := knownK_ok hK2 (knowns_ok hs2)
      cases e2 with
      | normal => exact ⟨_, _, run_endRound none hK2.1, _, rfl, hK2.2⟩
      | ret => exact ⟨_, _, run_endRound (some .ret) hK2.1, _, rfl, hK2.2⟩
      | exit id => exact ⟨_, _, run_endRound (some (.exit id)) hK2.1, _, rfl, hK2.2⟩
      | _ => exact hK2.elim
    | _ => exact hK.elim

theorem join_sound {P : Program} {N : Nat} {r : Option Nat} {A : LoopAnn} {x y : Code} {vcA vcB : (Exit → St → Prop) → St → Prop} {K : Exit → St → Prop} {s : St} {a : Act}
    (hr : Rel N (marks s.defs) s a) (hs : Sat s)
    (IHa : ∀ K' s' a', Rel N (marks s'.defs) s' a' → Sat s' → vcA K' s' → x.wpIn (fenceR r) 0 P (QK N (fun i => writes i x = true) s' a' K') a' s'.w)
    (IHb : ∀ K' s' a', Rel N (marks s'.defs) s' a' → Sat s' → vcB K' s' → y.wpIn (fenceR r) 0 P (QK N (fun i => writes i y = true) s' a' K') a' s'.w)
    (h : vcJoin A x vcA vcB K s) : (Code.seq x y).wpIn (fenceR r) 0 P (QK N (fun i => writes i (.seq x y) = true) s a K) a s.w := by
  unfold vcJoin at h
  split at h
  rotate_left
  · exact h.elim
  rename_i cs0 hcs0
  obtain ⟨hkw, h⟩ := cond_ok h
  obtain ⟨I, hB, hA⟩ := h
  refine wpIn_seq (wpIn_mono (IHa _ s a hr hs hA) ?_)
  rintro e a2 w2 ⟨s2, hev2, hr2, hs2, rfl, hK⟩
  have hev1 : Ev (fun i => writes i (.seq x y) = true) s a s2 a2 := hev2.mono fun i hi => by simp only [writes, hi, Bool.true_or]
  have hnw : ∀ i ∈ A.keep, ¬ (writes i x = true) := by
    intro i hi hw
    have := List.all_eq_true.1 hkw i hi
    rw [hw] at this; cases this
  cases e with
  | normal =>
    simp only at hK
    split at hK
    · rename_i vs' cs' hv' hc'
      obtain ⟨hdefs, hK⟩ := defsK_ok hK
      obtain ⟨hsame, hK1⟩ := sameK_ok hK
      have hr2 : Rel N (marks s.defs) s2 a2 := hdefs ▸ hr2
      have hreq := restVals_eq hev2.1 rfl hsame
      obtain ⟨h7, h8⟩ : HasCs (A.carried.map (·.2)) vs' ∧ HasCs (A.cells.map (·.2.2)) cs' := HasCs_app (apF_has hK1) (by simpa using (slotVals_some hv').1)
      have hkp : ∀ i z, lk (keepEnv s.env A.keep) i = some z → a2.tmps.getD i undef = z.val := fun i z hz => by
        obtain ⟨h1, h2⟩ := lk_keep hz
        rw [hev2.2 i (hnw i h1)]
        exact hr.2.2 i z h2
      obtain ⟨h9, h10⟩ := head_ok (A := A) hs hs2 hev2.1 hr2 hv' hc' hcs0 hkp (fun j c d o u v hc hd hx hy hcar => by
        have := hreq j c d hc hd
        rw [Nat.zero_add] at this
        obtain ⟨d', hd', _, hk'⟩ := hev2.1 j c hc
        have e : d' = d := Option.some.inj (hd'.symm.trans hd)
        subst e
        exact restC_eq hk' this o v u ((lk_mem (hs2.keys j d' hd)).1 hy) (hs2.keys j d' hd) hx hcar)
      have hvc := alCs_use (alCs_use hB h7) h8 s2.w hK1
      have hvc := knownK_ok hvc (knowns_ok h10)
      refine wpIn_mono (IHb K (headSt A s vs' cs' s2.w) a2 h9 h10 hvc) ?_
      rintro e a3 w3 ⟨s3, hev3, h3⟩
      exact ⟨s3, ⟨(setCells_forth (l := A.cells) (vs := cs')).trans hev3.1, fun i hi => (hev3.2 i (fun hw => hi (by simp only [writes, hw, Bool.or_true]))).trans (hev1.2 i hi)⟩, h3⟩
    · exact hK.elim
  | exit id => exact ⟨s2, hev1, hr2, hs2, rfl, hK⟩
  | goto l => exact ⟨s2, hev1, hr2, hs2, rfl, hK⟩
  | ret => exact ⟨s2, hev1, hr2, hs2, rfl, hK⟩
  | panic c => exact ⟨s2, hev1, hr2, hs2, rfl, hK⟩
  | outgrown => exact ⟨s2, hev1, hr2, hs2, rfl, hK⟩

theorem vcCode_sound {P : Program} {N : Nat} {ann : List (Nat × LoopAnn)} (hng : noNG P) (hm : P.follows .mixedOrders = true) :
    ∀ (c : Code) (r : Option Nat) (K : Exit → St → Prop) (s : St) (a : Act), Rel N (marks s.defs) s a → Sat s → vcCode P N r ann c K s → c.wpIn (fenceR r) 0 P (QK N (fun i => writes i c = true) s a K) a s.w
  | .skip, r, K, s, a, hr, hs, h => wpIn_skip ⟨s, Ev.refl _ _ _, hr, hs, rfl, h⟩
  | .label l, r, K, s, a, hr, hs, h => wpIn_label ⟨s, Ev.refl _ _ _, hr, hs, rfl, h⟩
  | .exit id, r, K, s, a, hr, hs, h => wpIn_exit ⟨s, Ev.refl _ _ _, hr, hs, rfl, h⟩
  | .ret, r, K, s, a, hr, hs, h => wpIn_ret ⟨s, Ev.refl _ _ _, hr, hs, rfl, h⟩
  | .seq x y, r, K, s, a, hr, hs, h => by
    unfold vcCode at h
    split at h
    · exact join_sound hr hs (fun K' s' a' h1 h2 h3 => vcCode_sound hng hm x r K' s' a' h1 h2 h3) (fun K' s' a' h1 h2 h3 => vcCode_sound hng hm y r K' s' a' h1 h2 h3) h
    refine wpIn_seq (wpIn_mono (vcCode_sound hng hm x r _ s a hr hs h) ?_)
    rintro e a' w' ⟨s', hev, hr', hs', rfl, hK⟩
    have hev1 : Ev (fun i => writes i (.seq x y) = true) s a s' a' := hev.mono fun i hi => by simp only [writes, hi, Bool.true_or]
    cases e with
    | normal =>
      refine wpIn_mono (vcCode_sound hng hm y r _ s' a' hr' hs' hK) ?_
      rintro e a2 w2 ⟨s2, hev2, h2⟩
      exact ⟨s2, hev1.trans (hev2.mono fun i hi => by simp only [writes, hi, Bool.or_true]), h2⟩
    | exit id => exact ⟨s', hev1, hr', hs', rfl, hK⟩
    | goto l => exact ⟨s', hev1, hr', hs', rfl, hK⟩
    | ret => exact ⟨s', hev1, hr', hs', rfl, hK⟩
    | panic c => exact ⟨s', hev1, hr', hs', rfl, hK⟩
    | outgrown => exact ⟨s', hev1, hr', hs', rfl, hK⟩
  | .cond c x y, r, K, s, a, hr, hs, h => by
    unfold vcCode at h
    split at h
    · rename_i t hc
      have he : a.eval c = .bool t := hr.agrees [c] c (by simp) _ hc
      cases t with
      | true =>
        refine wpIn_cond_true he (wpIn_mono (vcCode_sound hng hm x r _ s a hr hs h) ?_)
        rintro e a2 w2 ⟨s2, hev2, h2⟩
        exact ⟨s2, hev2.mono fun i hi => by simp only [writes, hi, Bool.true_or], h2⟩
      | false =>
        refine wpIn_cond_false he (wpIn_mono (vcCode_sound hng hm y r _ s a hr hs h) ?_)
        rintro e a2 w2 ⟨s2, hev2, h2⟩
        exact ⟨s2, hev2.mono fun i hi => by simp only [writes, hi, Bool.or_true], h2⟩
    · exact h.elim
  | .block id c, r, K, s, a, hr, hs, h => by
    refine wpIn_block (wpIn_mono (vcCode_sound hng hm c r _ s a hr hs h) ?_)
    rintro e a' w' ⟨s', hev, hr', hs', rfl, hK⟩
    cases e with
    | exit i =>
      simp only [Exit.inBlock]
      cases hb : Nat.beq i id with
      | true =>
        simp only [hb, cond_true] at hK
        rw [if_pos (natBeq hb)]
        exact ⟨s', hev, hr', hs', rfl, hK⟩
      | false =>
        simp only [hb, cond_false] at hK
        rw [if_neg (natBeq_false hb)]
        exact ⟨s', hev, hr', hs', rfl, hK⟩
    | normal => exact ⟨s', hev, hr', hs', rfl, hK⟩
    | goto l => exact ⟨s', hev, hr', hs', rfl, hK⟩
    | ret => exact ⟨s', hev, hr', hs', rfl, hK⟩
    | panic c => exact ⟨s', hev, hr', hs', rfl, hK⟩
    | outgrown => exact ⟨s', hev, hr', hs', rfl, hK⟩
  | .region id ops false, r, K, s, a, hr, hs, h => by
    refine wpIn_region_list (vcOps_sound (r := r) (s0 := s) (a0 := a) (W := fun i => writes i (.region id ops false) = true) hng (fun s' a' hev hr' hs' hK => ⟨{ s' with defs := s.defs }, hev, hr', hs'.defs _, rfl, hK⟩) ops.toList s a (fun o ho d hd => writesOps_mem ho hd) (Ev.refl _ _ _) hr hs h)
  | .region id ops true, r, K, s, a, hr, hs, h => by
    unfold vcCode at h
    obtain ⟨hok, h⟩ := cond_ok h
    have hok := regOk_spec hok
    refine wpIn_region_any hm ?_
    have hr' : Rel N (marks s.defs) { s with w := s.w.drew } a := hr
    have := draw_sound (r := r) (s0 := s) (a0 := a) (W := fun i => writes i (.region id ops true) = true) (Q := QK N (fun i => writes i (.region id ops true) = true) s a K) hng hok
      (fun k o d ho hd => writesOps_mem (by rw [nth_eq] at ho; exact List.mem_of_getElem? ho) hd)
      (fun s' a' hev hr' hs' hK => ⟨{ s' with defs := s.defs }, hev, hr', hs'.defs _, rfl, hK⟩) _ 0 [] { s with w := s.w.drew } (fun _ => undef) (Evo.refl _) h ops.size (Array.replicate ops.size false) a (inv_start hr' hs.drew) (fun _ _ => rfl) (cntL_le _ _)
    exact this
  | .loop body, r, K, s, a, hr, hs, h => by
    unfold vcCode vcLoop at h
    split at h
    · rename_i vs0 cs0 hvs0 hcs0
      obtain ⟨hkw, h⟩ := cond_ok h
      obtain ⟨I, m, hI0, hround⟩ := h
      generalize annAt ann (firstReg body) = A at *
      -- typed lists
      have hlen : ∀ {vs cs : List Value} {s' : St}, slotVals s'.env A.carried = some vs → ∀ {w}, apF False (A.carried.map (·.2) ++ A.cells.map (·.2.2)) I (vs ++ cs) w → HasCs (A.carried.map (·.2)) vs ∧ HasCs (A.cells.map (·.2.2)) cs := by
        intro vs cs s' hv w hap
        exact HasCs_app (apF_has hap) (by simpa using (slotVals_some hv).1)
      have hnw : ∀ i ∈ A.keep, ¬ (writes i body = true) := by
        intro i hi hw
        have := List.all_eq_true.1 hkw i hi
        rw [hw] at this; cases this
      let J : (List Value × List Value × World) → Act → World → Prop := fun x a' w =>
        x.2.2 = w ∧ HasCs (A.carried.map (·.2)) x.1 ∧ HasCs (A.cells.map (·.2.2)) x.2.1 ∧ Rel N (marks s.defs) (headSt A s x.1 x.2.1 w) a' ∧ Sat (headSt A s x.1 x.2.1 w) ∧ apF False (A.carried.map (·.2) ++ A.cells.map (·.2.2)) I (x.1 ++ x.2.1) w ∧
          Fr (fun i => writes i (.loop body) = true) a a'
      have hkp : ∀ a' : Act, Fr (fun i => writes i (.loop body) = true) a a' → ∀ i x, lk (keepEnv s.env A.keep) i = some x → a'.tmps.getD i undef = x.val := fun a' hfr i x hx => by
        obtain ⟨h1, h2⟩ := lk_keep hx
        rw [hfr i (hnw i h1)]
        exact hr.2.2 i x h2
      have hstart : J (vs0, cs0, s.w) a s.w := by
        obtain ⟨h1, h2⟩ := hlen hvs0 hI0
        obtain ⟨h3, h4⟩ := head_ok (A := A) hs hs (Evo.refl _) hr hvs0 hcs0 hcs0 (hkp a fun _ _ => rfl) (fun j c d o x y hc hd hx hy _ => by
          have : c = d := Option.some.inj (hc.symm.trans hd)
          subst this
          have : x = y := Option.some.inj (hx.symm.trans hy)
          subst this; rfl)
        exact ⟨rfl, h1, h2, h3, h4, hI0, fun _ _ => rfl⟩
      refine wpIn_loopX J (fun x => apF 0 (A.carried.map (·.2) ++ A.cells.map (·.2.2)) m (x.1 ++ x.2.1) x.2.2) ?_ (vs0, cs0, s.w) hstart
      rintro ⟨vs, cs, w0⟩ a1 w1 ⟨e0, h1, h2, h3, h4, h5, h6⟩
      simp only at e0 h1 h2 h3 h4 h5
      subst e0
      have hvc := alCs_use (alCs_use hround h1) h2 w0 h5
      have hvc := knownK_ok hvc (knowns_ok h4)
      have := vcCode_sound hng hm body r _ (headSt A s vs cs w0) a1 h3 h4 hvc
      refine wpIn_mono this ?_
      rintro e a2 w2 ⟨s2, hev2, hr2, hs2, rfl, hK⟩
      have hevc : Evo s.chs s2.chs := (setCells_forth (l := A.cells) (vs := cs)).trans hev2.1
      have hfr2 : Fr (fun i => writes i (.loop body) = true) a a2 := fun i hi => (hev2.2 i hi).trans (h6 i hi)
      cases e with
      | normal =>
        simp only at hK
        split at hK
        · rename_i vs' cs' hv' hc'
          obtain ⟨hdefs, hK⟩ := defsK_ok hK
          obtain ⟨hsame, hK1, hK2⟩ := sameK_ok hK
          have hr2 : Rel N (marks s.defs) s2 a2 := hdefs ▸ hr2
          have hreq := restVals_eq hevc rfl hsame
          obtain ⟨h7, h8⟩ := hlen hv' hK1
          obtain ⟨h9, h10⟩ := head_ok (A := A) hs hs2 hevc hr2 hv' hc' hcs0 (hkp a2 hfr2) (fun j c d o x y hc hd hx hy hcar => by
            have := hreq j c d hc hd
            rw [Nat.zero_add] at this
            obtain ⟨d', hd', _, hk'⟩ := hevc j c hc
            have e : d' = d := Option.some.inj (hd'.symm.trans hd)
            subst e
            exact restC_eq hk' this o y x ((lk_mem (hs2.keys j d' hd)).1 hy) (hs2.keys j d' hd) hx hcar)
          exact ⟨(vs', cs', s2.w), ⟨rfl, h7, h8, h9, h10, hK1, hfr2⟩, hK2⟩
        · exact hK.elim
      | exit i => exact ⟨s2, ⟨hevc, hfr2⟩, hr2, hs2, rfl, hK⟩
      | goto l => exact ⟨s2, ⟨hevc, hfr2⟩, hr2, hs2, rfl, hK⟩
      | ret => exact ⟨s2, ⟨hevc, hfr2⟩, hr2, hs2, rfl, hK⟩
      | panic c => exact ⟨s2, ⟨hevc, hfr2⟩, hr2, hs2, rfl, hK⟩
      | outgrown => exact ⟨s2, ⟨hevc, hfr2⟩, hr2, hs2, rfl, hK⟩
    · exact h.elim
  | .rangeFunc g ps x y, r, K, s, a, hr, hs, h =>
    range_sound hng hr hs (fun l K' s' a' h1 h2 h3 => vcCode_sound hng hm x (some l) K' s' a' h1 h2 h3) (fun l K' s' a' h1 h2 h3 => vcCode_sound hng hm y (some l) K' s' a' h1 h2 h3) h
  | .scope c, r, K, s, a, hr, hs, h => by
    refine wpIn_scopeX (wpIn_mono (vcCode_sound hng hm c r _ s a hr hs h) ?_)
    rintro e a' w' ⟨s', hev, hr', hs', rfl, hK⟩
    cases e with
    | goto l => exact hK.elim
    | normal => exact ⟨s', hev, hr', hs', rfl, hK⟩
    | exit i => exact ⟨s', hev, hr', hs', rfl, hK⟩
    | ret => exact ⟨s', hev, hr', hs', rfl, hK⟩
    | panic c => exact ⟨s', hev, hr', hs', rfl, hK⟩
    | outgrown => exact ⟨s', hev, hr', hs', rfl, hK⟩
  | .goto l, r, K, s, a, hr, hs, h => h.elim
  | .refuse why, r, K, s, a, hr, hs, h => h.elim

end Go.SX
set_option linter.unusedSimpArgs false
set_option linter.unusedVariables false
namespace Go.SX
open Go

def resOne (tmps : Array Value) : ResultVar → Sem Value
  | .tmp t => pure (tmps.getD t undef)
  | .cell a t => do loadVar t (← asAddr (tmps.getD a undef))
def pack (l : List Value) : Value := if l.length = 1 then l.getD 0 undef else .tuple l.toArray
theorem retC_nil {P : Program} {acc : List Value} {s : St} {R : Value → Prop} (h : retC P [] acc s R) : R (pack acc) := by
  unfold retC at h
  match acc, h with
  | [], h => exact h
  | [v], h => exact h
  | u :: v :: r, h => simpa [pack] using h
theorem retC_sound {P : Program} {N : Nat} {D : List Deferred} {a : Act} {R : Value → Prop} {s : St} (hr : Rel N D s a) (hs : Sat s) : ∀ (rs : List ResultVar) (acc : List Value), retC P rs acc s R →
    ∃ vs, (rs.mapM (m := Sem) (resOne a.tmps)).run P s.w = .ok vs s.w ∧ R (pack (acc ++ vs))
  | [], acc, h => ⟨[], rfl, by simpa using retC_nil h⟩
  | .tmp t :: r, acc, h => by
    have h' : (match lk s.env t with | some x => retC P r (acc ++ [x.val]) s R | none => False) := by
      cases r <;> cases acc <;> exact h
    split at h'
    · rename_i x hx
      obtain ⟨vs, h1, h2⟩ := retC_sound hr hs r _ h'
      refine ⟨x.val :: vs, ?_, by simpa using h2⟩
      simp only [List.mapM_cons, resOne, Sem.run_bind, Sem.run_pure, Result.andThen_ok, h1, hr.2.2 t x hx]
    · exact h'.elim
  | .cell c t :: r, acc, h => by
    have h' : (match lk s.env c with | some x => loadC P t x s fun y _ _ => retC P r (acc ++ [y.val]) s R | none => False) := by
      cases r <;> cases acc <;> exact h
    split at h'
    · rename_i x hx
      have hv := hr.2.2 c x hx
      have hwf : wfV s.chs x := fun b j o e => by subst e; exact hs.wfE c b j o hx
      obtain ⟨y, e, G, hK, _, hG, hrun⟩ := loadC_sound hs hwf h'
      have hrun := hrun s.w hG
      obtain ⟨vs, h1, h2⟩ := retC_sound hr hs r _ hK
      refine ⟨y.val :: vs, ?_, by simpa using h2⟩
      have h3 : (resOne a.tmps (.cell c t)).run P s.w = .ok y.val s.w := by
        simp only [resOne, hv]
        unfold loadC at h'
        obtain ⟨_, h'⟩ := cond_ok h'
        cases x with
        | p b j off => simpa only [SV.val, loadAt_eq, asAddr, pure_bind] using hrun
        | v z =>
          cases z with
          | pointer q =>
            cases q with
            | none => exact h'.elim
            | some ad => simpa only [SV.val, loadAt_eq, asAddr, pure_bind] using hrun
          | _ => exact h'.elim
      simp only [List.mapM_cons, Sem.run_bind, h3, Sem.run_pure, Result.andThen_ok, h1]
    · exact h'.elim
theorem results_eq (fn : Func) (tmps : Array Value) : results fn tmps = (fn.results.mapM (resOne tmps) >>= fun vs => pure (if h : vs.size = 1 then vs[0] else .tuple vs)) := by
  unfold results resOne
  rfl
theorem results_run {P : Program} {N : Nat} {D : List Deferred} {a : Act} {R : Value → Prop} {s : St} {fn : Func} (hr : Rel N D s a) (hs : Sat s) (h : retC P fn.results.toList [] s R) : ∃ v, (results fn a.tmps).run P s.w = .ok v s.w ∧ R v := by
  obtain ⟨vs, h1, h2⟩ := retC_sound hr hs _ _ h
  refine ⟨pack vs, ?_, by simpa using h2⟩
  rw [results_eq, Sem.run_bind, Array.mapM_eq_mapM_toList, Sem.run_map, h1]
  simp only [Result.andThen_ok, Sem.run_pure, pack]
  congr 1
  by_cases hl : vs.length = 1
  · have : vs.toArray.size = 1 := by simpa using hl
    rw [dif_pos this, if_pos hl]
    match vs, hl with
    | [v], _ => rfl
  · have : ¬ vs.toArray.size = 1 := by simpa using hl
    rw [dif_neg this, if_neg hl]
theorem args_env (args : List SV) (i : Nat) : lk (args.zipIdx.map fun (x, i) => (i, x)) i = args[i]? := by
  rw [lk_zip]; simp

theorem leaves_ends {P : Program} {N : Nat} {fn : Func} {a : Act} {R : Ending → World → Prop} : ∀ (ds : List Nat) (s : St), Rel N (marks s.defs) s a → Sat s → endD ds s.w (fun w' => retC P fn.results.toList [] { s with w := w' } fun v => R (.returned v) w') →
    LeavesInM Fence.wide 0 P fn a.tmps R (marks ds) .returning s.w
  | [], s, hr, hs, h => by
    obtain ⟨v, h1, h2⟩ := results_run (s := s) hr hs h
    exact ⟨v, h1, h2⟩
  | d :: ds, s, hr, hs, ⟨h1, h2⟩ => by
    have hs' : Sat { s with w := s.w.putObj d (.deferred none) } := hs.putObj h1 rfl
    exact ⟨by simp, .inl ⟨d, _, rfl, run_takeDeferred h1, leaves_ends ds { s with w := s.w.putObj d (.deferred none) } hr hs' h2⟩⟩

/-- **The condition of a function is a contract.** -/
theorem vcFn_sound {P : Program} {ann : List (Nat × LoopAnn)} {k : FuncId} {fn : Func} {args : List SV} {chs : List Ch} {w : World} {R : Ending → World → Prop}
    (hng : noNG P) (hm : P.follows .mixedOrders = true) (hf : P.funcs[k]? = some fn) (hs : Sat ⟨args.zipIdx.map fun (x, i) => (i, x), chs, [], w, []⟩)
    (h : vcFn P ann fn args chs w R) : Calls P k (args.map SV.val).toArray w R := by
  unfold vcFn at h
  split at h
  · rename_i c hc
    obtain ⟨hle, h⟩ := cond_ok h
    have hle := Nat.le_of_ble_eq_true hle
    refine callsIn_wide.1 (callsIn_of_wp_marks (F := Fence.wide) (n := 0) hf hc trivial ?_)
    have hr : Rel fn.ntmps [] ⟨args.zipIdx.map fun (x, i) => (i, x), chs, [], w, []⟩ { tmps := (args.map SV.val).toArray ++ Array.replicate (fn.ntmps - (args.map SV.val).toArray.size) undef, defers := [] } := by
      refine ⟨by simp; omega, rfl, fun i x hx => ?_⟩
      simp only [args_env] at hx
      have hi : i < args.length := by
        rcases Nat.lt_or_ge i args.length with h | h
        · exact h
        · rw [List.getElem?_eq_none h] at hx; cases hx
      have hx' : args[i] = x := by rw [List.getElem?_eq_getElem hi] at hx; exact Option.some.inj hx
      simp [Array.getD_eq_getD_getElem?, Array.getElem?_append, hi, hx']
    have := vcCode_sound hng hm c none _ _ _ hr hs h
    refine wpIn_mono this ?_
    rintro e a w' ⟨s, _, hr', hs', rfl, hK⟩
    cases e with
    | normal =>
      show LeavesInM Fence.wide 0 P fn a.tmps R a.defers .returning s.w
      rw [hr'.2.1]
      exact leaves_ends _ s hr' hs' (knownK_ok hK (knowns_ok hs'))
    | ret =>
      show LeavesInM Fence.wide 0 P fn a.tmps R a.defers .returning s.w
      rw [hr'.2.1]
      exact leaves_ends _ s hr' hs' (knownK_ok hK (knowns_ok hs'))
    | _ => exact hK.elim
  · exact h.elim
/-- Without known blocks. -/
theorem Sat.plain {args : List Value} {w : World} : Sat ⟨(args.map SV.v).zipIdx.map fun (x, i) => (i, x), [], [], w, []⟩ := by
  refine ⟨fun j c h => by simp [nth] at h, fun j c h => by simp [nth] at h, fun j c h => by simp [nth] at h, fun i j c d h => by simp [nth] at h, fun i b j o h => ?_, fun k c o b j o' h => by simp [nth] at h⟩
  simp only [args_env, List.getElem?_map] at h
  cases hx : args[i]? <;> rw [hx] at h <;> simp at h
end Go.SX

set_option linter.unusedSimpArgs false
set_option linter.unusedVariables false
namespace Go.SX
open Go

/-! ### What a function leaves as it was -/
/-- w' is w, grown: but for the blocks of S, every block of w is as it was. -/
structure Kp (S : Nat → Prop) (w w' : World) : Prop where
  os : w'.os = w.os
  tape : w'.tape = w.tape
  out : w'.output = w.output
  frz : ∀ a : Addr, a.block < w.heap.size → w'.frozen? a = w.frozen? a
  size : w.heap.size ≤ w'.heap.size
  same : ∀ i, i < w.heap.size → ¬ S i → w'.heap[i]? = w.heap[i]?
abbrev none_ : Nat → Prop := fun _ => False
abbrev one_ (b : Nat) : Nat → Prop := fun i => i = b
theorem Kp.refl (S : Nat → Prop) (w : World) : Kp S w w := ⟨rfl, rfl, rfl, fun _ _ => rfl, Nat.le_refl _, fun _ _ _ => rfl⟩
theorem Kp.trans {S : Nat → Prop} {a b c : World} (h : Kp S a b) (k : Kp S b c) : Kp S a c :=
  ⟨k.os.trans h.os, k.tape.trans h.tape, k.out.trans h.out, fun x hx => (k.frz x (Nat.lt_of_lt_of_le hx h.size)).trans (h.frz x hx), Nat.le_trans h.size k.size, fun i hi hs => (k.same i (Nat.lt_of_lt_of_le hi h.size) hs).trans (h.same i hi hs)⟩
theorem Kp.mono {S T : Nat → Prop} {a b : World} (h : Kp S a b) (hs : ∀ i, i < a.heap.size → S i → T i) : Kp T a b :=
  ⟨h.os, h.tape, h.out, h.frz, h.size, fun i hi ht => h.same i hi fun hsi => ht (hs i hi hsi)⟩
/-- The second step may change what the first one laid. -/
theorem Kp.then {S T : Nat → Prop} {a b c : World} (h : Kp S a b) (k : Kp T b c) (hs : ∀ i, i < a.heap.size → T i → S i) : Kp S a c :=
  ⟨k.os.trans h.os, k.tape.trans h.tape, k.out.trans h.out, fun x hx => (k.frz x (Nat.lt_of_lt_of_le hx h.size)).trans (h.frz x hx), Nat.le_trans h.size k.size,
    fun i hi hn => (k.same i (Nat.lt_of_lt_of_le hi h.size) fun ht => hn (hs i hi ht)).trans (h.same i hi hn)⟩
theorem Kp.drew {S : Nat → Prop} {a b : World} (h : Kp S a b) : Kp S a b.drew := ⟨h.os, h.tape, h.out, h.frz, h.size, h.same⟩
theorem Kp.of_drew {S : Nat → Prop} {a b : World} (h : Kp S a.drew b) : Kp S a b := ⟨h.os, h.tape, h.out, h.frz, h.size, h.same⟩
theorem alloc_get (b : World) (o : Obj) (i : Nat) : (b.alloc o).heap[i]? = if i = b.heap.size then some o else b.heap[i]? := by
  show (b.heap.push o)[i]? = _
  rw [Array.getElem?_push]
theorem alloc_size (b : World) (o : Obj) : (b.alloc o).heap.size = b.heap.size + 1 := by
  show (b.heap.push o).size = _
  simp
theorem Kp.alloc1 {S : Nat → Prop} {a b : World} (h : Kp S a b) (o : Obj) : Kp S a (b.alloc o) := by
  refine ⟨h.os, h.tape, h.out, fun x hx => ?_, Nat.le_trans h.size (by rw [alloc_size]; omega), fun i hi hs => ?_⟩
  · rw [← h.frz x hx]
    have := h.size
    unfold World.frozen?
    rw [alloc_get, if_neg (by omega)]
  · rw [← h.same i hi hs, alloc_get, if_neg (by have := h.size; omega)]
theorem Kp.alloc {S : Nat → Prop} {a b : World} (h : Kp S a b) (c : Array Value) (t : TypeId) : Kp S a (b.alloc (.cells c t)) := h.alloc1 _
theorem Kp.setCell {S : Nat → Prop} {a b : World} (h : Kp S a b) {x : Addr} (v : Value) (hs : S x.block ∨ a.heap.size ≤ x.block) : Kp S a (b.setCell x v) := by
  refine ⟨h.os, h.tape, h.out, fun y hy => (World.frozen?_setCell _ _ _ _).trans (h.frz y hy), by simpa [World.setCell] using h.size, fun i hi hn => ?_⟩
  · rw [← h.same i hi hn]
    have : x.block ≠ i := fun e => by subst e; rcases hs with hs | hs; exact hn hs; omega
    simp [World.setCell, Array.getElem?_modify, this]
theorem cell_lt {w : World} {a : Addr} {v : Value} (h : w.cell? a = some v) : a.block < w.heap.size := by
  unfold World.cell? at h
  split at h
  · rename_i h'; exact (Array.getElem?_eq_some_iff.1 h').1
  · cases h
theorem Kp.cell {S : Nat → Prop} {w w' : World} (h : Kp S w w') {a : Addr} {v : Value} (hc : w.cell? a = some v) (hs : ¬ S a.block) : w'.cell? a = some v := by
  have := h.same a.block (cell_lt hc) hs
  unfold World.cell? at hc ⊢
  rw [this]; exact hc
theorem Kp.cell0 {w w' : World} (h : Kp none_ w w') {a : Addr} {v : Value} (hc : w.cell? a = some v) : w'.cell? a = some v := h.cell hc id
theorem Kp.below {W w' : World} (h : Kp none_ W w') : Go.RowKit.Below W.heap.size W w' := ⟨h.os, h.tape, h.out, h.size, fun k hk => h.same k hk id⟩
theorem Kp.frame {W w' : World} (h : Kp none_ W w') (may : MemPlace → Prop) : W.keptBut w' may := by
  refine ⟨h.os, h.out, fun i hi => ?_⟩
  have := h.same i hi id
  rw [this]
  cases hx : W.heap[i]? with
  | none => trivial
  | some o => cases o <;> simp
theorem Kp.keeps {S : Nat → Prop} {w w' : World} (h : Kp S w w') {bs : List Nat} (hb : ∀ b ∈ bs, b < w.heap.size ∧ ¬ S b) : Keeps w w' bs := ⟨h.size, fun b hm => h.same b (hb b hm).1 (hb b hm).2⟩
theorem Kp.keeps0 {S : Nat → Prop} {w w' : World} (h : Kp S w w') : Keeps w w' [] := ⟨h.size, fun b hm => by cases hm⟩

/-! ### Cells -/
@[simp] theorem drew_cell (w : World) (a : Addr) : w.drew.cell? a = w.cell? a := rfl
@[simp] theorem drew_frozen (w : World) (a : Addr) : w.drew.frozen? a = w.frozen? a := rfl
@[simp] theorem drew_size (w : World) : w.drew.heap.size = w.heap.size := rfl
theorem add_block (a : Addr) (n : Nat) : (a.add n).block = a.block := by unfold Addr.add; split <;> rfl

/-- A slice's first n elements are b's, integers of a kind. -/
def Ints (w : World) (k : IntKind) (q : Option Addr) (n : Nat) (b : Int → Int) : Prop := ∀ i : Int, 0 ≤ i → i < n → ∃ a, q = some a ∧ w.cell? (a.add i.toNat) = some (.int k (b i))
theorem Ints.kp {S : Nat → Prop} {w w' : World} {k : IntKind} {q : Option Addr} {n : Nat} {b : Int → Int} (h : Ints w k q n b) (hk : Kp S w w') (hs : 0 < n → ∀ a, q = some a → ¬ S a.block) : Ints w' k q n b := fun i h0 h1 => by
  obtain ⟨a, e, hc⟩ := h i h0 h1
  exact ⟨a, e, hk.cell hc (by rw [add_block]; exact hs (by omega) a e)⟩
theorem Ints.kp0 {w w' : World} {k : IntKind} {q : Option Addr} {n : Nat} {b : Int → Int} (h : Ints w k q n b) (hk : Kp none_ w w') : Ints w' k q n b := h.kp hk fun _ _ _ => id
theorem Ints.drew {w : World} {k : IntKind} {q : Option Addr} {n : Nat} {b : Int → Int} (h : Ints w k q n b) : Ints w.drew k q n b := h
/-! ### Steps -/
theorem bif_dec {p : Prop} [Decidable p] {A B : Prop} (h : p → A) (k : ¬ p → B) : bif decide p then A else B := by
  by_cases hp : p
  · simpa [hp] using h hp
  · simpa [hp] using k hp
theorem bif_b {c : Bool} {A B : Prop} (h : c = true → A) (k : c = false → B) : bif c then A else B := by
  cases c
  · exact k rfl
  · exact h rfl
theorem bif_not {c : Bool} {A B : Prop} (h : c = false → A) (k : c = true → B) : bif !c then A else B := by
  cases c
  · exact h rfl
  · exact k rfl
theorem bif_eq {a b : Int} {A B : Prop} (h : a = b → A) (k : a ≠ b → B) : bif a == b then A else B := by
  by_cases hp : a = b
  · simpa [hp] using h hp
  · have : (a == b) = false := by simpa using hp
    rw [this]; exact k hp
theorem bif_ne {a b : Int} {A B : Prop} (h : a ≠ b → A) (k : a = b → B) : bif a != b then A else B := by
  by_cases hp : a = b
  · have : (a != b) = false := by simp [hp]
    rw [this]; exact k hp
  · have : (a != b) = true := by simp [hp]
    rw [this]; exact h hp
theorem wrap64 {z : Int} (h : -9223372036854775808 ≤ z ∧ z < 9223372036854775808) : IntKind.wrap .i64 z = z := by
  simp [IntKind.wrap, IntKind.bits, IntKind.signed]
  split <;> omega
theorem wr64 {z : Int} {K : Int → Prop} (h : -9223372036854775808 ≤ z ∧ z < 9223372036854775808) (hK : K z) : Wr .i64 z K := by
  unfold Wr; rw [wrap64 h]; exact hK
theorem Rets.mono {P : Program} {f : FuncId} {args : Array Value} {w : World} {R R' : Value → World → Prop} (h : Rets P f args w R) (hr : ∀ v w', R v w' → R' v w') : Rets P f args w R' :=
  Calls.mono h fun e w' ⟨v, he, hR⟩ => ⟨v, he, hr v w' hR⟩
theorem CallsVal.mono {P : Program} {f : Value} {args : Array Value} {w : World} {R R' : Value → World → Prop} (h : CallsVal P f args w R) (hr : ∀ v w', R v w' → R' v w') : CallsVal P f args w R' := by
  unfold CallsVal at h ⊢
  split at h
  · exact ⟨h.1, h.2.mono hr⟩
  · obtain ⟨fn, tmps, assign, body, hy, hR⟩ := h
    exact ⟨fn, tmps, assign, body, hy, hR.mono fun e w' ⟨v, he, hv⟩ => ⟨v, he, hr v w' hv⟩⟩
  · exact h.elim
/-! ### Bits -/
theorem ad_add (b o k : Nat) : (⟨b, o, none⟩ : Addr).add k = ⟨b, o + k, none⟩ := by unfold Addr.add; split <;> simp_all
theorem cell_set_same {w : World} {a : Addr} {u : Value} (v : Value) (h : w.cell? a = some u) : (w.setCell a v).cell? a = some v := World.cell?_setCell_same _ _ _ h
theorem cell_set_off {w : World} {b o o' : Nat} (v : Value) (h : o ≠ o') : (w.setCell ⟨b, o, none⟩ v).cell? ⟨b, o', none⟩ = w.cell? ⟨b, o', none⟩ := World.cell?_setCell_other _ _ _ _ (fun e => h (by cases e; rfl))
theorem cell_set_far {w : World} {x a : Addr} (v : Value) (h : x.block ≠ a.block) : (w.setCell x v).cell? a = w.cell? a := World.cell?_setCell_other _ _ _ _ (fun e => h (by rw [e]))
theorem frozen_set {w : World} {x a : Addr} (v : Value) : (w.setCell x v).frozen? a = w.frozen? a := World.frozen?_setCell _ _ _ _
theorem heap_set_far {w : World} {x : Addr} {i : Nat} (v : Value) (h : x.block ≠ i) : (w.setCell x v).heap[i]? = w.heap[i]? := by simp [World.setCell, Array.getElem?_modify, h]
theorem cell_alloc_new {w : World} {cs : Array Value} {t : TypeId} {j : Nat} {v : Value} (h : cs[j]? = some v) : (w.alloc (.cells cs t)).cell? ⟨w.heap.size, j, none⟩ = some v := by
  unfold World.cell?
  rw [alloc_get]; simpa using h

theorem frozen_same {w w' : World} {a : Addr} (h : w'.heap[a.block]? = w.heap[a.block]?) : w'.frozen? a = w.frozen? a := by
  unfold World.frozen?; rw [h]
/-! ### Records and marks -/
theorem Kp.putObj {S : Nat → Prop} {a b : World} (h : Kp S a b) {l : Nat} (o : Obj) (hl : a.heap.size ≤ l) : Kp S a (b.putObj l o) := by
  refine ⟨h.os, h.tape, h.out, fun x hx => ?_, by rw [World.putObj_size]; exact h.size, fun i hi hs => ?_⟩
  · rw [← h.frz x hx]
    exact frozen_same (World.putObj_heap_other (by omega))
  · rw [← h.same i hi hs]
    exact World.putObj_heap_other (by omega)
theorem Kp.putObj1 {S : Nat → Prop} {b : World} {l : Nat} {o : Obj} (o' : Obj) (hl : b.heap[l]? = some o) (ho : o.isCells = false) (ho' : o'.isCells = false) (hs : S l) : Kp S b (b.putObj l o') := by
  refine ⟨rfl, rfl, rfl, fun x hx => ?_, by rw [World.putObj_size]; exact Nat.le_refl _, fun i hi hn => ?_⟩
  · by_cases hx : x.block = l
    · unfold World.frozen?
      rw [hx, hl, World.putObj_heap_same (Array.getElem?_eq_some_iff.1 hl).1]
      cases o <;> cases o' <;> simp_all [Obj.isCells]
    · exact frozen_same (World.putObj_heap_other hx)
  · exact World.putObj_heap_other (fun e => hn (e ▸ hs))
/-- A block that is one cell of one's own. -/
structure Cel (w : World) (b : Nat) (v : Value) : Prop where
  cell : w.cell? ⟨b, 0, none⟩ = some v
  frz : w.frozen? ⟨b, 0, none⟩ = false
theorem Cel.lt {w : World} {b : Nat} {v : Value} (h : Cel w b v) : b < w.heap.size := cell_lt h.cell
theorem Cel.kp {S : Nat → Prop} {w w' : World} {b : Nat} {v : Value} (h : Cel w b v) (hk : Kp S w w') (hs : ¬ S b) : Cel w' b v := ⟨hk.cell h.cell hs, (hk.frz ⟨b, 0, none⟩ h.lt).trans h.frz⟩
theorem Cel.set {w : World} {b : Nat} {v : Value} (h : Cel w b v) (u : Value) : Cel (w.setCell ⟨b, 0, none⟩ u) b u := ⟨cell_set_same _ h.cell, by rw [frozen_set]; exact h.frz⟩
theorem Cel.off {w : World} {b c : Nat} {v : Value} (h : Cel w b v) (u : Value) (hne : c ≠ b) : Cel (w.setCell ⟨c, 0, none⟩ u) b v := ⟨by rw [cell_set_far _ hne]; exact h.cell, by rw [frozen_set]; exact h.frz⟩
theorem Cel.new (w : World) (v : Value) (t : TypeId) : Cel (w.alloc (.cells #[v] t)) w.heap.size v := ⟨cell_alloc_new rfl, by
  unfold World.frozen?; rw [alloc_get, if_pos rfl]; simp⟩
theorem Cel.alloc {w : World} {b : Nat} {v : Value} (h : Cel w b v) (o : Obj) : Cel (w.alloc o) b v := h.kp ((Kp.refl none_ w).alloc1 o) id
theorem add_add (a : Addr) (l i : Nat) : (a.add l).add i = a.add (l + i) := by
  unfold Addr.add
  by_cases h : l = 0
  · subst h; simp
  · by_cases h' : i = 0
    · subst h'; simp [h]
    · simp [h, h']; omega
/-- k bytes from a on, as a string. -/
def strOf (b : Int → Int) (a : Int) (k : Nat) : ByteArray := ⟨((List.range k).map fun i : Nat => UInt8.ofNat (b (a + i)).toNat).toArray⟩
theorem strOf_size (b : Int → Int) (a : Int) (k : Nat) : (strOf b a k).size = k := by simp [strOf, ByteArray.size]
theorem strOf_get (b : Int → Int) (a : Int) (k i : Nat) (h : i < (strOf b a k).size) : (strOf b a k)[i] = UInt8.ofNat (b (a + i)).toNat := by
  have : (strOf b a k)[i] = (strOf b a k).data[i]'h := rfl
  rw [this]
  simp [strOf]
theorem Ints.str {w : World} {q : Option Addr} {n : Nat} {b : Int → Int} (h : Ints w .u8 q n b) (hr : ∀ i : Int, 0 ≤ i → i < n → 0 ≤ b i ∧ b i < 256) (cap l k : Nat) (hl : l + k ≤ n) (hc : n ≤ cap) : BytesAt w (cutA q cap l 1) (strOf b l k) := by
  intro i hi
  have hik : i < k := by rw [strOf_size] at hi; exact hi
  obtain ⟨a, e, hcl⟩ := h (l + i) (by omega) (by omega)
  subst e
  have hne : ¬ cap = l := by omega
  refine ⟨a.add l, by simp [cutA, hne], ?_⟩
  rw [add_add, show l + i = ((l : Int) + i).toNat by omega, hcl, strOf_get]
  have := hr (l + i) (by omega) (by omega)
  congr 2
  rw [UInt8.toNat_ofNat']
  omega

/-! ### Rows of one's own -/
def fresh (w : World) : Nat → Prop := fun i => w.heap.size ≤ i
def OwnRow (w : World) (own : Nat → Prop) (e : TypeId) (size : Nat) (v : Value) (n : Nat) (xs : List Value) : Prop :=
  xs.length = n * size ∧ ((v = .slice none 0 0 ∧ n = 0) ∨
    ∃ g cap cur, v = .slice (some ⟨g, 0, none⟩) n cap ∧ own g ∧ w.heap[g]? = some (Obj.cells cur e (0, 0)) ∧ n ≤ cap ∧ cap ≤ maxLen ∧ cur.size = cap * size ∧ cur.toList.take (n * size) = xs)
theorem OwnRow.nil (w : World) (own : Nat → Prop) (e : TypeId) (size : Nat) : OwnRow w own e size (.slice none 0 0) 0 [] := ⟨by simp, .inl ⟨rfl, rfl⟩⟩
theorem OwnRow.mono {w : World} {own own' : Nat → Prop} {e : TypeId} {size n : Nat} {v : Value} {xs : List Value} (h : OwnRow w own e size v n xs) (ho : ∀ i, own i → i < w.heap.size → own' i) : OwnRow w own' e size v n xs := by
  refine ⟨h.1, h.2.imp id ?_⟩
  rintro ⟨g, cap, cur, h1, h2, h3, h4⟩
  exact ⟨g, cap, cur, h1, ho g h2 (Array.getElem?_eq_some_iff.1 h3).1, h3, h4⟩
theorem OwnRow.kp {S : Nat → Prop} {w w' : World} {own : Nat → Prop} {e : TypeId} {size n : Nat} {v : Value} {xs : List Value} (h : OwnRow w own e size v n xs) (hk : Kp S w w') (hs : ∀ g n cap, v = .slice (some ⟨g, 0, none⟩) n cap → own g → ¬ S g) : OwnRow w' own e size v n xs := by
  refine ⟨h.1, h.2.imp id ?_⟩
  rintro ⟨g, cap, cur, h1, h2, h3, h4⟩
  exact ⟨g, cap, cur, h1, h2, (hk.same g (Array.getElem?_eq_some_iff.1 h3).1 (hs g n cap h1 h2)).trans h3, h4⟩
theorem OwnRow.slice {w : World} {own : Nat → Prop} {e : TypeId} {size n : Nat} {v : Value} {xs : List Value} (h : OwnRow w own e size v n xs) : ∃ q c, v = .slice q n c := by
  rcases h.2 with ⟨h1, h2⟩ | ⟨g, cap, cur, h1, _⟩
  · subst h2; exact ⟨_, _, h1⟩
  · exact ⟨_, _, h1⟩
theorem OwnRow.at {w : World} {own : Nat → Prop} {e : TypeId} {size n : Nat} {q : Option Addr} {m c : Nat} {xs : List Value} (h : OwnRow w own e size (.slice q m c) n xs) {j : Nat} {u : Value} (hj : xs[j]? = some u) : ∃ a, q = some a ∧ w.cell? (a.add j) = some u := by
  rcases h.2 with ⟨h1, h2⟩ | ⟨g, cap, cur, h1, h2, h3, h4, h5, h6, h7⟩
  · subst h2
    have : xs = [] := List.eq_nil_of_length_eq_zero (by simpa using h.1)
    subst this; simp at hj
  · cases h1
    refine ⟨_, rfl, ?_⟩
    have hsp : ((⟨g, 0, none⟩ : Addr).add j) = ⟨g, j, none⟩ := by unfold Addr.add; split <;> simp_all
    rw [hsp]
    simp only [World.cell?, h3]
    rw [← h7] at hj
    rw [List.getElem?_take] at hj
    split at hj
    · simpa using hj
    · cases hj
theorem setRow_kp {w : World} {g : Nat} {cur cur' : Array Value} {e : TypeId} (hg : w.heap[g]? = some (Obj.cells cur e (0, 0))) {S : Nat → Prop} (hs : S g) : Kp S w (w.setRow g cur') := by
  have hh : (w.setRow g cur').heap[g]? = some (Obj.cells cur' e (0, 0)) := setRow_heap w g cur cur' e _ hg
  refine ⟨rfl, rfl, rfl, fun a _ => ?_, by simp, fun i hi hn => setRow_other w g i _ (fun e => hn (e ▸ hs))⟩
  by_cases ha : a.block = g
  · unfold World.frozen?
    rw [ha, hh, hg]
  · unfold World.frozen?
    rw [setRow_other w g a.block _ ha]
/-- An element type's size, and its zero's. -/
def elemOk (P : Program) (e : TypeId) (size : Nat) : Bool :=
  match P.info? e with
  | some i => (match i.zero with | some z => Nat.beq i.size size && Nat.beq z.cells.size size && Nat.ble i.bytes 1024 | none => false)
  | none => false
theorem elemOk_spec {P : Program} {e : TypeId} {size : Nat} (h : elemOk P e size = true) : ∃ i z, P.info? e = some i ∧ i.zero = some z ∧ i.size = size ∧ z.cells.size = size ∧ i.bytes ≤ 1024 := by
  unfold elemOk at h
  split at h
  · rename_i i hi
    split at h
    · rename_i z hz
      simp only [Bool.and_eq_true] at h
      exact ⟨i, z, hi, hz, Nat.eq_of_beq_eq_true h.1.1, Nat.eq_of_beq_eq_true h.1.2, Nat.le_of_ble_eq_true h.2⟩
    · cases h
  · cases h
theorem append_own {P : Program} {w : World} {own : Nat → Prop} {t ty e : TypeId} {size : Nat} {v : Value} {n : Nat} {xs : List Value} {a : Addr} {m c : Nat} {news : List Value} {K : Value → World → Prop}
    (ht : P.underlying t = some (.slice e)) (he : elemOk P e size = true) (hsz : 0 < size)
    (hown : OwnRow w own e size v n xs) (hl : news.length = m * size) (hnews : ∀ j u, news[j]? = some u → w.cell? (a.add j) = some u) (h1 : ∀ u ∈ news, u.oneCell' = true) (hm : 0 < m) (hb : n + m ≤ 137438953472)
    (hK : ∀ v' w', OwnRow w' (fun i => own i ∨ fresh w i) e size v' (n + m) (xs ++ news) → Kp own w w' → K v' w') : Runs P (Builtin.append_ #[t, t] ty #[v, .slice (some a) m c]) w K := by
  obtain ⟨i, z, hi, hz, hsize, hzs, hby⟩ := elemOk_spec he
  subst hsize
  have h63 : n + m ≤ maxLen := by simp only [maxLen]; omega
  have hbytes : (n + m) * i.bytes ≤ 140737488355328 := Nat.le_trans (Nat.mul_le_mul_left _ hby) (by omega)
  have hlen : (xs ++ news).length = (n + m) * i.size := by rw [List.length_append, hown.1, hl, Nat.add_mul]
  have grown : ∀ old : Nat, old < n + m →
      OwnRow (w.drew.alloc (.cells (xs.toArray ++ news.toArray ++ Builtin.zeroCells z.cells (grownCap w (n + m) old e - (n + m))) e)) (fun i => own i ∨ fresh w i) e i.size (.slice (some ⟨w.heap.size, 0, none⟩) (n + m) (grownCap w (n + m) old e)) (n + m) (xs ++ news) ∧
      Kp own w (w.drew.alloc (.cells (xs.toArray ++ news.toArray ++ Builtin.zeroCells z.cells (grownCap w (n + m) old e - (n + m))) e)) := by
    intro old ho
    have hge := grownCap_ge w (n + m) old e
    refine ⟨⟨hlen, .inr ⟨w.heap.size, _, _, rfl, .inr (Nat.le_refl _), by rw [alloc_get]; exact if_pos rfl, hge, grownCap_le_maxLen w (n + m) old e h63, ?_, ?_⟩⟩, (Kp.refl own w).drew.alloc _ _⟩
    · simp only [Array.size_append, List.size_toArray, size_zeroCells, hzs, hown.1, hl, ← Nat.add_mul]
      congr 1
      omega
    · simp only [Array.toList_append, List.append_assoc]
      rw [← List.append_assoc, ← hlen]
      exact List.take_left
  rcases hown.2 with ⟨rfl, rfl⟩ | ⟨g, cap, cur, rfl, hog, hg, hnc, hcm, hcs, htake⟩
  · have hx : xs = [] := List.eq_nil_of_length_eq_zero (by simpa using hown.1)
    subst hx
    have hr := run_append_nil (P := P) w t ty e i z ht hi hz a m c news hl hnews (by omega) (by omega) (by simp only [Nat.zero_add] at hbytes; omega)
    obtain ⟨g1, g2⟩ := grown 0 (by omega)
    simp only [Nat.zero_add, List.nil_append, Array.empty_append] at g1 g2
    exact ⟨_, _, hr, hK _ _ (by simpa using g1) g2⟩
  · by_cases hroom : n + m ≤ cap
    · have hfit : n * i.size + news.length ≤ cur.size := by rw [hl, hcs, ← Nat.add_mul]; exact Nat.mul_le_mul_right _ hroom
      have hr := run_append_room (P := P) w t ty e i ht hi g n cap cur hg a m c news hl hnews h1 hroom hfit
      refine ⟨_, _, hr, hK _ _ ⟨hlen, .inr ⟨g, cap, _, rfl, .inl hog, setRow_heap w g cur _ e _ hg, hroom, hcm, ?_, ?_⟩⟩ (setRow_kp hg hog)⟩
      · simp only [List.size_toArray, List.length_append, List.length_take, List.length_drop, Array.length_toList]
        omega
      · rw [htake, ← hlen]
        exact List.take_left
    · have holds : ∀ j u, xs[j]? = some u → w.cell? ((⟨g, 0, none⟩ : Addr).add j) = some u := fun j u hj => by
        obtain ⟨_, e1, e2⟩ := hown.at hj
        cases e1; exact e2
      have hr := run_append_grow (P := P) w t ty e i z ht hi hz ⟨g, 0, none⟩ n cap xs hown.1 holds a m c news hl hnews (by omega) (by omega) (growslice_fits (by omega) hbytes)
      obtain ⟨g1, g2⟩ := grown cap (by omega)
      exact ⟨_, _, hr, hK _ _ g1 g2⟩
end Go.SX

set_option linter.unusedSimpArgs false
set_option linter.unusedVariables false
namespace Go.SX
open Go Go.MapKept

/-- A map in memory: what each key stands for. -/
def MapOf (w : World) (r : Nat) (d : TypeDesc) (g : Value → Option Value) : Prop :=
  ∃ es clock, w.heap[r]? = some (.map es clock) ∧ Stamped es clock ∧ (∀ x ∈ es.toList, IsKey d x.key ∧ g x.key = some x.val) ∧ ∀ k v, g k = some v → ∃ x ∈ es.toList, x.key = k ∧ x.val = v
theorem MapOf.nil (w : World) (d : TypeDesc) : MapOf (w.alloc (.map #[] 0)) w.heap.size d (fun _ => none) :=
  ⟨#[], 0, by rw [alloc_get, if_pos rfl], stamped_empty 0, by simp, by simp⟩
theorem MapOf.lt {w : World} {r : Nat} {d : TypeDesc} {g : Value → Option Value} (h : MapOf w r d g) : r < w.heap.size := by
  obtain ⟨es, clock, h1, _⟩ := h
  exact (Array.getElem?_eq_some_iff.1 h1).1
theorem MapOf.kp {S : Nat → Prop} {w w' : World} {r : Nat} {d : TypeDesc} {g : Value → Option Value} (h : MapOf w r d g) (hk : Kp S w w') (hs : ¬ S r) : MapOf w' r d g := by
  obtain ⟨es, clock, h1, h2⟩ := h
  exact ⟨es, clock, (hk.same r (Array.getElem?_eq_some_iff.1 h1).1 hs).trans h1, h2⟩
theorem MapOf.drew {w : World} {r : Nat} {d : TypeDesc} {g : Value → Option Value} (h : MapOf w r d g) : MapOf w.drew r d g := h
/-- No cell lies in it. -/
theorem MapOf.setCell {w : World} {r : Nat} {d : TypeDesc} {g : Value → Option Value} (h : MapOf w r d g) (a : Addr) {u : Value} (hc : w.cell? a = some u) (v : Value) : MapOf (w.setCell a v) r d g := by
  obtain ⟨es, clock, h1, h2⟩ := h
  have hne : a.block ≠ r := by
    rintro rfl
    unfold World.cell? at hc
    rw [h1] at hc
    simp at hc
  exact ⟨es, clock, by rw [heap_set_far v hne]; exact h1, h2⟩
theorem MapOf.look {w : World} {r : Nat} {d : TypeDesc} {g : Value → Option Value} (h : MapOf w r d g) {P : Program} {mty kt et : TypeId} (hm : P.underlying mty = some (.map kt et)) (hd : P.underlying kt = some d) {k z : Value} (hk : IsKey d k)
    (hz : (zeroValue et).run P w = .ok z w) (c : Bool) : (Instr.lookup mty (.map (some r)) k c).run P w = .ok (if c then .tuple #[(g k).getD z, .bool (g k).isSome] else (g k).getD z) w := by
  obtain ⟨es, clock, hb, hs, hks, hg⟩ := h
  rcases findNow_spec hk es.toList 0 (fun x hx => (hks x hx).1) with ⟨h1, h2⟩ | ⟨j, e, h1, h2, h3⟩
  · have hn : g k = none := by
      cases hgk : g k with
      | none => rfl
      | some v =>
        obtain ⟨x, hx, e, _⟩ := hg k v hgk
        exact absurd e (h2 x hx)
    simp [Instr.lookup, run_underlying hm, Go.MapKept.run_getObj_map hb, Go.MapKept.run_checkKey hd hk, Go.MapKept.run_findKey hd h1, hz, Result.andThen, hn]
  · have hmem : e ∈ es.toList := List.mem_of_getElem? h2
    have hs : g k = some e.val := by rw [← h3]; exact (hks e hmem).2
    simp [Instr.lookup, run_underlying hm, Go.MapKept.run_getObj_map hb, Go.MapKept.run_checkKey hd hk, Go.MapKept.run_findKey hd h1, Result.andThen, hs]
theorem setObj_kp {w : World} {r : Nat} (o : Obj) {o0 : Obj} (hb : w.heap[r]? = some o0) (hf : ∀ a : Addr, a.block = r → w.frozen? a = ({ w with heap := w.heap.setIfInBounds r o } : World).frozen? a) : Kp (one_ r) w { w with heap := w.heap.setIfInBounds r o } := by
  refine ⟨rfl, rfl, rfl, fun a _ => ?_, by simp, fun i _ hi => (heap_set hb).2 i hi⟩
  by_cases ha : a.block = r
  · exact (hf a ha).symm
  · unfold World.frozen?
    have := (heap_set (o' := o) hb).2 a.block ha
    simp only [this]
theorem MapOf.put {w : World} {r : Nat} {d : TypeDesc} {g g' : Value → Option Value} (h : MapOf w r d g) {P : Program} {mty kt et : TypeId} (hm : P.underlying mty = some (.map kt et)) (hd : P.underlying kt = some d) {k v : Value} (hk : IsKey d k)
    (h1 : g' k = some v) (h2 : ∀ k', k' ≠ k → g' k' = g k') : ∃ w', (Instr.mapUpdate mty (.map (some r)) k v).run P w = .ok () w' ∧ MapOf w' r d g' ∧ Kp (one_ r) w w' := by
  obtain ⟨es, clock, hb, hs, hks, hg⟩ := h
  have fz : ∀ (es' : Array MapEntry) (c' : Nat) (a : Addr), a.block = r → w.frozen? a = ({ w with heap := w.heap.setIfInBounds r (.map es' c') } : World).frozen? a := by
    intro es' c' a ha
    unfold World.frozen?
    rw [ha, hb, (heap_set (o' := .map es' c') hb).1]
  rcases findNow_spec hk es.toList 0 (fun x hx => (hks x hx).1) with ⟨f1, f2⟩ | ⟨j, e, f1, f2, f3⟩
  · refine ⟨_, by simp [Instr.mapUpdate, run_underlying hm, Go.MapKept.run_getObj_map hb, Go.MapKept.run_checkKey hd hk, Go.MapKept.run_findKey hd f1, Go.MapKept.run_setObj_map _ hb, Result.andThen]; rfl, ⟨_, _, (heap_set hb).1, stamped_push hs f2, ?_, ?_⟩, setObj_kp _ hb (fz _ _)⟩
    · intro x hx
      simp only [Array.toList_push, List.mem_append, List.mem_singleton] at hx
      rcases hx with hx | rfl
      · exact ⟨(hks x hx).1, by rw [h2 _ (f2 x hx)]; exact (hks x hx).2⟩
      · exact ⟨hk, h1⟩
    · intro k' v' hv
      by_cases e : k' = k
      · subst e
        rw [h1] at hv; cases hv
        exact ⟨⟨k', v, clock⟩, by simp, rfl, rfl⟩
      · rw [h2 _ e] at hv
        obtain ⟨x, hx, e1, e2⟩ := hg k' v' hv
        exact ⟨x, by simp [Array.toList_push]; exact .inl (by simpa using hx), e1, e2⟩
  · have hj : es[j]? = some e := by simpa using f2
    have hkey : ∀ e', e' ∈ es.toList → es[j]? = some e' → ({ e' with key := k, val := v } : MapEntry).key = e'.key := fun e' _ he' => by rw [hj] at he'; cases he'; exact f3.symm
    have hjl : j < es.size := (Array.getElem?_eq_some_iff.1 hj).1
    refine ⟨{ w with heap := w.heap.setIfInBounds r (.map (es.modify j fun e => { e with key := k, val := v }) clock) }, by simp [Instr.mapUpdate, run_underlying hm, Go.MapKept.run_getObj_map hb, Go.MapKept.run_checkKey hd hk, Go.MapKept.run_findKey hd f1, hj, f3, Go.MapKept.run_keyThatStays hk, Go.MapKept.run_setObj_map _ hb, Result.andThen],
      ⟨_, _, (heap_set hb).1, stamped_modify hs _ _ (fun _ _ => rfl) hkey, ?_, ?_⟩, setObj_kp _ hb (fz _ _)⟩
    · intro x hx
      obtain ⟨i, hi, hx⟩ := List.getElem_of_mem hx
      simp only [Array.getElem_toList] at hx
      have hi' : i < es.size := by simpa using hi
      rw [Array.getElem_modify] at hx
      by_cases hij : j = i
      · rw [if_pos hij] at hx
        subst hx
        exact ⟨hk, h1⟩
      · rw [if_neg hij] at hx
        have hmem : x ∈ es.toList := by rw [← hx]; simp
        refine ⟨(hks x hmem).1, ?_⟩
        rw [h2]
        · exact (hks x hmem).2
        · intro e'
          obtain ⟨_, _, hnd⟩ := hs
          have h3 : (es.toList.map (·.key))[i]? = (es.toList.map (·.key))[j]? := by
            have hjj : es[j] = e := by have := Array.getElem?_eq_getElem hjl; rw [hj] at this; exact (Option.some.inj this).symm
            simp [hi', hjl, hx, e', hjj, f3]
          exact hij ((List.getElem?_inj (by simpa using hi') hnd).1 h3).symm
    · intro k' v' hv
      by_cases e' : k' = k
      · subst e'
        rw [h1] at hv; cases hv
        refine ⟨{ e with key := k', val := v }, ?_, rfl, rfl⟩
        rw [List.mem_iff_getElem?]
        exact ⟨j, by simp [Array.getElem?_modify, hj]⟩
      · rw [h2 _ e'] at hv
        obtain ⟨x, hx, e1, e2⟩ := hg k' v' hv
        obtain ⟨i, hi⟩ := List.mem_iff_getElem?.1 hx
        refine ⟨x, List.mem_iff_getElem?.2 ⟨i, ?_⟩, e1, e2⟩
        have hij : j ≠ i := by
          rintro rfl
          rw [f2] at hi; cases hi
          exact e' (e1.symm.trans f3)
        simpa [Array.getElem?_modify, hij] using hi

/-- One element, made just before, behind a row of one's own. -/
theorem append_new {P : Program} {w : World} {own : Nat → Prop} {t ty e : TypeId} {size : Nat} {v : Value} {n : Nat} {xs : List Value} (news : Array Value) {K : Value → World → Prop}
    (ht : P.underlying t = some (.slice e)) (he : elemOk P e size = true) (hsz : 0 < size) (hown : OwnRow w own e size v n xs) (hl : news.size = size) (h1 : ∀ u ∈ news.toList, u.oneCell' = true) (hb : n + 1 ≤ 137438953472)
    (hK : ∀ q c w', OwnRow w' (fun i => own i ∨ fresh w i) e size (.slice q (n + 1) c) (n + 1) (xs ++ news.toList) → Kp own w w' → Kp own (w.alloc (.cells news e)) w' → K (.slice q (n + 1) c) w') :
    Runs P (Builtin.append_ #[t, t] ty #[v, .slice (some ⟨w.heap.size, 0, none⟩) 1 1]) (w.alloc (.cells news e)) K := by
  have ka : Kp none_ w (w.alloc (.cells news e)) := (Kp.refl none_ w).alloc _ _
  refine append_own (own := own) (xs := xs) (news := news.toList) (m := 1) ht he hsz (hown.kp ka fun _ _ _ _ _ => id) (by simpa using hl) ?_ h1 (by omega) hb ?_
  · intro j u hj
    rw [ad_add, Nat.zero_add]
    exact cell_alloc_new (by simpa using hj)
  · intro v' w' hrow hk
    obtain ⟨q, c, rfl⟩ := hrow.slice
    refine hK q c w' (hrow.mono fun i hi _ => hi.imp id fun hf => ?_) ((ka.mono fun _ _ h => h.elim).trans hk) hk
    exact Nat.le_trans ka.size hf

/-! ### Iterators: functions that tell a list's elements to a function value, one by one -/
/-- The function value fv tells 'all', till it is told 'false'; the blocks of Q are what it reads and nobody may change, those of P0 its own. J: what stands when so many are told, with the blocks that are fv's own; Inv: what stands of these. -/
def IterSpec (P : Program) (fv : Value) (all : List Value) (Q P0 : Nat → Prop) (Inv : (Nat → Prop) → World → Prop) (w : World) : Prop :=
  (∃ k first cap, fv = .func (.func k) first cap) ∧
  ∀ (w0 : World), Kp (fun i => ¬ Q i ∧ ¬ P0 i) w w0 → ∀ (y : Value) (J : List Value → (Nat → Prop) → World → Prop) (E : (Nat → Prop) → World → Prop),
    J [] P0 w0 →
    (∀ l Pv w1 w2, J l Pv w1 → Kp Pv w1 w2 → J l (fun i => Pv i ∨ (w1.heap.size ≤ i ∧ i < w2.heap.size)) w2) →
    (∀ l t r Pv w1, all = l ++ t :: r → J l Pv w1 → CallsVal P y #[t] w1 fun v w2 => Kp (fun i => ¬ Pv i ∧ ¬ Q i) w1 w2 ∧ ∃ b, v = .bool b ∧ cond b (J (l ++ [t]) Pv w2) (E Pv w2)) →
    CallsVal P fv #[y] w0 fun v w2 => v = .tuple #[] ∧ ∃ Pv, Inv Pv w2 ∧ (J all Pv w2 ∨ E Pv w2)
theorem rangeVal_of {P : Program} {k : FuncId} {first cap : Array Value} {y : Value} {w : World} {R : Value → World → Prop} (h : CallsVal P (.func (.func k) first cap) #[y] w R) : RangeVal P (.func (.func k) first cap) y w fun w' => ∃ v, R v w' :=
  ⟨h.1, h.2.mono fun v w' h => ⟨v, h⟩⟩
theorem RangeVal.mono {P : Program} {fv y : Value} {w : World} {R R' : World → Prop} (h : RangeVal P fv y w R) (hr : ∀ w', R w' → R' w') : RangeVal P fv y w R' := by
  unfold RangeVal at h ⊢
  split at h
  · exact ⟨h.1, h.2.mono fun v w' h => hr w' h⟩
  · exact h.elim
theorem IterSpec.range {P : Program} {fv : Value} {all : List Value} {Q P0 : Nat → Prop} {Inv : (Nat → Prop) → World → Prop} {w : World} (h : IterSpec P fv all Q P0 Inv w) (w0 : World) (hk : Kp (fun i => ¬ Q i ∧ ¬ P0 i) w w0) (y : Value) (J : List Value → (Nat → Prop) → World → Prop) (E : (Nat → Prop) → World → Prop)
    (h0 : J [] P0 w0) (h1 : ∀ l Pv w1 w2, J l Pv w1 → Kp Pv w1 w2 → J l (fun i => Pv i ∨ (w1.heap.size ≤ i ∧ i < w2.heap.size)) w2)
    (h2 : ∀ l t r Pv w1, all = l ++ t :: r → J l Pv w1 → CallsVal P y #[t] w1 fun v w2 => Kp (fun i => ¬ Pv i ∧ ¬ Q i) w1 w2 ∧ ∃ b, v = .bool b ∧ cond b (J (l ++ [t]) Pv w2) (E Pv w2)) :
    RangeVal P fv y w0 fun w2 => ∃ Pv, Inv Pv w2 ∧ (J all Pv w2 ∨ E Pv w2) := by
  obtain ⟨⟨k, first, cap, rfl⟩, hi⟩ := h
  exact (rangeVal_of (hi w0 hk y J E h0 h1 h2)).mono fun w' ⟨_, _, h⟩ => h
/-- The world moved on, and Q's blocks are as they were. -/
theorem IterSpec.later {P : Program} {fv : Value} {all : List Value} {Q P0 : Nat → Prop} {Inv : (Nat → Prop) → World → Prop} {w w' : World} (h : IterSpec P fv all Q P0 Inv w) (hk : Kp (fun i => ¬ Q i ∧ ¬ P0 i) w w') : IterSpec P fv all Q P0 Inv w' :=
  ⟨h.1, fun w0 hk0 => h.2 w0 (hk.trans hk0)⟩
end Go.SX

set_option linter.unusedSimpArgs false
set_option linter.unusedVariables false
namespace Go.SX
open Go

/-! ### More on rows of one's own -/
theorem OwnRow.parts {w : World} {own : Nat → Prop} {e : TypeId} {size n m c : Nat} {q : Option Addr} {xs : List Value} (h : OwnRow w own e size (.slice q m c) n xs) (hn : 0 < n) :
    ∃ g cur, q = some ⟨g, 0, none⟩ ∧ m = n ∧ own g ∧ w.heap[g]? = some (Obj.cells cur e (0, 0)) ∧ n ≤ c ∧ c ≤ maxLen ∧ cur.size = c * size ∧ cur.toList.take (n * size) = xs := by
  rcases h.2 with ⟨_, h2⟩ | ⟨g, cap, cur, h1, h2, h3, h4, h5, h6, h7⟩
  · omega
  · cases h1
    exact ⟨g, cur, rfl, rfl, h2, h3, h4, h5, h6, h7⟩
theorem OwnRow.lens {w : World} {own : Nat → Prop} {e : TypeId} {size n m c : Nat} {q : Option Addr} {xs : List Value} (h : OwnRow w own e size (.slice q m c) n xs) : m = n ∧ n ≤ c := by
  rcases h.2 with ⟨h1, h2⟩ | ⟨g, cap, cur, h1, h2, h3, h4, h5, h6, h7⟩
  · cases h1; omega
  · cases h1; exact ⟨rfl, h4⟩
/-- Zeros of an element type. -/
def zerosL (z : Value) (k : Nat) : List Value := (Builtin.zeroCells z.cells k).toList
theorem lit_run {P : Program} (w : World) {t e : TypeId} (ht : P.underlying t = some (.slice e)) (he : ∃ i, P.info? e = some i) :
    (Instr.buildSlice t 0 #[]).run P w = .ok (.slice (some ⟨w.heap.size, 0, none⟩) 0 0) (w.alloc (.cells #[] e)) := by
  obtain ⟨i, hi⟩ := he
  simp [Instr.buildSlice, run_underlying ht, sizeOf, typeInfo, hi, newRow, Instr.fill]
  have e0 : (Array.range 0).map (fun _ => (default : Value)) = #[] := by apply Array.ext <;> simp
  rw [e0]
end Go.SX

set_option linter.unusedSimpArgs false
set_option linter.unusedVariables false
namespace Go.SX
open Go Go.Lib

/-! ### Slices of integers appended to rows of one's own -/
/-- Nothing appended. -/
theorem append_zero {P : Program} {w : World} {t ty e : TypeId} (ht : P.underlying t = some (.slice e)) (he : ∃ i, P.info? e = some i) {own : Nat → Prop} {size : Nat} {v : Value} {n : Nat} {xs : List Value} (hown : OwnRow w own e size v n xs) (q' : Option Addr) (c' : Nat) :
    (Builtin.append_ #[t, t] ty #[v, .slice q' 0 c']).run P w = .ok v w := by
  obtain ⟨i, hi⟩ := he
  rcases hown.2 with ⟨rfl, rfl⟩ | ⟨g, cap, cur, rfl, _, _, hnc, _⟩
  · cases q' <;> simp [Builtin.append_, run_underlying ht, sizeOf, typeInfo, hi, Builtin.lenOf, Builtin.firstCells, loadCells, loadCellsFrom]
  · cases q' <;> simp [Builtin.append_, run_underlying ht, sizeOf, typeInfo, hi, Builtin.lenOf, Builtin.firstCells, loadCells, loadCellsFrom, hnc, storeCells]
/-- '[]T{}' -/
theorem lit_own {P : Program} {w : World} {t e : TypeId} {size : Nat} {K : Value → World → Prop} (ht : P.underlying t = some (.slice e)) (he : ∃ i, P.info? e = some i)
    (hK : ∀ w', OwnRow w' (fresh w) e size (.slice (some ⟨w.heap.size, 0, none⟩) 0 0) 0 [] → Kp none_ w w' → K (.slice (some ⟨w.heap.size, 0, none⟩) 0 0) w') : Runs P (Instr.buildSlice t 0 #[]) w K :=
  ⟨_, _, lit_run w ht he, hK _ ⟨by simp, .inr ⟨w.heap.size, 0, _, rfl, Nat.le_refl _, by rw [alloc_get]; exact if_pos rfl, Nat.le_refl _, by simp only [maxLen]; omega, by simp, by simp⟩⟩ ((Kp.refl none_ w).alloc _ _)⟩
end Go.SX

set_option linter.unusedSimpArgs false
set_option linter.unusedVariables false
namespace Go.SX
open Go Go.Lib

/-! ### What lies below a place and what is new -/
theorem cell_far {w w' : World} {E : Nat} {a : Addr} {v : Value} (h : w.cell? a = some v) (hk : Kp (fun i => E ≤ i) w w') (hE : w.heap.size ≤ E) : w'.cell? a = some v := hk.cell h fun hh => by have := cell_lt h; omega
theorem BytesAt.far {w w' : World} {E : Nat} {q : Option Addr} {s : ByteArray} (h : BytesAt w q s) (hk : Kp (fun i => E ≤ i) w w') (hE : w.heap.size ≤ E) : BytesAt w' q s := fun i hi => by
  obtain ⟨a, e, hc⟩ := h i hi
  exact ⟨a, e, cell_far hc hk hE⟩
theorem BytesAt.kp0 {w w' : World} {q : Option Addr} {s : ByteArray} (h : BytesAt w q s) (hk : Kp none_ w w') : BytesAt w' q s := fun i hi => by
  obtain ⟨a, e, hc⟩ := h i hi
  exact ⟨a, e, hk.cell0 hc⟩
theorem BytesAt.kp {S : Nat → Prop} {w w' : World} {q : Option Addr} {s : ByteArray} (h : BytesAt w q s) (hk : Kp S w w') (hs : 0 < s.size → ∀ a, q = some a → ¬ S a.block) : BytesAt w' q s := fun i hi => by
  obtain ⟨a, e, hc⟩ := h i hi
  exact ⟨a, e, hk.cell hc (by rw [add_block]; exact hs (by omega) a e)⟩
theorem BytesAt.lt {w : World} {q : Option Addr} {s : ByteArray} (h : BytesAt w q s) (h0 : 0 < s.size) : ∀ a, q = some a → a.block < w.heap.size := fun a ha => by
  obtain ⟨a', e, hc⟩ := h 0 h0
  rw [ha] at e
  cases e
  have := cell_lt hc
  rwa [add_block] at this
/-- What was changed is new. -/
theorem Kp.narrow {w w' : World} {E : Nat} (h : Kp (fun i => E ≤ i) w w') (hE : w.heap.size ≤ E) : Kp none_ w w' := ⟨h.os, h.tape, h.out, h.frz, h.size, fun i hi _ => h.same i hi (by omega)⟩
theorem Kp.wide {w w' : World} {S : Nat → Prop} (h : Kp none_ w w') : Kp S w w' := h.mono fun _ _ h => h.elim
theorem Kp.up {w w' : World} {E F : Nat} (h : Kp (fun i => F ≤ i) w w') (hE : E ≤ F) : Kp (fun i => E ≤ i) w w' := h.mono fun _ _ h => Nat.le_trans hE h

/-! ### Byte arrays -/
theorem strCells_app (a b : ByteArray) : strCells (a ++ b) = strCells a ++ strCells b := by
  unfold strCells
  rw [ByteArray.data_append, Array.toList_append, List.map_append]
theorem strCells_get {s : ByteArray} {i : Nat} (h : i < s.size) : (strCells s)[i]? = some (.int .u8 (s[i].toNat)) := by
  unfold strCells
  have : i < s.data.toList.length := by simpa using h
  rw [List.getElem?_map, List.getElem?_eq_getElem this]
  rfl
/-- The byte array of bytes. -/
def ba (l : List UInt8) : ByteArray := ⟨l.toArray⟩
theorem ba_size (l : List UInt8) : (ba l).size = l.length := by simp [ba, ByteArray.size]
theorem ba_list (l : List UInt8) : (ba l).data.toList = l := by simp [ba]
theorem ba_of (s : ByteArray) : ba s.data.toList = s := by cases s; simp [ba]
theorem ba_app (a b : List UInt8) : ba a ++ ba b = ba (a ++ b) := by
  apply ByteArray.ext
  rw [ByteArray.data_append]
  simp [ba]
theorem ba_get {l : List UInt8} {i : Nat} (h : i < (ba l).size) : (ba l)[i] = l[i]'(by rwa [ba_size] at h) := by
  show (ba l).data[i]'h = _
  simp [ba]

/-! ### Rows of bytes of one's own, a conversion's row among them -/
def NoFrz (fr : Nat × Nat) (n : Nat) : Prop := fr = (0, 0) ∨ n ≤ fr.1
def Buf (w : World) (E : Nat) (e : TypeId) (v : Value) (l : List UInt8) : Prop :=
  (v = .slice none 0 0 ∧ l = []) ∨ ∃ g cap cur fr, v = .slice (some ⟨g, 0, none⟩) l.length cap ∧ E ≤ g ∧ w.heap[g]? = some (Obj.cells cur e fr) ∧ NoFrz fr cur.size ∧ l.length ≤ cap ∧ cap ≤ maxLen ∧ cur.size = cap ∧ cur.toList.take l.length = strCells (ba l)
theorem Buf.nil (w : World) (E : Nat) (e : TypeId) : Buf w E e (.slice none 0 0) [] := .inl ⟨rfl, rfl⟩
theorem Buf.of {w : World} {own : Nat → Prop} {E : Nat} {e : TypeId} {v : Value} {n : Nat} {l : List UInt8} (h : OwnRow w own e 1 v n (strCells (ba l))) (ho : ∀ i, own i → E ≤ i) : Buf w E e v l := by
  have hn : l.length = n := by have := h.1; rw [strCells_length, ba_size] at this; omega
  subst hn
  rcases h.2 with ⟨h1, h2⟩ | ⟨g, cap, cur, h1, h2, h3, h4, h5, h6, h7⟩
  · exact .inl ⟨h1, List.eq_nil_of_length_eq_zero h2⟩
  · exact .inr ⟨g, cap, cur, (0, 0), h1, ho g h2, h3, .inl rfl, h4, h5, by simpa using h6, by simpa using h7⟩
theorem Buf.slice {w : World} {E : Nat} {e : TypeId} {v : Value} {l : List UInt8} (h : Buf w E e v l) : ∃ q c, v = .slice q l.length c ∧ l.length ≤ c ∧ c ≤ maxLen := by
  rcases h with ⟨h1, rfl⟩ | ⟨g, cap, cur, fr, h1, _, _, _, h4, h5, _⟩
  · exact ⟨_, _, h1, by simp, by simp [maxLen]⟩
  · exact ⟨_, _, h1, h4, h5⟩
theorem Buf.cell {w : World} {E : Nat} {e : TypeId} {q : Option Addr} {n c : Nat} {l : List UInt8} (h : Buf w E e (.slice q n c) l) {j : Nat} {u : Value} (hj : (strCells (ba l))[j]? = some u) : ∃ g, q = some ⟨g, 0, none⟩ ∧ w.cell? ⟨g, j, none⟩ = some u := by
  rcases h with ⟨h1, rfl⟩ | ⟨g, cap, cur, fr, h1, h2, h3, h4, h5, h6, h7, h8⟩
  · simp [strCells, ba] at hj
  · cases h1
    refine ⟨g, rfl, ?_⟩
    rw [← h8, List.getElem?_take] at hj
    simp only [World.cell?, h3]
    split at hj
    · simpa using hj
    · cases hj
theorem Buf.bytes {w : World} {E : Nat} {e : TypeId} {q : Option Addr} {n c : Nat} {l : List UInt8} (h : Buf w E e (.slice q n c) l) : BytesAt w q (ba l) := fun i hi => by
  obtain ⟨g, e, hc⟩ := h.cell (strCells_get hi)
  exact ⟨_, e, by rw [ad_add, Nat.zero_add]; exact hc⟩
theorem Buf.lens {w : World} {E : Nat} {e : TypeId} {q : Option Addr} {n c : Nat} {l : List UInt8} (h : Buf w E e (.slice q n c) l) : n = l.length ∧ l.length ≤ c ∧ c ≤ maxLen := by
  obtain ⟨_, _, h1, h2⟩ := h.slice
  cases h1
  exact ⟨rfl, h2⟩
theorem Buf.kp {S : Nat → Prop} {w w' : World} {E : Nat} {e : TypeId} {v : Value} {l : List UInt8} (h : Buf w E e v l) (hk : Kp S w w') (hs : ∀ i, S i → i < E) : Buf w' E e v l := by
  rcases h with h | ⟨g, cap, cur, fr, h1, h2, h3, h4⟩
  · exact .inl h
  · exact .inr ⟨g, cap, cur, fr, h1, h2, (hk.same g (Array.getElem?_eq_some_iff.1 h3).1 fun hh => by have := hs g hh; omega).trans h3, h4⟩
theorem Buf.kp0 {w w' : World} {E : Nat} {e : TypeId} {v : Value} {l : List UInt8} (h : Buf w E e v l) (hk : Kp none_ w w') : Buf w' E e v l := h.kp hk fun _ h => h.elim
theorem Buf.up {w : World} {E F : Nat} {e : TypeId} {v : Value} {l : List UInt8} (h : Buf w F e v l) (hE : E ≤ F) : Buf w E e v l := by
  rcases h with h | ⟨g, cap, cur, fr, h1, h2, h3⟩
  · exact .inl h
  · exact .inr ⟨g, cap, cur, fr, h1, by omega, h3⟩
theorem noFrz_cell {w : World} {g : Nat} {cur : Array Value} {t : TypeId} {fr : Nat × Nat} (hg : w.heap[g]? = some (Obj.cells cur t fr)) (h : NoFrz fr cur.size) {i : Nat} (hi : i < cur.size) : w.frozen? ⟨g, i, none⟩ = false := by
  simp only [World.frozen?, hg]
  rcases h with rfl | h
  · simp
  · have : ¬ fr.1 ≤ i := by omega
    simp [this]
theorem run_storeCells_fr {P : Program} (g o : Nat) (t : TypeId) (fr : Nat × Nat) : ∀ (vs : List Value) (i : Nat) (cur : Array Value) (w : World), w.heap[g]? = some (.cells cur t fr) → NoFrz fr cur.size → o + i + vs.length ≤ cur.size → (∀ v ∈ vs, v.oneCell' = true) →
    (storeCells ⟨g, o, none⟩ vs i).run P w = .ok () (w.setRow g (cur.toList.take (o + i) ++ vs ++ cur.toList.drop (o + i + vs.length)).toArray)
  | [], i, cur, w, hg, _, _, _ => by
    simp only [storeCells, List.append_nil, List.length_nil, Nat.add_zero, List.take_append_drop, Array.toArray_toList]
    rw [setRow_self w g cur t fr hg]
    rfl
  | v :: rest, i, cur, w, hg, hn, hl, h1 => by
    have hi : o + i < cur.size := by simp at hl; omega
    have hadd : (⟨g, o, none⟩ : Addr).add i = ⟨g, o + i, none⟩ := by unfold Addr.add; split <;> simp_all
    have hcell : w.cell? ⟨g, o + i, none⟩ = some cur[o + i] := by simp [World.cell?, hg, hi]
    have hfro : w.frozen? ⟨g, o + i, none⟩ = false := noFrz_cell hg hn hi
    have hst : (store ((⟨g, o, none⟩ : Addr).add i) v).run P w = .ok () (w.setRow g (cur.setIfInBounds (o + i) v)) := by
      rw [hadd, run_store P w _ v _ (h1 v (by simp)), hcell]
      simp [hfro, setCell_eq_setRow w g (o + i) cur t fr v hg]
    have ih := run_storeCells_fr (P := P) g o t fr rest (i + 1) (cur.setIfInBounds (o + i) v) (w.setRow g (cur.setIfInBounds (o + i) v)) (setRow_heap w g cur _ t _ hg) (by simpa using hn) (by simp at hl ⊢; omega) (fun x hx => h1 x (by simp [hx]))
    simp only [storeCells, Sem.run_bind, hst, Result.andThen_ok, ih, setRow_setRow]
    congr 3
    have e := list_seg_step cur.toList (o + i) v rest (by simp at hl ⊢; omega)
    simpa [Array.toList_setIfInBounds, Nat.add_assoc] using e
theorem setRow_kpf {w : World} {g : Nat} {cur cur' : Array Value} {e : TypeId} {fr : Nat × Nat} (hg : w.heap[g]? = some (Obj.cells cur e fr)) {S : Nat → Prop} (hs : S g) : Kp S w (w.setRow g cur') := by
  have hh : (w.setRow g cur').heap[g]? = some (Obj.cells cur' e fr) := setRow_heap w g cur cur' e _ hg
  refine ⟨rfl, rfl, rfl, fun a _ => ?_, by simp, fun i hi hn => setRow_other w g i _ (fun e => hn (e ▸ hs))⟩
  by_cases ha : a.block = g
  · unfold World.frozen?
    rw [ha, hh, hg]
  · unfold World.frozen?
    rw [setRow_other w g a.block _ ha]
/-- An element type of bytes. -/
def byteT (P : Program) (e : TypeId) : Prop := ∃ i, P.info? e = some i ∧ i.zero = some (.int .u8 0) ∧ i.size = 1 ∧ i.bytes = 1
theorem byteT_elem {P : Program} {e : TypeId} (h : byteT P e) : elemOk P e 1 = true := by
  obtain ⟨i, hi, hz, hs, hb⟩ := h
  unfold elemOk
  rw [hi]
  simp [hz, hs, hb, Value.cells]
section
variable {P : Program} {w : World} {E : Nat} {t ty e : TypeId} {v : Value} {l : List UInt8} {K : Value → World → Prop}
/-- The end of each append. -/
theorem buf_put {g cap : Nat} {cur : Array Value} {fr : Nat × Nat} {new : List UInt8} (hE : E ≤ g) (hg : w.heap[g]? = some (Obj.cells cur e fr)) (hn : NoFrz fr cur.size) (hcm : cap ≤ maxLen) (hcs : cur.size = cap) (ht : cur.toList.take l.length = strCells (ba l)) (hroom : l.length + new.length ≤ cap) :
    Buf (w.setRow g (cur.toList.take l.length ++ strCells (ba new) ++ cur.toList.drop (l.length + new.length)).toArray) E e (.slice (some ⟨g, 0, none⟩) (l.length + new.length) cap) (l ++ new) := by
  have hl : (l ++ new).length = l.length + new.length := List.length_append
  refine .inr ⟨g, cap, _, fr, by rw [hl], hE, setRow_heap w g cur _ e _ hg, ?_, by omega, hcm, ?_, ?_⟩
  · rcases hn with h | h
    · exact .inl h
    · refine .inr ?_
      simp only [List.size_toArray, List.length_append, List.length_take, List.length_drop, Array.length_toList, strCells_length, ba_size]
      omega
  · simp only [List.size_toArray, List.length_append, List.length_take, List.length_drop, Array.length_toList, strCells_length, ba_size]
    omega
  · rw [ht, ← ba_app, strCells_app]
    have : (l ++ new).length = (strCells (ba l) ++ strCells (ba new)).length := by simp [strCells_length, ba_size]
    rw [this]
    exact List.take_left
theorem buf_grown {old : Nat} {new : List UInt8} (hE : E ≤ w.heap.size) (hm : l.length + new.length ≤ maxLen) :
    Buf (w.drew.alloc (.cells ((strCells (ba l)).toArray ++ (strCells (ba new)).toArray ++ Builtin.zeroCells (Value.int .u8 0).cells (grownCap w (l.length + new.length) old e - (l.length + new.length))) e)) E e (.slice (some ⟨w.heap.size, 0, none⟩) (l.length + new.length) (grownCap w (l.length + new.length) old e)) (l ++ new) ∧
    Kp (fun i => E ≤ i) w (w.drew.alloc (.cells ((strCells (ba l)).toArray ++ (strCells (ba new)).toArray ++ Builtin.zeroCells (Value.int .u8 0).cells (grownCap w (l.length + new.length) old e - (l.length + new.length))) e)) := by
  have hge := grownCap_ge w (l.length + new.length) old e
  have hl : (l ++ new).length = l.length + new.length := List.length_append
  refine ⟨.inr ⟨w.heap.size, _, _, (0, 0), by rw [hl], hE, by rw [alloc_get]; exact if_pos rfl, .inl rfl, by omega, grownCap_le_maxLen w _ old e hm, ?_, ?_⟩, (Kp.refl _ w).drew.alloc _ _⟩
  · have hz1 : (Value.int IntKind.u8 0).cells.size = 1 := rfl
    simp only [Array.size_append, List.size_toArray, size_zeroCells, hz1, strCells_length, ba_size]
    omega
  · simp only [Array.toList_append, List.append_assoc]
    rw [← List.append_assoc, ← strCells_app, ba_app]
    have : (l ++ new).length = (strCells (ba (l ++ new))).length := by simp [strCells_length, ba_size]
    rw [this]
    exact List.take_left
/-- 'append(b, s...)', s a slice of bytes. -/
theorem buf_app (ht : P.underlying t = some (.slice e)) (he : byteT P e) (h : Buf w E e v l) (hE : E ≤ w.heap.size) {q : Option Addr} {m c : Nat} {new : List UInt8} (hm : m = new.length) (hb : BytesAt w q (ba new)) (hmax : l.length + new.length ≤ 137438953472)
    (hK : ∀ v' w', Buf w' E e v' (l ++ new) → Kp (fun i => E ≤ i) w w' → K v' w') : Runs P (Builtin.append_ #[t, t] ty #[v, .slice q m c]) w K := by
  obtain ⟨i, hi, hz, hsz, hby⟩ := he
  subst hm
  by_cases h0 : new.length = 0
  · have : new = [] := List.eq_nil_of_length_eq_zero h0
    subst this
    refine ⟨v, w, ?_, hK _ _ (by rw [List.append_nil]; exact h) (Kp.refl _ _)⟩
    rcases h with ⟨rfl, _⟩ | ⟨g, cap, cur, fr, rfl, _, _, _, hnc, _⟩
    · cases q <;> simp [Builtin.append_, run_underlying ht, sizeOf, typeInfo, hi, Builtin.lenOf, Builtin.firstCells, loadCells, loadCellsFrom]
    · cases q <;> simp [Builtin.append_, run_underlying ht, sizeOf, typeInfo, hi, Builtin.lenOf, Builtin.firstCells, loadCells, loadCellsFrom, hnc, storeCells]
  obtain ⟨a, rfl, _⟩ := hb 0 (by rw [ba_size]; omega)
  have hnews : ∀ j u, (strCells (ba new))[j]? = some u → w.cell? (a.add j) = some u := fun j u hj => by
    have hj' : j < (ba new).size := by have := (List.getElem?_eq_some_iff.1 hj).1; rwa [strCells_length] at this
    rw [strCells_get hj'] at hj
    cases hj
    obtain ⟨a', e', hc⟩ := hb j hj'
    cases e'
    exact hc
  have hl : (strCells (ba new)).length = new.length * i.size := by rw [strCells_length, ba_size, hsz, Nat.mul_one]
  have h63 : l.length + new.length ≤ maxLen := by simp only [maxLen]; omega
  rcases h with ⟨rfl, rfl⟩ | ⟨g, cap, cur, fr, rfl, hEg, hg, hnf, hnc, hcm, hcs, htake⟩
  · have hr := run_append_nil (P := P) w t ty e i (.int .u8 0) ht hi hz a new.length c (strCells (ba new)) hl hnews (by omega) (by omega) (by rw [hby]; omega)
    obtain ⟨g1, g2⟩ := buf_grown (w := w) (e := e) (l := []) (old := 0) (new := new) hE (by simpa using h63)
    simp only [List.length_nil, Nat.zero_add, List.nil_append] at g1 g2
    have e0 : (strCells (ba [])).toArray ++ (strCells (ba new)).toArray = (strCells (ba new)).toArray := by simp [strCells, ba]
    rw [e0] at g1 g2
    exact ⟨_, _, hr, hK _ _ g1 g2⟩
  · by_cases hroom : l.length + new.length ≤ cap
    · have hf := run_firstCells_some (P := P) w i.size new.length a new.length c (strCells (ba new)) hl hnews
      have hst := run_storeCells_fr (P := P) g l.length e fr (strCells (ba new)) 0 cur w hg hnf (by rw [strCells_length, ba_size]; omega) (strCells_oneCell _)
      simp only [Nat.add_zero, strCells_length, ba_size] at hst
      rw [hsz] at hf
      refine ⟨_, _, ?_, hK _ _ (buf_put (new := new) hEg hg hnf hcm hcs htake hroom) (setRow_kpf hg hEg)⟩
      simp [Builtin.append_, run_underlying ht, sizeOf, typeInfo, hi, hsz, Builtin.lenOf, hroom, hf, Addr.add_lit, hst]
    · have holds : ∀ j u, (strCells (ba l))[j]? = some u → w.cell? ((⟨g, 0, none⟩ : Addr).add j) = some u := fun j u hj => by
        rw [ad_add, Nat.zero_add]
        rw [← htake, List.getElem?_take] at hj
        simp only [World.cell?, hg]
        split at hj
        · simpa using hj
        · cases hj
      have hr := run_append_grow (P := P) w t ty e i (.int .u8 0) ht hi hz ⟨g, 0, none⟩ l.length cap (strCells (ba l)) (by rw [strCells_length, ba_size, hsz, Nat.mul_one]) holds a new.length c (strCells (ba new)) hl hnews (by omega) (by omega) (by rw [hby]; exact growslice_fits (by omega) (by omega))
      obtain ⟨g1, g2⟩ := buf_grown (w := w) (e := e) (l := l) (old := cap) (new := new) hE h63
      exact ⟨_, _, hr, hK _ _ g1 g2⟩
/-- '[]byte(s)' -/
theorem buf_conv {src : TypeId} {d : TypeDesc} (hs : P.underlying src = some d) (hd : P.underlying t = some (.slice e)) (he : P.underlying e = some (.int .u8)) (s : ByteArray) (hE : E ≤ w.heap.size) (hm : s.size ≤ maxLen)
    (hK : ∀ v' w', Buf w' E e v' s.data.toList → Kp none_ w w' → K v' w') : Runs P (convert src t (.string s)) w K := by
  have hr := Go.Lib.run_convert_string_bytes (P := P) w src t e s hs hd he
  refine ⟨_, _, hr, hK _ _ ?_ ?_⟩
  · have hge := grownCap_ge w s.size 0 e
    have hcs : (bytesCells w e s).size = grownCap w s.size 0 e := by
      unfold bytesCells
      simp only [Array.size_append, Array.size_map, Array.size_replicate]
      have : s.data.size = s.size := rfl
      omega
    refine .inr ⟨w.heap.size, grownCap w s.size 0 e, bytesCells w e s, _, by simp, hE, bytesWorld_at_new w e s, .inr (Nat.le_refl _), by simpa using hge, grownCap_le_maxLen w _ _ _ hm, hcs, ?_⟩
    unfold bytesCells
    rw [Array.toList_append, Array.toList_map, ba_of]
    have : s.data.toList.length = (List.map (fun b => Value.int IntKind.u8 b.toNat) s.data.toList).length := by simp
    rw [this, List.take_left]
    rfl
  · refine ⟨rfl, rfl, rfl, fun a ha => ?_, by rw [bytesWorld_size]; omega, fun i hi _ => bytesWorld_at_old w e s i hi⟩
    unfold World.frozen?
    rw [bytesWorld_at_old w e s a.block ha]
end
end Go.SX

set_option linter.unusedSimpArgs false
set_option linter.unusedVariables false
namespace Go.SX
open Go Go.Lib
/-! ### Great values: arrays of many cells -/
theorem cellsAt_of {w : World} {a : Addr} : ∀ {vs : List Value} {i : Nat}, (∀ j u, vs[j]? = some u → w.cell? (a.add (i + j)) = some u) → CellsAt w a i vs
  | [], _, _ => trivial
  | v :: r, i, h => ⟨by have := h 0 v rfl; simpa using this, cellsAt_of fun j u hj => by
      have := h (j + 1) u (by simpa using hj)
      rwa [show i + (j + 1) = i + 1 + j by omega] at this⟩
/-- A block that is one great value, of one's own. -/
def Big (w : World) (g : Nat) (e : TypeId) (cs : List Value) : Prop := w.heap[g]? = some (Obj.cells cs.toArray e (0, 0))
theorem Big.lt {w : World} {g : Nat} {e : TypeId} {cs : List Value} (h : Big w g e cs) : g < w.heap.size := (Array.getElem?_eq_some_iff.1 h).1
theorem Big.cell {w : World} {g : Nat} {e : TypeId} {cs : List Value} (h : Big w g e cs) (i : Nat) : w.cell? ⟨g, i, none⟩ = cs[i]? := by
  unfold World.cell?
  rw [h]
  simp
theorem Big.frz {w : World} {g : Nat} {e : TypeId} {cs : List Value} (h : Big w g e cs) (i : Nat) : w.frozen? ⟨g, i, none⟩ = false := by
  unfold World.frozen?
  rw [h]
  simp
theorem Big.cellsOf {w : World} {g : Nat} {e : TypeId} {cs : List Value} (h : Big w g e cs) : CellsOf w ⟨g, 0, none⟩ cs.length cs := ⟨rfl, cellsAt_of fun j u hj => by
  rw [Nat.zero_add, ad_add, Nat.zero_add, h.cell]; exact hj⟩
theorem Big.kp {S : Nat → Prop} {w w' : World} {g : Nat} {e : TypeId} {cs : List Value} (h : Big w g e cs) (hk : Kp S w w') (hs : ¬ S g) : Big w' g e cs := (hk.same g h.lt hs).trans h
theorem Big.new (w : World) (cs : Array Value) (e : TypeId) : Big (w.alloc (.cells cs e)) w.heap.size e cs.toList := by
  unfold Big
  rw [alloc_get, if_pos rfl]
theorem Big.set {w : World} {g : Nat} {e : TypeId} {cs : List Value} (h : Big w g e cs) (i : Nat) (v : Value) : Big (w.setCell ⟨g, i, none⟩ v) g e (cs.set i v) := by
  unfold Big
  rw [heap_setCell_same w g i cs.toArray e v h]
  simp
theorem Big.setKp {w : World} {g : Nat} (i : Nat) (v : Value) {S : Nat → Prop} (hs : S g) : Kp S w (w.setCell ⟨g, i, none⟩ v) := Kp.setCell (Kp.refl S w) v (.inl hs)
theorem lit_buf {P : Program} {w : World} {t e : TypeId} {K : Value → World → Prop} (ht : P.underlying t = some (.slice e)) (he : byteT P e)
    (hK : ∀ v' w', Buf w' w.heap.size e v' [] → Kp none_ w w' → K v' w') : Runs P (Instr.buildSlice t 0 #[]) w K := by
  obtain ⟨i, hi, _⟩ := he
  refine lit_own (size := 1) ht ⟨i, hi⟩ fun w' r k => hK _ w' (Buf.of (own := fresh w) (n := 0) ?_ (fun i h => h)) k
  have : strCells (ba []) = [] := by simp [strCells, ba]
  rw [this]
  exact r
end Go.SX

set_option linter.unusedSimpArgs false
set_option linter.unusedVariables false
namespace Go.SX
open Go Go.Lib
/-! ### Going through a string's code points -/
theorem range_str {P : Program} {w : World} {t : TypeId} {s : ByteArray} {K : Value → World → Prop} (ht : P.underlying t = some .string) (hK : K (.pointer (some ⟨w.heap.size, 0, none⟩)) (w.alloc (.stringIter s 0))) : Runs P (Instr.range t (.string s)) w K := by
  refine ⟨_, _, ?_, hK⟩
  simp [Instr.range, run_underlying ht]
theorem next_str {P : Program} {w : World} {r : Nat} {s : ByteArray} {pos : Nat} {ty : TypeId} {K : Value → World → Prop} (hr : w.heap[r]? = some (.stringIter s pos))
    (h1 : pos < s.size → K (.tuple #[.bool true, .int .i64 pos, .int .i32 (Utf8.decode s pos).1]) (w.putObj r (.stringIter s (pos + (Utf8.decode s pos).2)))) (h2 : ¬ pos < s.size → K (.tuple #[.bool false]) w) : Runs P (Instr.next (.pointer (some ⟨r, 0, none⟩)) true ty) w K := by
  by_cases h : pos < s.size
  · exact ⟨_, _, run_next_any_at w r s pos ty hr h, h1 h⟩
  · exact ⟨_, _, run_next_end_at w r s pos ty hr h, h2 h⟩
theorem ba_get! {s : ByteArray} {i : Nat} (h : i < s.size) : s.get! i = s[i] := by
  cases s with
  | mk bs =>
    show bs[i]! = bs[i]'h
    exact getElem!_pos bs i h
theorem dec_low {s : ByteArray} {i : Nat} (h : i < s.size) (hl : (s[i]).toNat < 128) : Utf8.decode s i = ((s[i]).toNat, 1) := by
  unfold Utf8.decode
  simp only [Nat.add_zero, ba_get! h]
  rw [if_pos hl]
theorem dec_high {s : ByteArray} {i : Nat} (h : i < s.size) (hl : ¬ (s[i]).toNat < 128) : 128 ≤ (Utf8.decode s i).1 ∧ 1 ≤ (Utf8.decode s i).2 := by
  unfold Utf8.decode
  simp only [Nat.add_zero, ba_get! h]
  rw [if_neg hl]
  split
  · split
    · rename_i h2; exact ⟨by omega, by omega⟩
    · exact ⟨by decide, by decide⟩
  · split
    · split
      · rename_i h2
        simp only [Bool.and_eq_true, decide_eq_true_eq] at h2
        exact ⟨by omega, by omega⟩
      · exact ⟨by decide, by decide⟩
    · split
      · split
        · rename_i h2
          simp only [Bool.and_eq_true, decide_eq_true_eq] at h2
          exact ⟨by omega, by omega⟩
        · exact ⟨by decide, by decide⟩
      · exact ⟨by decide, by decide⟩
end Go.SX

set_option linter.unusedSimpArgs false
set_option linter.unusedVariables false
namespace Go.SX
open Go Go.Lib
/-! ### Names: texts of parts -/
def partsL (c : UInt8) : List UInt8 → List (List UInt8)
  | [] => [[]]
  | x :: r => if x = c then [] :: partsL c r else match partsL c r with | [] => [[x]] | p :: ps => (x :: p) :: ps
theorem partsL_ne (c : UInt8) : ∀ l, partsL c l ≠ []
  | [] => by simp [partsL]
  | x :: r => by
    unfold partsL
    split
    · simp
    · split <;> simp
theorem partsL_hit {c : UInt8} : ∀ {a b : List UInt8}, c ∉ a → partsL c (a ++ c :: b) = a :: partsL c b
  | [], b, _ => by simp [partsL]
  | x :: a, b, h => by
    have hx : x ≠ c := fun e => h (by simp [e])
    rw [List.cons_append, partsL, if_neg hx, partsL_hit (fun hh => h (by simp [hh]))]
theorem partsL_none {c : UInt8} : ∀ {a : List UInt8}, c ∉ a → partsL c a = [a]
  | [], _ => rfl
  | x :: a, h => by
    have hx : x ≠ c := fun e => h (by simp [e])
    rw [partsL, if_neg hx, partsL_none (fun hh => h (by simp [hh]))]
theorem index_one_eq (c : UInt8) (r : List UInt8) : index (c :: r) [c] = 0 := index_first (i := 0) (Nat.zero_le _) (by simp [occAt]) (fun _ h => absurd h (Nat.not_lt_zero _))
theorem split_cons_ne {x c : UInt8} (h : x ≠ c) (r : List UInt8) : ∀ k, splitK [c] 0 k (x :: r) = match splitK [c] 0 k r with | [] => [[x]] | p :: ps => (x :: p) :: ps
  | 0 => rfl
  | k + 1 => by
    have hno : NoOcc (x :: r) [c] 1 := fun j hj => by
      have : j = 0 := by omega
      subst this
      simp [occAt]
      have : (c == x) = false := by simpa using fun e : c = x => h e.symm
      simp [List.isPrefixOf, this]
    have hi := index_drop (i := 1) hno (by simp)
    rw [show (x :: r).drop 1 = r by rfl] at hi
    unfold splitK
    by_cases hr : index r [c] == -1
    · rw [if_pos hr] at hi
      rw [hi, if_pos (by rfl), if_pos hr]
    · rw [if_neg hr] at hi
      have hb : ∃ n : Nat, index r [c] = n := by
        have := indexB_cases (ByteArray.mk r.toArray) (ByteArray.mk [c].toArray)
        have e : indexB (ByteArray.mk r.toArray) (ByteArray.mk [c].toArray) = index r [c] := by simp [indexB]
        rw [e] at this
        rcases this with h1 | ⟨n, h1, _⟩
        · rw [h1] at hr; exact absurd rfl hr
        · exact ⟨n, h1⟩
      obtain ⟨n, hn⟩ := hb
      have h1 : ¬ (index (x :: r) [c] == -1) = true := by rw [hi, hn]; simp; omega
      rw [if_neg h1, if_neg hr, hi, hn]
      have e1 : ((n : Int) + ((1 : Nat) : Int)).toNat = n + 1 := by omega
      have e2 : ((n : Int)).toNat = n := by omega
      rw [e1, e2]
      simp
theorem split_parts (c : UInt8) : ∀ l, splitK [c] 0 (count l [c]) l = partsL c l
  | [] => by
    have : count [] [c] = 0 := by simp [count_one]
    rw [this]; rfl
  | x :: r => by
    by_cases h : x = c
    · subst h
      rw [count_cons_eq, Nat.add_comm, splitK, index_one_eq, if_neg (by decide), partsL, if_pos rfl]
      simp only [Int.toNat_zero, Nat.zero_add, Nat.add_zero, List.take_zero, List.length_singleton, List.drop_succ_cons, List.drop_zero]
      rw [split_parts x r]
    · rw [count_cons_ne x c r h, split_cons_ne h, split_parts c r, partsL, if_neg h]
/-- The pieces that the library's cut makes. -/
theorem splitB_parts (c : UInt8) (s : ByteArray) : (splitB ⟨#[c]⟩ 0 (countB s ⟨#[c]⟩) s).map (·.data.toList) = partsL c s.data.toList := by
  rw [splitB_data]
  exact split_parts c s.data.toList
def okByte (x : UInt8) : Bool := decide (33 ≤ x.toNat ∧ x.toNat ≤ 126)
def okPart (p : List UInt8) : Bool := p.all okByte && !(p == []) && !(p == [46]) && !(p == [46, 46])
/-- A name. -/
def okName (l : List UInt8) : Bool := decide (l.length ≤ 64) && (partsL 47 l).all okPart
theorem parts_all {c : UInt8} {f : UInt8 → Bool} (hc : f c = true) : ∀ l, ((partsL c l).all fun p => p.all f) = l.all f
  | [] => rfl
  | x :: r => by
    unfold partsL
    split
    · rename_i h
      subst h
      simp only [List.all_cons, List.all_nil, Bool.true_and, hc]
      exact parts_all hc r
    · have ih := parts_all hc r
      cases hp : partsL c r with
      | nil => exact absurd hp (partsL_ne c r)
      | cons p ps =>
        rw [hp] at ih
        simp only [List.all_cons] at ih ⊢
        rw [Bool.and_assoc, ih]
/-- The same, said as the document says it. -/
theorem okName_eq (l : List UInt8) : okName l = (decide (1 ≤ l.length ∧ l.length ≤ 64) && l.all okByte && (partsL 47 l).all fun p => !(p == []) && !(p == [46]) && !(p == [46, 46])) := by
  have h1 : (partsL 47 l).all okPart = ((partsL 47 l).all (fun p => p.all okByte) && (partsL 47 l).all fun p => !(p == []) && !(p == [46]) && !(p == [46, 46])) := by
    generalize partsL 47 l = ps
    induction ps with
    | nil => rfl
    | cons p ps ih =>
      simp only [List.all_cons, ih, okPart]
      cases p.all okByte <;> cases (!(p == [])) <;> cases (!(p == [46])) <;> cases (!(p == [46, 46])) <;> cases (ps.all fun p => p.all okByte) <;> simp
  unfold okName
  rw [h1, parts_all (by decide)]
  cases l with
  | nil => decide
  | cons x r =>
    have : decide (1 ≤ (x :: r).length ∧ (x :: r).length ≤ 64) = decide ((x :: r).length ≤ 64) := by
      rw [decide_eq_decide]
      simp
    rw [this, Bool.and_assoc]
/-- Whether a folder has a name. -/
def inF (f s : List UInt8) : Bool := okName s && (f == [] || (okName f && (f ++ [47]).isPrefixOf s))
theorem prefix_slash (f s : List UInt8) : (f ++ [47]).isPrefixOf s = (decide (f.length < s.length) && (s.take f.length == f) && (s[f.length]? == some 47)) := by
  rw [Bool.eq_iff_iff]
  simp only [List.isPrefixOf_iff_prefix, Bool.and_eq_true, decide_eq_true_eq, beq_iff_eq]
  constructor
  · rintro ⟨t, rfl⟩
    refine ⟨⟨by simp, by simp⟩, by simp⟩
  · rintro ⟨⟨h1, h2⟩, h3⟩
    rw [List.getElem?_eq_getElem h1] at h3
    have h3 : s[f.length] = 47 := Option.some.inj h3
    refine ⟨s.drop (f.length + 1), ?_⟩
    have := List.take_append_drop f.length s
    rw [h2, List.drop_eq_getElem_cons h1, h3] at this
    simpa using this
end Go.SX

set_option linter.unusedSimpArgs false
set_option linter.unusedVariables false
namespace Go.SX
open Go Go.RowKit Go.ChangeShapes Go.WideShapes Go.ChangeAt

theorem trodAll_stays {H : Type} {enc : TypeId × Value → H} {P : Program} (hl : laidOutB P = true) {W W' : World} (hb : Below W.heap.size W W') {sp : Nat → Bool} : ∀ {ts : List TypeId} {vs : List Value} {ds : List (DataW H)} {ps : List MemPlace},
    (ts.all fun t => P.readableRec t && decide (t < P.types.size)) = true → DataW.TrodAll enc P W 0 (fun _ => true) true ts vs ds ps → (∀ x ∈ ps, x.block < W.heap.size) → (∀ x ∈ ps, sp x.block = true) → DataW.TrodAll enc P W' 0 sp true ts vs ds ps
  | [], [], [], _, _, h, _, _ => h
  | [], [], _ :: _, _, _, h, _, _ => h.elim
  | [], _ :: _, _, _, _, h, _, _ => h.elim
  | _ :: _, [], _, _, _, h, _, _ => h.elim
  | _ :: _, _ :: _, [], _, _, h, _, _ => h.elim
  | t :: ts, v :: vs, d :: ds, ps, ht, ⟨p, q, h1, h2, e⟩, hlt, hs => by
    subst e
    simp only [List.all_cons, Bool.and_eq_true, decide_eq_true_eq] at ht
    refine ⟨p, q, WideElems.Trod_stays hl ht.1.1 ht.1.2 h1 (fun x hx => hb.same (hlt x (List.mem_append_left _ hx))) (fun x hx => hs x (List.mem_append_left _ hx)), trodAll_stays hl hb ?_ h2 (fun x hx => hlt x (List.mem_append_right _ hx)) (fun x hx => hs x (List.mem_append_right _ hx)), rfl⟩
    simpa using ht.2
/-- The row's end, for 'true, and each argument as it was'. -/
theorem true_post {H : Type} {enc : TypeId × Value → H} {P : Program} {f : Func} {s : ChangeSpec} {apart fresh handsOn : Bool} {W W' : World} {args : Array Value} {ds gs : List (DataW H)} {before : List MemPlace} {tb : TypeId}
    (hl : laidOutB P = true) (hts : (f.params.toList.all fun t => P.readableRec t && decide (t < P.types.size)) = true) (hv : s.vars = []) (hrt : f.resultTypes = #[tb]) (htb : P.underlying tb = some .bool)
    (hs : (s.fn H (ds ++ gs)).results = [.lit (.bool true)] ∧ (s.fn H (ds ++ gs)).args = ds ∧ (s.fn H (ds ++ gs)).vars = [])
    (hW : DataW.Whole enc P f.params.toList s.vars apart W args.toList ds gs before) (hk : Kp none_ W W') : s.post enc P f apart fresh handsOn false W args (.bool true) W' := by
  have hlt := hW.lt
  have hW' := hW
  obtain ⟨p, q, hA, hV, rfl, _, _⟩ := hW
  refine ⟨ds, gs, _, [], p, [], hW', ?_, ?_, ?_, hk.frame _, fun h => by cases h⟩
  · rw [hs.1, hrt]
    exact trodAll_mk1 (shut_bool htb _)
  · rw [hs.2.1]
    exact trodAll_stays hl hk.below hts hA (fun x hx => hlt x (List.mem_append_left _ hx)) (fun x hx => by simpa using hlt x (List.mem_append_left _ hx))
  · rw [hs.2.2, hv]; rfl
end Go.SX

set_option linter.unusedSimpArgs false
set_option linter.unusedVariables false
namespace Go.SX
open Go Go.RowKit Go.ChangeShapes Go.WideShapes Go.ChangeAt
/-! ### Arguments of any type: what their cells are -/
section
variable {H : Type} {enc : TypeId × Value → H} {P : Program} {W : World}
/-- The cells of a type's value are C of something that is fine. -/
def Dec (enc : TypeId × Value → H) (P : Program) (W : World) (t : TypeId) {β : Type} (C : β → List Value) (ok : β → Prop) : Prop :=
  ∀ (fuel : Nat) (cs : List Value) (x : DataW H × List MemPlace), DataW.trod enc P W 0 (fun _ => true) true fuel t cs = some x → ∃ b, cs = C b ∧ ok b
theorem dec_int {t : TypeId} {k : IntKind} (ht : P.underlying t = some (.int k)) : Dec enc P W t (fun n : Int => [.int k n]) (fun n => (Lit.int k n).wf = true) := fun fuel cs x h => by
  obtain ⟨n, h1, _, h2⟩ := DataW.trod_int ht h
  exact ⟨n, h1, h2⟩
theorem dec_str {t : TypeId} (ht : P.underlying t = some .string) : Dec enc P W t (fun s : List UInt8 => [.string ⟨s.toArray⟩]) (fun s => s.length ≤ maxLen) := fun fuel cs x h => by
  obtain ⟨s, h1, _, h2⟩ := DataW.trod_string ht h
  refine ⟨s.data.toList, ?_, by simpa using h2⟩
  rw [h1]
theorem dec_bool {t : TypeId} (ht : P.underlying t = some .bool) : Dec enc P W t (fun b : Bool => [.bool b]) (fun _ => True) := fun fuel cs x h => by
  obtain ⟨b, h1, _⟩ := DataW.trod_bool ht h
  exact ⟨b, h1, trivial⟩
/-- A row of things in memory: the cells of each. -/
def RowsAt (W : World) (k : Nat) {β : Type} (C : β → List Value) (q : Option Addr) (l : List β) : Prop :=
  ∀ i (h : i < l.length), ∃ a, q = some a ∧ ∀ j u, (C l[i])[j]? = some u → W.cell? ((a.add (i * k)).add j) = some u
theorem dec_rows {t e : TypeId} {k : Nat} {β : Type} {C : β → List Value} {ok : β → Prop} (ht : P.underlying t = some (.slice e)) (hk : P.cellsOf e = k) (hd : Dec enc P W e C ok) {fuel : Nat} {cs : List Value} {x : DataW H × List MemPlace}
    (h : DataW.trod enc P W 0 (fun _ => true) true fuel t cs = some x) : ∃ (q : Option Addr) (c : Nat) (l : List β), cs = [.slice q l.length c] ∧ l.length ≤ c ∧ c ≤ maxLen ∧ RowsAt W k C q l ∧ ∀ b ∈ l, ok b := by
  rcases DataW.trod_slice ht h with ⟨hcs, _⟩ | ⟨a, len, cap, elems, rest, n, _, hcs, _, _, hl, hm, hlen, hel, _⟩
  · exact ⟨none, 0, [], hcs, Nat.le_refl _, by simp [maxLen], fun i hi => by simp at hi, fun b hb => by cases hb⟩
  · have one : ∀ i : Fin len, ∃ b : β, (∀ j u, (C b)[j]? = some u → W.cell? ((a.add (i.1 * k)).add j) = some u) ∧ ok b := by
      intro i
      have he1 := hel i.1 i.2
      rw [List.getElem?_eq_getElem (by have := i.2; omega)] at he1
      obtain ⟨cs', hcells, hst⟩ := Option.bind_eq_some_iff.1 he1
      obtain ⟨_, hcl, hcell⟩ := World.cells?_some hcells
      rw [hk] at hcl hcell
      obtain ⟨b, rfl, hb⟩ := hd _ _ _ hst
      refine ⟨b, fun j u hj => ?_, hb⟩
      have hjl : j < k := by
        have := (List.getElem?_eq_some_iff.1 hj).1
        omega
      rw [hcell j hjl]
      exact hj
    have hll : (List.ofFn fun i => Classical.choose (one i)).length = len := List.length_ofFn
    refine ⟨some a, cap, List.ofFn fun i => Classical.choose (one i), by rw [hll]; exact hcs, by rw [hll]; exact hl, hm, fun i hi => ⟨a, rfl, ?_⟩, fun b hb => ?_⟩
    · rw [List.getElem_ofFn]
      exact (Classical.choose_spec (one ⟨i, by rwa [hll] at hi⟩)).1
    · obtain ⟨i, hi, e⟩ := List.getElem_of_mem hb
      rw [List.getElem_ofFn] at e
      subst e
      exact (Classical.choose_spec (one ⟨i, by rwa [hll] at hi⟩)).2
theorem cut_step (cs : List Value) (o s : Nat) : cs.drop o = (cs.drop o).take s ++ cs.drop (o + s) := by
  rw [← List.drop_drop, List.take_append_drop]
/-- One field of a struct. -/
theorem dec_field {fs : Array Field} {t : TypeId} {cs : List Value} {xs : List (DataW H × List MemPlace)} {n : Nat} {β : Type} {C : β → List Value} {ok : β → Prop}
    (hf : ∀ (i : Nat) (f : Field), fs[i]? = some f → DataW.trod enc P W 0 (fun _ => true) true n f.type ((cs.drop f.offset).take (P.cellsOf f.type)) = xs[i]?) (hl : xs.length = fs.size)
    {i : Nat} {f : Field} (hi : fs[i]? = some f) {k o : Nat} (hk : P.cellsOf t = k) (ht : f.type = t) (ho : f.offset = o) (hd : Dec enc P W t C ok) : ∃ b, cs.drop o = C b ++ cs.drop (o + k) ∧ ok b := by
  have hx := hf i f hi
  have hlt : i < xs.length := by
    rw [hl]
    exact (Array.getElem?_eq_some_iff.1 hi).1
  rw [List.getElem?_eq_getElem hlt, ht, hk, ho] at hx
  obtain ⟨b, e, hb⟩ := hd _ _ _ hx
  refine ⟨b, ?_, hb⟩
  rw [← e]
  exact cut_step cs o k
/-- Where a struct's cells have been gone through. -/
theorem dec_end {cs : List Value} {k : Nat} (h : cs.length = k) : cs.drop k = [] := List.drop_eq_nil_of_le (by omega)
end
end Go.SX

set_option linter.unusedSimpArgs false
set_option linter.unusedVariables false
namespace Go.SX
open Go
/-! ### Rows of one's own: elements moved to and fro -/
theorem cut_zero {g cap size : Nat} : cutA (some ⟨g, 0, none⟩) cap 0 size = some ⟨g, 0, none⟩ := by
  unfold cutA
  split
  · rfl
  · simp [ad_add]
theorem cut_at {g cap o size : Nat} (h : cap ≠ o) : cutA (some ⟨g, 0, none⟩) cap o size = some ⟨g, o * size, none⟩ := by
  unfold cutA
  rw [if_neg h]
  simp [ad_add]
/-- 'copy' of elements of any size into a block of one's own. -/
theorem run_copy_any {P : Program} (w : World) (dT sT ty e : TypeId) (g o dLen dCap : Nat) (a : Addr) (sLen sCap : Nat) (cur : Array Value) (t : TypeId) (cs : List Value) {i : TypeInfo}
    (hu : P.underlying dT = some (.slice e)) (hi : P.info? e = some i) (hg : w.heap[g]? = some (.cells cur t (0, 0))) (hn : cs.length = Nat.min sLen dLen * i.size)
    (hsrc : ∀ j v, cs[j]? = some v → w.cell? (a.add j) = some v) (hfit : o + cs.length ≤ cur.size) (h1 : ∀ v ∈ cs, v.oneCell' = true) :
    (Builtin.copy_ #[dT, sT] ty #[.slice (some ⟨g, o, none⟩) dLen dCap, .slice (some a) sLen sCap]).run P w =
      .ok (goInt (Nat.min sLen dLen)) (w.setRow g (cur.toList.take o ++ cs ++ cur.toList.drop (o + cs.length)).toArray) := by
  have hl := run_loadCells_list (P := P) w a cs hsrc
  have hst := run_storeCells_at P g o t cs 0 cur w hg (by simpa using hfit) h1
  simp [Builtin.copy_, run_underlying hu, Builtin.lenOf, Builtin.firstCells, sizeOf, typeInfo, hi, ← hn, hl, hst]
theorem OwnRow.front {w : World} {own : Nat → Prop} {e : TypeId} {size n i c m : Nat} {q : Option Addr} {xs : List Value} (h : OwnRow w own e size (.slice q m c) n xs) (hi : i ≤ n) : OwnRow w own e size (.slice q i c) i (xs.take (i * size)) := by
  have hil : i * size ≤ n * size := Nat.mul_le_mul_right _ hi
  refine ⟨by rw [List.length_take, h.1]; omega, ?_⟩
  rcases h.2 with ⟨h1, h2⟩ | ⟨g, cap, cur, h1, h2, h3, h4, h5, h6, h7⟩
  · cases h1
    have : i = 0 := by omega
    subst this
    exact .inl ⟨rfl, rfl⟩
  · cases h1
    refine .inr ⟨g, c, cur, rfl, h2, h3, by omega, h5, h6, ?_⟩
    rw [← h7, List.take_take, Nat.min_eq_left hil]
theorem OwnRow.extend {w : World} {own : Nat → Prop} {e : TypeId} {size n c m : Nat} {q : Option Addr} {xs : List Value} (h : OwnRow w own e size (.slice q m c) n xs) {k : Nat} (hk : n + k ≤ c) : ∃ ys, ys.length = k * size ∧ OwnRow w own e size (.slice q (n + k) c) (n + k) (xs ++ ys) := by
  rcases h.2 with ⟨h1, h2⟩ | ⟨g, cap, cur, h1, h2, h3, h4, h5, h6, h7⟩
  · cases h1
    have : k = 0 := by omega
    subst this
    subst h2
    exact ⟨[], by simp, by simpa using h⟩
  · cases h1
    have hcap : (n + k) * size ≤ c * size := Nat.mul_le_mul_right _ hk
    have e1 : (n + k) * size = n * size + k * size := Nat.add_mul _ _ _
    have hcl : cur.toList.length = c * size := by rw [Array.length_toList]; exact h6
    refine ⟨(cur.toList.drop (n * size)).take (k * size), by rw [List.length_take, List.length_drop]; omega, ?_, .inr ⟨g, c, cur, rfl, h2, h3, hk, h5, h6, ?_⟩⟩
    · rw [List.length_append, h.1, List.length_take, List.length_drop]; omega
    · rw [e1, ← h7, List.take_add]
/-- 'copy' into a row of one's own, elements of any size, from a place on. -/
theorem copy_own_any {P : Program} {w : World} {own : Nat → Prop} {dT sT ty e : TypeId} {n cap o dLen dCap sLen sCap size : Nat} {q : Option Addr} {xs cs : List Value} {a : Addr} {K : Value → World → Prop}
    (hu : P.underlying dT = some (.slice e)) (hs : elemOk P e size = true) (hsz : 0 < size) (hown : OwnRow w own e size (.slice q n cap) n xs) (hn : cs.length = Nat.min sLen dLen * size) (hd : 0 < dLen) (ho : o + dLen ≤ n)
    (hsrc : ∀ j v, cs[j]? = some v → w.cell? (a.add j) = some v) (h1 : ∀ v ∈ cs, v.oneCell' = true)
    (hK : ∀ w', OwnRow w' own e size (.slice q n cap) n (xs.take (o * size) ++ cs ++ xs.drop (o * size + cs.length)) → Kp own w w' → K (.int .i64 (Nat.min sLen dLen)) w') :
    Runs P (Builtin.copy_ #[dT, sT] ty #[.slice (cutA q cap o size) dLen dCap, .slice (some a) sLen sCap]) w K := by
  obtain ⟨i, z, hi, hz, hsize, hzs, hby⟩ := elemOk_spec hs
  subst hsize
  have hle : Nat.min sLen dLen * i.size ≤ dLen * i.size := Nat.mul_le_mul_right _ (Nat.min_le_right _ _)
  obtain ⟨g, cur, rfl, _, hog, hg, hnc, hcm, hcs, htake⟩ := hown.parts (by omega)
  rw [cut_at (by omega)]
  have hol : (o + dLen) * i.size ≤ n * i.size := Nat.mul_le_mul_right _ ho
  have hcl : n * i.size ≤ cap * i.size := Nat.mul_le_mul_right _ hnc
  rw [Nat.add_mul] at hol
  have hfit : o * i.size + cs.length ≤ cur.size := by omega
  refine ⟨_, _, run_copy_any (P := P) w dT sT ty e g (o * i.size) dLen dCap a sLen sCap cur e cs hu hi hg hn hsrc hfit h1, ?_⟩
  have hxl : xs.length = n * i.size := hown.1
  refine hK _ ⟨?_, .inr ⟨g, cap, _, rfl, hog, setRow_heap w g cur _ e _ hg, hnc, hcm, ?_, ?_⟩⟩ (setRow_kp hg hog)
  · simp only [List.length_append, List.length_take, List.length_drop]; omega
  · simp only [List.size_toArray, List.length_append, List.length_take, List.length_drop, Array.length_toList]
    omega
  · simp only []
    apply List.ext_getElem?
    intro j
    rw [← htake]
    simp only [List.getElem?_take, List.getElem?_append, List.length_take, List.length_append, List.getElem?_drop, Array.length_toList, List.length_drop]
    repeat' split
    all_goals first | rfl | omega | (congr 1; omega) | skip
    all_goals (first | (symm; apply List.getElem?_eq_none; omega) | (apply List.getElem?_eq_none; simp; omega) | skip)
/-- 'append(s, t...)' where there is room: the row stays where it is. -/
theorem append_room {P : Program} {w : World} {own : Nat → Prop} {t ty e : TypeId} {size n c m c' k : Nat} {q : Option Addr} {a : Option Addr} {xs news : List Value} {K : Value → World → Prop}
    (ht : P.underlying t = some (.slice e)) (he : elemOk P e size = true) (hsz : 0 < size) (hown : OwnRow w own e size (.slice q k c) n xs) (hq : ∃ g, q = some ⟨g, 0, none⟩) (hl : news.length = m * size) (hnews : ∀ j u, news[j]? = some u → ∃ x, a = some x ∧ w.cell? (x.add j) = some u) (h1 : ∀ u ∈ news, u.oneCell' = true) (hroom : n + m ≤ c)
    (hK : ∀ w', OwnRow w' own e size (.slice q (n + m) c) (n + m) (xs ++ news) → Kp own w w' → K (.slice q (n + m) c) w') : Runs P (Builtin.append_ #[t, t] ty #[.slice q n c, .slice a m c']) w K := by
  obtain ⟨i, z, hi, hz, hsize, hzs, hby⟩ := elemOk_spec he
  subst hsize
  obtain ⟨g, rfl⟩ := hq
  have hlen : (xs ++ news).length = (n + m) * i.size := by rw [List.length_append, hown.1, hl, Nat.add_mul]
  rcases hown.2 with ⟨h0, _⟩ | ⟨g', cap, cur, h0, hog, hg, hnc, hcm, hcs, htake⟩
  · cases h0
  · cases h0
    by_cases hm : m = 0
    · subst hm
      have : news = [] := List.eq_nil_of_length_eq_zero (by simpa using hl)
      subst this
      refine ⟨_, w, ?_, hK w ⟨by simpa using hown.1, .inr ⟨g, c, cur, rfl, hog, hg, hnc, hcm, hcs, by simpa using htake⟩⟩ (Kp.refl _ _)⟩
      cases a <;> simp [Builtin.append_, run_underlying ht, sizeOf, typeInfo, hi, Builtin.lenOf, Builtin.firstCells, loadCells, loadCellsFrom, hnc, storeCells]
    · obtain ⟨x, rfl, _⟩ := hnews 0 (news[0]'(by rw [hl]; exact Nat.mul_pos (by omega) hsz)) (List.getElem?_eq_getElem _)
      have hn' : ∀ j u, news[j]? = some u → w.cell? (x.add j) = some u := fun j u hj => by
        obtain ⟨y, e, hc⟩ := hnews j u hj
        cases e; exact hc
      have hfit : n * i.size + news.length ≤ cur.size := by rw [hl, hcs, ← Nat.add_mul]; exact Nat.mul_le_mul_right _ hroom
      have hr := run_append_room (P := P) w t ty e i ht hi g n c cur hg x m c' news hl hn' h1 hroom hfit
      refine ⟨_, _, hr, hK _ ⟨hlen, .inr ⟨g, c, _, rfl, hog, setRow_heap w g cur _ e _ hg, hroom, hcm, ?_, ?_⟩⟩ (setRow_kp hg hog)⟩
      · simp only [List.size_toArray, List.length_append, List.length_take, List.length_drop, Array.length_toList]
        omega
      · rw [htake, ← hlen]
        exact List.take_left
/-- 'clear(s[n:n+d])' behind a row. -/
theorem clear_own {P : Program} {w : World} {own : Nat → Prop} {t ty e : TypeId} {size n c d k : Nat} {q : Option Addr} {xs : List Value} {z : Value} {K : Value → World → Prop}
    (ht : P.underlying t = some (.slice e)) (he : elemOk P e size = true) (hz : ∀ w, (zeroValue e).run P w = .ok z w) (h1 : ∀ u ∈ zerosL z d, u.oneCell' = true) (hzs : z.cells.size = size) (hown : OwnRow w own e size (.slice q n c) n xs) (hd : 0 < d) (hroom : n + d ≤ c) (hq : ∃ g, q = some ⟨g, 0, none⟩)
    (hK : ∀ w', OwnRow w' own e size (.slice q n c) n xs → Kp own w w' → K (.tuple #[]) w') : Runs P (Builtin.clear_ #[t] ty #[.slice (cutA q c n size) d k]) w K := by
  obtain ⟨g, rfl⟩ := hq
  rcases hown.2 with ⟨h0, _⟩ | ⟨g', cap, cur, h0, hog, hg, hnc, hcm, hcs, htake⟩
  · cases h0
  · cases h0
    rw [cut_at (by omega)]
    have hzl : (zerosL z d).length = d * size := by unfold zerosL; simp [Builtin.zeroCells, hzs]
    have hrm : (n + d) * size ≤ c * size := Nat.mul_le_mul_right _ hroom
    rw [Nat.add_mul] at hrm
    have hst := run_storeCells_at P g (n * size) e (zerosL z d) 0 cur w hg (by rw [hzl]; omega) h1
    simp only [Nat.add_zero] at hst
    have hr : (Builtin.clear_ #[t] ty #[.slice (some ⟨g, n * size, none⟩) d k]).run P w = .ok (.tuple #[]) (w.setRow g (cur.toList.take (n * size) ++ zerosL z d ++ cur.toList.drop (n * size + (zerosL z d).length)).toArray) := by
      cases d with
      | zero => omega
      | succ d =>
        unfold zerosL at hst ⊢
        simp [Builtin.clear_, run_underlying ht, hz]
        simp at hst
        rw [hst]
        rfl
    refine ⟨_, _, hr, hK _ ⟨hown.1, .inr ⟨g, c, _, rfl, hog, setRow_heap w g cur _ e _ hg, hnc, hcm, ?_, ?_⟩⟩ (setRow_kp hg hog)⟩
    · simp only [List.size_toArray, List.length_append, List.length_take, List.length_drop, Array.length_toList]
      omega
    · have hx := hown.1
      rw [htake, ← hx, List.append_assoc]
      exact List.take_left
/-- 'append(s[:i], make([]T, k)...)' where there is no room: a new row, and the old one is as it was. -/
theorem zeros_grow {P : Program} {w : World} {own : Nat → Prop} {t tn ty e : TypeId} {size : Nat} {z : Value} {kn kq : IntKind} {n k c : Nat} {q : Option Addr} {xs : List Value} {K : Value → World → Prop}
    (ht : P.underlying t = some (.slice e)) (htn : P.underlying tn = some (.int kn)) (he : elemOk P e size = true) (hzero : ∃ i, P.info? e = some i ∧ i.zero = some z) (hzs : z.cells.size = size) (hsz : 0 < size)
    (hown : OwnRow w own e size (.slice q n c) n xs) (hq : ∃ g, q = some ⟨g, 0, none⟩) (hk : 0 < k) (hroom : c < n + k) (hb : n + k ≤ 137438953472)
    (hK : ∀ g c w', OwnRow w' (fun i => w.heap.size ≤ i) e size (.slice (some ⟨g, 0, none⟩) (n + k) c) (n + k) (xs ++ zerosL z k) → w.heap.size ≤ g → Kp none_ w w' → K (.slice (some ⟨g, 0, none⟩) (n + k) c) w') : Runs P (Builtin.append_ #[t, tn] ty #[.slice q n c, .int kq k]) w K := by
  obtain ⟨i, z', hi, hz', hsize, _, hby⟩ := elemOk_spec he
  obtain ⟨i', hi', hz⟩ := hzero
  have : i' = i := by rw [hi] at hi'; exact (Option.some.inj hi').symm
  subst this
  subst hsize
  obtain ⟨g, rfl⟩ := hq
  have h63 : n + k ≤ maxLen := by simp only [maxLen]; omega
  have hb0 : (n + k) * i'.bytes ≤ 140737488355328 := Nat.le_trans (Nat.mul_le_mul_left _ (by omega : i'.bytes ≤ 1024)) (by omega)
  have kb : k * i'.bytes ≤ (n + k) * i'.bytes := Nat.mul_le_mul_right _ (by omega)
  have hzl : (zerosL z k).length = k * i'.size := by unfold zerosL; simp [Builtin.zeroCells, hzs]
  have hlen : (xs ++ zerosL z k).length = (n + k) * i'.size := by rw [List.length_append, hown.1, hzl, Nat.add_mul]
  rcases hown.2 with ⟨h0, _⟩ | ⟨g', cap, cur, h0, hog, hg, hnc, hcm, hcs, htake⟩
  · cases h0
  · cases h0
    have holds : ∀ j u, xs[j]? = some u → w.cell? ((⟨g, 0, none⟩ : Addr).add j) = some u := fun j u hj => by
      obtain ⟨_, e1, e2⟩ := hown.at hj
      cases e1; exact e2
    have hold := run_firstCells_some (P := P) w.drew i'.size n ⟨g, 0, none⟩ n c xs hown.1 holds
    have hr := Go.Lib.run_append_grow_zeros (P := P) w t tn ty e i' z kq kn ht htn hi hz (some ⟨g, 0, none⟩) n c xs hold k hk hsz (by omega) (by omega) (by omega) (growslice_fits (by omega) hb0)
    have hge := grownCap_ge w (n + k) c e
    refine ⟨_, _, hr, hK _ _ _ ⟨hlen, .inr ⟨w.heap.size, _, _, rfl, Nat.le_refl _, by rw [alloc_get]; exact if_pos rfl, hge, grownCap_le_maxLen w (n + k) c e h63, ?_, ?_⟩⟩ (Nat.le_refl _) ((Kp.refl none_ w).drew.alloc _ _)⟩
    · simp only [Array.size_append, List.size_toArray, size_zeroCells, hzs, hown.1, ← Nat.add_mul]
      congr 1
      omega
    · simp only [Array.toList_append, List.append_assoc]
      rw [← List.append_assoc, ← hlen]
      exact List.take_left
/-- Cells of a row, from an element on. -/
theorem OwnRow.drop_at {w : World} {own : Nat → Prop} {e : TypeId} {size n c m : Nat} {q : Option Addr} {xs : List Value} (h : OwnRow w own e size (.slice q m c) n xs) {o : Nat} (ho : c ≠ o) : ∀ j u, (xs.drop (o * size))[j]? = some u → ∃ x, cutA q c o size = some x ∧ w.cell? (x.add j) = some u := fun j u hj => by
  rw [List.getElem?_drop] at hj
  obtain ⟨a, rfl, hc⟩ := h.at hj
  refine ⟨a.add (o * size), ?_, ?_⟩
  · unfold cutA
    rw [if_neg ho]
    rfl
  · rw [add_add]; exact hc
end Go.SX
namespace Go.SX
open Go
/-- An element type's zero. -/
structure ZeroOk (P : Program) (e : TypeId) (size : Nat) (z : Value) : Prop where
  info : ∃ i, P.info? e = some i ∧ i.zero = some z
  size : z.cells.size = size
  one : ∀ u ∈ z.cells.toList, u.oneCell' = true
theorem ZeroOk.run {P : Program} {e : TypeId} {size : Nat} {z : Value} (h : ZeroOk P e size z) (w : World) : (zeroValue e).run P w = .ok z w := by
  obtain ⟨i, hi, hz⟩ := h.info
  simp [zeroValue, typeInfo, hi, hz]
theorem ZeroOk.ones {P : Program} {e : TypeId} {size : Nat} {z : Value} (h : ZeroOk P e size z) (hs : 0 < size) (k : Nat) : ∀ u ∈ zerosL z k, u.oneCell' = true := fun u hu => by
  unfold zerosL Builtin.zeroCells at hu
  simp only [Array.toList_map, Array.toList_range, List.mem_map] at hu
  obtain ⟨x, _, e⟩ := hu
  have hm : x % z.cells.size < z.cells.size := Nat.mod_lt _ (by rw [h.size]; exact hs)
  rw [getElem!_pos z.cells _ hm] at e
  refine h.one u ?_
  rw [← e]
  simp
theorem zerosL_len {z : Value} {size : Nat} (h : z.cells.size = size) (k : Nat) : (zerosL z k).length = k * size := by unfold zerosL; simp [Builtin.zeroCells, h]
theorem run_cap_row {P : Program} {t ty e : TypeId} {q : Option Addr} {n c : Nat} (ht : P.underlying t = some (.slice e)) (w : World) : (Builtin.cap_ #[t] ty #[.slice q n c]).run P w = .ok (.int .i64 c) w := by
  simp [Builtin.cap_, run_underlying ht, goInt]
/-- 'slices.overlaps' of a value that was just laid and a part of a row of one's own: they don't. -/
theorem overlaps_own {P : Program} {w : World} {f : FuncId} {fn : Func} {tS tR e : TypeId} {size g g2 o la ca lb cb : Nat} {cur cur2 : Array Value} {e2 : TypeId} {K : Value → World → Prop}
    (hf : P.funcs[f]? = some fn) (hname : (fn.name == "runtime.NumGoroutine") = false) (hb : fn.body.isNone = true) (hn : Extern.findNext fn = none) (he : Extern.find fn = some (Extern.SlicesOverlaps.overlaps #[tS, tS] #[tR]))
    (ht : P.underlying tS = some (.slice e)) (hok : elemOk P e size = true) (hg : w.heap[g]? = some (.cells cur e (0, 0))) (hg2 : w.heap[g2]? = some (.cells cur2 e2 (0, 0))) (hne : g2 ≠ g) (hcur : cur.size ≠ 0) (hK : K (.bool false) w) :
    RetsX P f #[.slice (some ⟨g2, 0, none⟩) la ca, .slice (some ⟨g, o, none⟩) lb cb] w K := by
  obtain ⟨i, z, hi, hz, hsize, _⟩ := elemOk_spec hok
  have h1 := Go.Lib.run_overlaps_apart (P := P) w tS tR e ht i.size (fun w => by simp [sizeOf, typeInfo, hi]) ⟨g2, 0, none⟩ ⟨g, o, none⟩ la ca lb cb hne e2 e cur2.size cur.size (by simp [World.shape?, hg2]) (by simp [World.shape?, hg]) hcur (by simp [World.frozen?, hg2]) (by simp [World.frozen?, hg2])
  exact ⟨_, _, by rw [run_callFunc_extern hf hname hb hn he, h1]; rfl, hK⟩
end Go.SX
namespace Go.SX
open Go
/-- A cell of a row of one's own is set. -/
theorem OwnRow.setCell {w : World} {own : Nat → Prop} {e : TypeId} {size n m c g : Nat} {xs : List Value} (h : OwnRow w own e size (.slice (some ⟨g, 0, none⟩) m c) n xs) {k : Nat} (hk : k < xs.length) :
    own g ∧ (∃ u, w.cell? ⟨g, k, none⟩ = some u) ∧ w.frozen? ⟨g, k, none⟩ = false ∧ ∀ x, OwnRow (w.setCell ⟨g, k, none⟩ x) own e size (.slice (some ⟨g, 0, none⟩) m c) n (xs.set k x) ∧ Kp own w (w.setCell ⟨g, k, none⟩ x) := by
  rcases h.2 with ⟨h0, _⟩ | ⟨g', cap, cur, h0, hog, hg, hnc, hcm, hcs, htake⟩
  · cases h0
  · cases h0
    have hxl := h.1
    have hle : n * size ≤ c * size := Nat.mul_le_mul_right _ hnc
    have hic : k < cur.size := by omega
    refine ⟨hog, ⟨cur[k], by simp [World.cell?, hg, hic]⟩, by simp [World.frozen?, hg], fun x => ⟨⟨by rw [List.length_set]; exact hxl, .inr ⟨g, c, cur.setIfInBounds k x, rfl, hog, ?_, hnc, hcm, by simpa using hcs, ?_⟩⟩, Kp.setCell (Kp.refl _ w) _ (.inl hog)⟩⟩
    · rw [setCell_eq_setRow w g k cur e (0, 0) _ hg]
      exact setRow_heap w g cur _ e _ hg
    · rw [Array.toList_setIfInBounds, List.take_set, htake]
end Go.SX

set_option linter.unusedSimpArgs false
set_option linter.unusedVariables false
namespace Go.SX
open Go
/-! ### Lists that rise by keys: plain mathematics -/
theorem less_cons (a b : UInt8) (x y : List UInt8) : Op.bytesLess (a :: x) (b :: y) = (decide (a < b) || a == b && Op.bytesLess x y) := rfl
theorem less_irr : ∀ x : List UInt8, Op.bytesLess x x = false
  | [] => rfl
  | a :: x => by
    have h : ¬ a < a := by rw [UInt8.lt_iff_toNat_lt]; omega
    rw [less_cons, less_irr x, decide_eq_false h]; simp
theorem less_cons_iff {a b : UInt8} {x y : List UInt8} : Op.bytesLess (a :: x) (b :: y) = true ↔ a.toNat < b.toNat ∨ (a = b ∧ Op.bytesLess x y = true) := by
  rw [less_cons]
  simp [UInt8.lt_iff_toNat_lt]
theorem less_trans : ∀ x y z : List UInt8, Op.bytesLess x y = true → Op.bytesLess y z = true → Op.bytesLess x z = true
  | x, [], _, h, _ => by cases x <;> cases h
  | _, _ :: _, [], _, h => by cases h
  | [], b :: y, c :: z, _, _ => rfl
  | a :: x, b :: y, c :: z, h1, h2 => by
    rw [less_cons_iff] at h1 h2 ⊢
    rcases h1 with h1 | ⟨rfl, h1⟩
    · rcases h2 with h2 | ⟨rfl, h2⟩
      · exact .inl (by omega)
      · exact .inl h1
    · rcases h2 with h2 | ⟨rfl, h2⟩
      · exact .inl h2
      · exact .inr ⟨rfl, less_trans x y z h1 h2⟩
theorem less_total : ∀ x y : List UInt8, Op.bytesLess x y = true ∨ x = y ∨ Op.bytesLess y x = true
  | [], [] => .inr (.inl rfl)
  | [], _ :: _ => .inl rfl
  | _ :: _, [] => .inr (.inr rfl)
  | a :: x, b :: y => by
    rw [less_cons_iff, less_cons_iff]
    by_cases e : a = b
    · subst e
      rcases less_total x y with h | h | h
      · exact .inl (.inr ⟨rfl, h⟩)
      · subst h; exact .inr (.inl rfl)
      · exact .inr (.inr (.inr ⟨rfl, h⟩))
    · have : a.toNat ≠ b.toNat := fun h => e (UInt8.toNat_inj.1 h)
      rcases Nat.lt_or_gt_of_ne this with h | h
      · exact .inl (.inl h)
      · exact .inr (.inr (.inl h))
theorem less_asym {x y : List UInt8} (h : Op.bytesLess x y = true) : Op.bytesLess y x = false := by
  cases h' : Op.bytesLess y x with
  | false => rfl
  | true =>
    have := less_trans _ _ _ h h'
    rw [less_irr] at this
    cases this
theorem less_ne {x y : List UInt8} (h : Op.bytesLess x y = true) : x ≠ y := fun e => by
  subst e
  rw [less_irr] at h
  cases h
section
variable {α : Type} (k : α → List UInt8)
/-- A list that rises by its keys. -/
def Asc : List α → Prop
  | [] => True
  | b :: r => (∀ c ∈ r, Op.bytesLess (k b) (k c) = true) ∧ Asc r
/-- Where a key stands, or would. -/
def pos : List α → List UInt8 → Nat
  | [], _ => 0
  | b :: r, s => if Op.bytesLess (k b) s = true then pos r s + 1 else 0
/-- Whether a key is there. -/
def has (l : List α) (s : List UInt8) : Bool := l.any fun b => k b == s
/-- The place of a key, by going through; -1: it isn't there. -/
def findK : List α → List UInt8 → Option Nat
  | [], _ => none
  | b :: r, s => if k b = s then some 0 else (findK r s).map (· + 1)
/-- A list without a key. -/
def withoutK (l : List α) (s : List UInt8) : List α := l.filter fun b => !(k b == s)
/-- One step of 'a list in which a member is'. -/
def putStep (s : List UInt8) (m : α) (st : List α × Bool) (b : α) : List α × Bool :=
  (let o := if st.2 = false ∧ (Op.bytesLess s (k b) || s == k b) = true then st.1 ++ [m] else st.1
   if s = k b then o else o ++ [b],
   st.2 || (Op.bytesLess s (k b) || s == k b))
def putGo (s : List UInt8) (m : α) (l : List α) : List α × Bool := l.foldl (putStep k s m) ([], false)
def withK (l : List α) (s : List UInt8) (m : α) : List α := if (putGo k s m l).2 = true then (putGo k s m l).1 else (putGo k s m l).1 ++ [m]
variable {k}
theorem pos_lt {b : α} {r : List α} {s : List UInt8} (h : Op.bytesLess (k b) s = true) : pos k (b :: r) s = pos k r s + 1 := by
  rw [pos, if_pos h]
theorem pos_ge {b : α} {r : List α} {s : List UInt8} (h : ¬ Op.bytesLess (k b) s = true) : pos k (b :: r) s = 0 := by
  rw [pos, if_neg h]
theorem pos_le : ∀ (l : List α) (s), pos k l s ≤ l.length
  | [], _ => Nat.le_refl _
  | b :: r, s => by
    unfold pos
    split
    · have := pos_le r s
      simp only [List.length_cons]; omega
    · exact Nat.zero_le _
theorem pos_below : ∀ (l : List α) (s) (i : Nat) (h : i < l.length), i < pos k l s → Op.bytesLess (k l[i]) s = true
  | b :: r, s, i, h, hp => by
    unfold pos at hp
    split at hp
    · rename_i hb
      cases i with
      | zero => exact hb
      | succ i => exact pos_below r s i (by simpa using h) (by omega)
    · omega
theorem pos_at : ∀ (l : List α) (s) (h : pos k l s < l.length), Op.bytesLess (k l[pos k l s]) s = false
  | b :: r, s, h => by
    by_cases hb : Op.bytesLess (k b) s = true
    · have e : pos k (b :: r) s = pos k r s + 1 := pos_lt hb
      simp only [e, List.getElem_cons_succ] at h ⊢
      exact pos_at r s (by simpa using h)
    · have e : pos k (b :: r) s = 0 := pos_ge hb
      simp only [e, List.getElem_cons_zero] at h ⊢
      simpa using hb
theorem asc_get : ∀ {l : List α}, Asc k l → ∀ (i j : Nat) (hij : i < j) (hj : j < l.length), Op.bytesLess (k (l[i]'(by omega))) (k l[j]) = true
  | b :: r, h, 0, j + 1, _, hj => h.1 _ (List.getElem_mem _)
  | b :: r, h, i + 1, j + 1, hij, hj => asc_get h.2 i j (by omega) (by simpa using hj)
/-- The place that a search finds. -/
theorem pos_unique {l : List α} (h : Asc k l) {s : List UInt8} {i : Nat} (hi : i ≤ l.length) (h1 : ∀ j (hj : j < l.length), j < i → Op.bytesLess (k l[j]) s = true) (h2 : ∀ j (hj : j < l.length), i ≤ j → Op.bytesLess (k l[j]) s = false) : i = pos k l s := by
  have hle := pos_le (k := k) l s
  by_cases hlt : i < pos k l s
  · have a := pos_below l s i (by omega) hlt
    have b := h2 i (by omega) (Nat.le_refl _)
    rw [a] at b; cases b
  · by_cases hgt : pos k l s < i
    · have a := pos_at (k := k) l s (by omega)
      have b := h1 (pos k l s) (by omega) hgt
      rw [a] at b; cases b
    · omega
theorem asc_above {l : List α} (h : Asc k l) {s : List UInt8} {j : Nat} (hj : j < l.length) (hp : pos k l s ≤ j) : Op.bytesLess (k l[j]) s = false := by
  by_cases e : j = pos k l s
  · subst e; exact pos_at l s hj
  · have a := pos_at (k := k) l s (by omega)
    have b := asc_get h (pos k l s) j (by omega) hj
    cases c : Op.bytesLess (k l[j]) s with
    | false => rfl
    | true =>
      rw [less_trans _ _ _ b c] at a
      cases a
theorem has_eq : ∀ {l : List α}, Asc k l → ∀ s, has k l s = (match l[pos k l s]? with | some b => k b == s | none => false)
  | [], _, s => rfl
  | b :: r, h, s => by
    have ih := has_eq h.2 s
    by_cases hb : Op.bytesLess (k b) s = true
    · rw [pos_lt hb, List.getElem?_cons_succ]
      unfold has at ih ⊢
      rw [List.any_cons, ih]
      have : (k b == s) = false := by
        rw [beq_eq_false_iff_ne]
        exact less_ne hb
      rw [this, Bool.false_or]
    · rw [pos_ge hb, List.getElem?_cons_zero]
      unfold has
      rw [List.any_cons]
      by_cases e : k b = s
      · simp [e]
      · have h0 : (k b == s) = false := by simpa using e
        simp only [h0, Bool.false_or]
        rw [List.any_eq_false]
        intro c hc hcs
        have hc1 := h.1 c hc
        have hcs : k c = s := by simpa using hcs
        rw [hcs] at hc1
        exact hb hc1
theorem has_iff {l : List α} {s : List UInt8} : has k l s = true ↔ ∃ b ∈ l, k b = s := by
  unfold has
  simp
theorem has_get {l : List α} (h : Asc k l) {s : List UInt8} (hs : has k l s = true) : ∃ hp : pos k l s < l.length, k l[pos k l s] = s := by
  rw [has_eq h] at hs
  split at hs
  · rename_i b hb
    obtain ⟨hp, e⟩ := List.getElem?_eq_some_iff.1 hb
    exact ⟨hp, by rw [e]; simpa using hs⟩
  · cases hs
theorem filter_all {l : List α} {p : α → Bool} (h : ∀ c ∈ l, p c = true) : l.filter p = l := List.filter_eq_self.2 h
theorem withoutK_eq : ∀ {l : List α}, Asc k l → ∀ s, withoutK k l s = if has k l s = true then l.take (pos k l s) ++ l.drop (pos k l s + 1) else l
  | [], _, s => rfl
  | b :: r, h, s => by
    have ih := withoutK_eq h.2 s
    unfold withoutK at ih ⊢
    rw [List.filter_cons]
    by_cases e : k b = s
    · have h0 : (!(k b == s)) = false := by simp [e]
      rw [h0, if_neg (by decide)]
      have h1 : has k (b :: r) s = true := by unfold has; simp [e]
      rw [if_pos h1]
      have hp : pos k (b :: r) s = 0 := pos_ge (by rw [e, less_irr]; decide)
      rw [hp]
      simp only [List.take_zero, List.nil_append, Nat.zero_add, List.drop_succ_cons, List.drop_zero]
      refine filter_all fun c hc => ?_
      have := less_ne (h.1 c hc)
      rw [e] at this
      simpa using fun h => this h.symm
    · have h0 : (k b == s) = false := by simpa using e
      rw [h0]
      simp only [Bool.not_false, if_true]
      have h1 : has k (b :: r) s = has k r s := by unfold has; rw [List.any_cons, h0, Bool.false_or]
      rw [h1, ih]
      by_cases hr : has k r s = true
      · rw [if_pos hr, if_pos hr]
        obtain ⟨c, hc, ec⟩ := has_iff.1 hr
        have := h.1 c hc
        rw [ec] at this
        have hp : pos k (b :: r) s = pos k r s + 1 := pos_lt this
        rw [hp, List.take_succ_cons, List.drop_succ_cons, List.cons_append]
      · rw [if_neg hr, if_neg hr]
theorem putStep_foldl_put {s : List UInt8} {m : α} : ∀ (r : List α) (o : List α), (∀ c ∈ r, Op.bytesLess s (k c) = true) → r.foldl (putStep k s m) (o, true) = (o ++ r, true)
  | [], o, _ => by simp
  | b :: r, o, h => by
    have hb := h b List.mem_cons_self
    rw [List.foldl_cons]
    have e : putStep k s m (o, true) b = (o ++ [b], true) := by
      unfold putStep
      simp [less_ne hb]
    rw [e, putStep_foldl_put r _ fun c hc => h c (List.mem_cons_of_mem _ hc)]
    simp
theorem putGo_eq {s : List UInt8} {m : α} : ∀ {l : List α} (o : List α), Asc k l → l.foldl (putStep k s m) (o, false) =
    (if pos k l s < l.length then (o ++ l.take (pos k l s) ++ m :: l.drop (if has k l s = true then pos k l s + 1 else pos k l s), true) else (o ++ l, false))
  | [], o, _ => by simp [pos]
  | b :: r, o, h => by
    rw [List.foldl_cons]
    by_cases hb : Op.bytesLess (k b) s = true
    · have hn := less_ne hb
      have e : putStep k s m (o, false) b = (o ++ [b], false) := by
        unfold putStep
        have h1 : (s == k b) = false := by simpa using fun h => hn h.symm
        simp [less_asym hb, h1, show ¬ s = k b from fun h => hn h.symm]
      rw [e, putGo_eq (o ++ [b]) h.2]
      have hp : pos k (b :: r) s = pos k r s + 1 := pos_lt hb
      have h0 : (k b == s) = false := by simpa using hn
      have h1 : has k (b :: r) s = has k r s := by unfold has; rw [List.any_cons, h0, Bool.false_or]
      rw [hp, h1]
      simp only [List.length_cons, Nat.add_lt_add_iff_right]
      by_cases hlt : pos k r s < r.length
      · rw [if_pos hlt, if_pos hlt]
        by_cases hh : has k r s = true
        · simp [hh]
        · simp [hh]
      · rw [if_neg hlt, if_neg hlt]
        simp
    · have hp : pos k (b :: r) s = 0 := pos_ge hb
      rw [hp, if_pos (by simp)]
      rcases less_total s (k b) with h1 | h1 | h1
      · have e : putStep k s m (o, false) b = (o ++ [m] ++ [b], true) := by
          unfold putStep
          simp [h1, less_ne h1]
        rw [e, putStep_foldl_put r _ fun c hc => less_trans _ _ _ h1 (h.1 c hc)]
        have hh : has k (b :: r) s = false := by
          rw [has_eq h, hp]
          simpa using fun e => less_ne h1 e.symm
        simp [hh]
      · have e : putStep k s m (o, false) b = (o ++ [m], true) := by
          unfold putStep
          simp [h1]
        rw [e, putStep_foldl_put r _ fun c hc => by rw [h1]; exact h.1 c hc]
        have hh : has k (b :: r) s = true := by unfold has; simp [h1]
        simp [hh]
      · exact absurd h1 hb
theorem withK_eq {l : List α} (h : Asc k l) (s : List UInt8) (m : α) : withK k l s m = l.take (pos k l s) ++ m :: l.drop (if has k l s = true then pos k l s + 1 else pos k l s) := by
  unfold withK putGo
  rw [putGo_eq [] h]
  by_cases hlt : pos k l s < l.length
  · rw [if_pos hlt]
    simp
  · rw [if_neg hlt]
    have hle := pos_le (k := k) l s
    have hh : has k l s = false := by
      rw [has_eq h, List.getElem?_eq_none (by omega)]
    simp only [List.nil_append, Bool.false_eq_true, if_false, hh]
    rw [List.take_of_length_le (by omega), List.drop_eq_nil_of_le (by omega)]
theorem withK_has {l : List α} (h : Asc k l) {s : List UInt8} (m : α) (hs : has k l s = true) : withK k l s m = l.set (pos k l s) m := by
  obtain ⟨hp, _⟩ := has_get h hs
  rw [withK_eq h, if_pos hs, List.set_eq_take_append_cons_drop, if_pos hp]
theorem withK_not {l : List α} (h : Asc k l) {s : List UInt8} (m : α) (hs : has k l s = false) : withK k l s m = l.take (pos k l s) ++ m :: l.drop (pos k l s) := by
  rw [withK_eq h, if_neg (by rw [hs]; decide)]
theorem asc_app : ∀ {a b : List α}, Asc k a → Asc k b → (∀ x ∈ a, ∀ y ∈ b, Op.bytesLess (k x) (k y) = true) → Asc k (a ++ b)
  | [], _, _, hb, _ => hb
  | x :: a, b, ha, hb, h => ⟨fun c hc => by
      rcases List.mem_append.1 hc with hc | hc
      · exact ha.1 c hc
      · exact h x List.mem_cons_self c hc, asc_app ha.2 hb fun y hy z hz => h y (List.mem_cons_of_mem _ hy) z hz⟩
theorem asc_sub : ∀ {a b : List α}, a.Sublist b → Asc k b → Asc k a := by
  intro a b h
  induction h with
  | slnil => exact id
  | cons x _ ih => exact fun h => ih h.2
  | cons_cons x hs ih => exact fun h => ⟨fun c hc => h.1 c (hs.subset hc), ih h.2⟩
theorem asc_without {l : List α} (h : Asc k l) (s : List UInt8) : Asc k (withoutK k l s) := asc_sub List.filter_sublist h
theorem asc_with {l : List α} (h : Asc k l) {s : List UInt8} {m : α} (hm : k m = s) : Asc k (withK k l s m) := by
  rw [withK_eq h]
  refine asc_app (asc_sub (List.take_sublist _ _) h) ⟨fun c hc => ?_, asc_sub (List.drop_sublist _ _) h⟩ fun x hx y hy => ?_
  · obtain ⟨i, hi, e⟩ := List.getElem_of_mem hc
    rw [List.getElem_drop] at e
    subst e
    rw [List.length_drop] at hi
    have hj : (if has k l s = true then pos k l s + 1 else pos k l s) + i < l.length := by omega
    have h1 := asc_above h (s := s) hj (by split <;> omega)
    rw [hm]
    rcases less_total s (k l[(if has k l s = true then pos k l s + 1 else pos k l s) + i]) with a | a | a
    · exact a
    · exfalso
      have hh : has k l s = true := has_iff.2 ⟨_, List.getElem_mem hj, a.symm⟩
      obtain ⟨hp, e⟩ := has_get h hh
      have hlt : pos k l s < (if has k l s = true then pos k l s + 1 else pos k l s) + i := by rw [if_pos hh]; omega
      have := asc_get h _ _ hlt hj
      rw [e, ← a] at this
      rw [less_irr] at this
      cases this
    · rw [a] at h1; cases h1
  · obtain ⟨i, hi, e⟩ := List.getElem_of_mem hx
    rw [List.getElem_take] at e
    rw [List.length_take] at hi
    subst e
    have hb := pos_below (k := k) l s i (by omega) (by omega)
    rcases List.mem_cons.1 hy with rfl | hy
    · rw [hm]; exact hb
    · obtain ⟨j, hj, e⟩ := List.getElem_of_mem hy
      rw [List.getElem_drop] at e
      subst e
      rw [List.length_drop] at hj
      exact asc_get h _ _ (by split <;> omega) (by omega)
end
end Go.SX
namespace Go.SX
section
variable {α : Type} {k : α → List UInt8}
theorem findK_idx (l : List α) (s : List UInt8) : findK k l s = l.findIdx? fun b => k b == s := by
  induction l with
  | nil => rfl
  | cons b r ih =>
    rw [List.findIdx?_cons, findK, ih]
    by_cases e : k b = s
    · simp [e]
    · simp [e]
theorem findK_at {l : List α} {s : List UInt8} {j : Nat} (hj : j < l.length) (h : k l[j] = s) (hb : ∀ i (hi : i < l.length), i < j → k l[i] ≠ s) : findK k l s = some j := by
  rw [findK_idx, List.findIdx?_eq_some_iff_getElem]
  refine ⟨hj, by simpa using h, fun i hi => ?_⟩
  have := hb i (by omega) hi
  simpa using this
theorem findK_not {l : List α} {s : List UInt8} (hb : ∀ i (hi : i < l.length), k l[i] ≠ s) : findK k l s = none := by
  rw [findK_idx, List.findIdx?_eq_none_iff]
  intro x hx
  obtain ⟨i, hi, e⟩ := List.getElem_of_mem hx
  subst e
  simpa using hb i hi
theorem findK_has (l : List α) (s : List UInt8) : (findK k l s).isSome = has k l s := by
  induction l with
  | nil => rfl
  | cons b r ih =>
    unfold has at ih ⊢
    rw [findK, List.any_cons]
    by_cases e : k b = s
    · simp [e]
    · rw [if_neg e, Option.isSome_map, ih]
      simp [e]
theorem withoutK_step {l : List α} {s : List UInt8} {j : Nat} (hj : j < l.length) : withoutK k (l.take (j + 1)) s = if k l[j] = s then withoutK k (l.take j) s else withoutK k (l.take j) s ++ [l[j]] := by
  unfold withoutK
  rw [List.take_succ_eq_append_getElem hj, List.filter_append]
  by_cases e : k l[j] = s <;> simp [e]
theorem putGo_step {l : List α} {s : List UInt8} {m : α} {j : Nat} (hj : j < l.length) : putGo k s m (l.take (j + 1)) = putStep k s m (putGo k s m (l.take j)) l[j] := by
  unfold putGo
  rw [List.take_succ_eq_append_getElem hj, List.foldl_append]
  rfl
end
/-- A place as a number; -1: none. -/
def idxO (o : Option Nat) : Int := match o with | some i => i | none => -1
theorem idxO_nonneg (o : Option Nat) : decide (idxO o ≥ 0) = o.isSome := by
  cases o with
  | none => rfl
  | some i => simp [idxO]
end Go.SX

set_option linter.unusedSimpArgs false
set_option linter.unusedVariables false
namespace Go.SX
open Go
/-! ### What an archive should be: plain mathematics -/
/-- A file: its name, its data. -/
abbrev Fil := List UInt8 × List UInt8
structure Ans where
  e : Int
  data : List UInt8
  size : Int
  names : List (List UInt8)
  files : List Fil
  refused : Bool
  poisoned : Bool
structure Stp where
  kind : Int
  name : List UInt8
  data : List UInt8
structure MM where
  may : List (Bool × List Fil)
  opn : Bool
  poisoned : Bool
  streaming : Bool
  now : List Fil
  name : List UInt8
  data : List UInt8
def underF (l : List Fil) (f : List UInt8) : List (List UInt8) := (l.filter fun x => inF f x.1).map (·.1)
abbrev hasF (l : List Fil) (s : List UInt8) : Bool := has Prod.fst l s
/-- A name's data. -/
def findD (l : List Fil) (s : List UInt8) : List UInt8 := match l.find? (fun x => x.1 == s) with | some x => x.2 | none => []
def canM (m : MM) (s : Bool × List Fil) : Bool := m.may.any fun x => x.1 == s.1 && (!s.1 || decide (x.2 = s.2))
def someM (m : MM) (t : Bool) : Bool := m.may.any fun x => x.1 == t
def putEr (m : MM) (name : List UInt8) (size : Int) : Int :=
  if m.streaming = true then 8 else if m.poisoned = true then 11 else if okName name = false then 6 else if size > 65536 then 5 else
  if hasF m.now name = false ∧ 200 ≤ m.now.length then 14 else 0
def insE (m : MM) (o : Stp) : Int :=
  if o.kind = 3 then putEr m o.name o.data.length else
  if o.kind = 4 then putEr m o.name 0 else
  if o.kind = 5 ∨ o.kind = 6 ∨ o.kind = 7 then (if m.streaming = false then 15 else if o.kind = 5 ∧ (o.data.length : Int) > 65536 - m.data.length then 5 else 0) else
  if o.kind = 10 then 0 else
  if o.kind > 10 ∧ m.streaming = true then 8 else if o.kind > 10 ∧ m.poisoned = true then 11 else
  if o.kind < 12 ∧ hasF m.now o.name = false then 7 else 0
def toldM (m : MM) (o : Stp) (e : Int) : Bool :=
  if o.kind < 1 ∨ o.kind > 18 then e == 1 else
  if o.kind > 15 then e == 0 else
  if o.kind = 1 then (e == 0 && someM m false || e == 16 && someM m true) else
  if o.kind = 2 ∧ m.opn = true then e == 8 else
  if o.kind = 2 ∨ o.kind = 15 then (e == 0 && someM m true || e == 7 && someM m false) else
  if m.opn = false then e == 12 else e == insE m o
def callsM (k : Int) : Bool := decide ((1 ≤ k ∧ k ≤ 6) ∨ (11 ≤ k ∧ k ≤ 14))
/-- Whether an archive is open behind a step. -/
def openM (m : MM) (o : Stp) (a : Ans) : Bool :=
  if o.kind = 2 ∧ a.e = 0 then true else if o.kind = 18 ∨ (o.kind = 14 ∧ a.e ≠ 8) then false else m.opn
def bareA (a : Ans) : Bool := a.data == [] && a.size == 0 && a.names == [] && decide (a.files = [])
/-- What stands beside an error. -/
def plainM (m : MM) (o : Stp) (a : Ans) : Ans :=
  { e := a.e, refused := a.refused, poisoned := a.poisoned,
    data := if (a.e = 0 ∧ a.refused = false) ∧ o.kind = 8 then findD m.now o.name else [],
    size := if (a.e = 0 ∧ a.refused = false) ∧ o.kind = 9 then (findD m.now o.name).length else 0,
    names := if (a.e = 0 ∧ a.refused = false) ∧ o.kind = 10 then underF m.now o.name else [],
    files := if (a.e = 0 ∧ a.refused = false) ∧ (o.kind = 2 ∨ o.kind = 15) then a.files else [] }
def alikeA (a b : Ans) : Bool := a.e == b.e && a.data == b.data && a.size == b.size && a.names == b.names && decide (a.files = b.files) && a.refused == b.refused && a.poisoned == b.poisoned
def poisonM (m : MM) (o : Stp) (a : Ans) : Bool :=
  if openM m o a = false ∨ m.opn = false then !a.poisoned else
  if a.refused = true ∧ o.kind = 12 then a.poisoned else
  (a.refused && o.kind == 13) || a.poisoned == m.poisoned
def firstM (m : MM) (o : Stp) (a : Ans) : Bool :=
  if a.refused = true then callsM o.kind && toldM m o 0 && (a.e == 10 || a.e == 9) else toldM m o a.e
def secondM (m : MM) (o : Stp) (a : Ans) : Bool :=
  if a.refused = false ∧ a.e = 0 ∧ (o.kind = 2 ∨ o.kind = 15) then canM m (true, a.files) else true
def mayM (m : MM) (o : Stp) (a : Ans) : Bool := alikeA a (plainM m o a) && (firstM m o a && (secondM m o a && poisonM m o a))
/-- The program's. -/
def besideM (m : MM) (o : Stp) (a : Ans) : Bool :=
  if o.kind = 8 then findD m.now o.name == a.data && bareA { a with data := [] } else
  if o.kind = 9 then a.size == ((findD m.now o.name).length : Int) && bareA { a with size := 0 } else
  if o.kind = 10 then a.names == underF m.now o.name && bareA { a with names := [] } else
  if o.kind = 2 ∨ o.kind = 15 then canM m (true, a.files) && bareA { a with files := [] } else bareA a
def givenM (m : MM) (o : Stp) (a : Ans) : Bool :=
  if a.refused = true then callsM o.kind && (toldM m o 0 && ((a.e == 10 || a.e == 9) && bareA a)) else
  if toldM m o a.e = false then false else if a.e ≠ 0 then bareA a else besideM m o a
theorem given_may (m : MM) (o : Stp) (a : Ans) : (givenM m o a && poisonM m o a) = mayM m o a := by
  have key : givenM m o a = (alikeA a (plainM m o a) && (firstM m o a && secondM m o a)) := by
    obtain ⟨e, data, size, names, files, refused, poisoned⟩ := a
    unfold givenM firstM secondM
    cases refused with
    | true =>
      have h1 : plainM m o ⟨e, data, size, names, files, true, poisoned⟩ = ⟨e, [], 0, [], [], true, poisoned⟩ := by unfold plainM; simp
      rw [h1]
      simp only [if_true, Bool.true_eq_false, false_and, if_false, Bool.and_true]
      unfold alikeA bareA
      simp only [beq_self_eq_true, Bool.true_and, Bool.and_true]
      rw [Bool.eq_iff_iff]
      simp only [Bool.and_eq_true]
      constructor
      · rintro ⟨h1, h2, h3, h4⟩; exact ⟨h4, ⟨h1, h2⟩, h3⟩
      · rintro ⟨h4, ⟨h1, h2⟩, h3⟩; exact ⟨h1, h2, h3, h4⟩
    | false =>
      simp only [Bool.false_eq_true, if_false, true_and]
      by_cases he : e = 0
      · subst he
        by_cases ht : toldM m o 0 = true
        · rw [if_neg (by rw [ht]; decide), if_neg (by simp)]
          simp only [ht, Bool.true_and]
          unfold besideM plainM alikeA bareA
          simp only [true_and, and_true, beq_self_eq_true, Bool.and_true, Bool.true_and]
          by_cases h8 : o.kind = 8
          · simp [h8, Bool.beq_comm, BEq.comm, Bool.and_assoc]
          · by_cases h9 : o.kind = 9
            · simp [h9]
              cases hs : (size == ((findD m.now o.name).length : Int)) <;> simp
            · by_cases h10 : o.kind = 10
              · simp [h10]
                cases hs : (names == underF m.now o.name) <;> simp
              · by_cases h2 : o.kind = 2 ∨ o.kind = 15
                · simp only [h8, h9, h10, if_false, if_pos h2]
                  cases hs : canM m (true, files) <;> simp
                · simp only [h8, h9, h10, if_false, if_neg h2, Bool.and_true]
        · rw [if_pos (by simpa using ht)]
          have : toldM m o 0 = false := by simpa using ht
          rw [this]; simp
      · have h1 : plainM m o ⟨e, data, size, names, files, false, poisoned⟩ = ⟨e, [], 0, [], [], false, poisoned⟩ := by unfold plainM; simp [he]
        rw [h1]
        simp only [he, false_and, if_false, Bool.and_true, ne_eq, not_false_eq_true, if_true]
        unfold alikeA bareA
        simp only [beq_self_eq_true, Bool.true_and, Bool.and_true]
        cases ht : toldM m o e <;> simp
  rw [key]
  unfold mayM
  simp only [Bool.and_assoc]
/-- The document's model behind an answer. -/
def doneM (m n : MM) (o : Stp) (a : Ans) : MM :=
  if o.kind = 1 then { n with may := [(true, [])] } else
  if o.kind = 2 then { n with now := a.files, may := [(true, a.files)] } else
  if o.kind = 3 then { n with now := withK Prod.fst m.now o.name (o.name, o.data) } else
  if o.kind = 4 then { n with streaming := true, name := o.name, data := [] } else
  if o.kind = 5 then { n with data := m.data ++ o.data } else
  if o.kind = 6 then { n with now := withK Prod.fst m.now m.name (m.name, m.data), streaming := false } else
  if o.kind = 7 then { n with streaming := false } else
  if o.kind = 11 then { n with now := withoutK Prod.fst m.now o.name } else
  if o.kind = 12 ∨ o.kind = 13 ∨ o.kind = 14 then { n with may := [(true, m.now)] } else n
def baseM (m : MM) (o : Stp) (a : Ans) : MM :=
  { m with poisoned := a.poisoned, opn := openM m o a, streaming := if openM m o a = false then false else m.streaming, now := if openM m o a = false then [] else m.now,
           may := if o.kind = 2 ∧ a.e = 7 then [(false, [])] else m.may }
def stepM (m : MM) (o : Stp) (a : Ans) : MM :=
  if a.refused = true then
    { baseM m o a with may := if 12 ≤ o.kind ∧ o.kind ≤ 14 then m.may ++ [(true, m.now)] else if o.kind = 1 then m.may ++ [(true, [])] else (baseM m o a).may }
  else if a.e = 0 then doneM m (baseM m o a) o a else baseM m o a
/-- The program's model behind an answer. -/
def refusedP (m : MM) (o : Stp) : MM :=
  if o.kind = 1 then { m with may := m.may ++ [(true, [])] } else
  if o.kind = 12 ∨ o.kind = 13 ∨ o.kind = 14 then { m with may := m.may ++ [(true, m.now)] } else m
def doneP (m : MM) (o : Stp) (a : Ans) : MM :=
  if o.kind = 1 then { m with may := [(true, [])] } else
  if o.kind = 2 then { m with opn := true, now := a.files, may := [(true, a.files)] } else
  if o.kind = 3 then { m with now := withK Prod.fst m.now o.name (o.name, o.data) } else
  if o.kind = 4 then { m with streaming := true, name := o.name, data := [] } else
  if o.kind = 5 then { m with data := m.data ++ o.data } else
  if o.kind = 6 then { m with now := withK Prod.fst m.now m.name (m.name, m.data), streaming := false } else
  if o.kind = 7 then { m with streaming := false } else
  if o.kind = 11 then { m with now := withoutK Prod.fst m.now o.name } else
  if o.kind = 12 ∨ o.kind = 13 ∨ o.kind = 14 then { m with may := [(true, m.now)] } else m
def midP (m : MM) (o : Stp) (a : Ans) : MM :=
  if a.refused = true then refusedP m o else if a.e = 0 then doneP m o a else if a.e = 7 ∧ o.kind = 2 then { m with may := [(false, [])] } else m
def endP (m : MM) (a : Ans) (shut : Bool) : MM := if shut = true then { m with poisoned := a.poisoned, opn := false, streaming := false, now := [], data := [] } else { m with poisoned := a.poisoned }
def stepP (m : MM) (o : Stp) (a : Ans) : MM := endP (midP m o a) a (!openM m o a)
/-- Files as an archive has them. -/
def OkF (l : List Fil) : Prop := Asc Prod.fst l ∧ l.length ≤ 200
/-- The program's model p is the document's m. -/
structure RelM (p m : MM) : Prop where
  may : p.may = m.may
  opn : p.opn = m.opn
  poisoned : p.poisoned = m.poisoned
  streaming : p.streaming = m.streaming
  now : p.now = m.now
  text : m.streaming = true → p.name = m.name ∧ p.data = m.data ∧ m.data.length ≤ 65536 ∧ (hasF m.now m.name = true ∨ m.now.length < 200)
  shut : m.opn = false → m.streaming = false ∧ m.now = []
  okNow : OkF m.now
  okMay : ∀ x ∈ m.may, OkF x.2
/-- The model at its beginning. -/
def newM : MM := ⟨[(false, [])], false, false, false, [], [], []⟩
theorem okF_nil : OkF [] := ⟨trivial, by simp⟩
theorem relM_new : RelM newM newM := by
  refine ⟨rfl, rfl, rfl, rfl, rfl, fun h => ?_, fun _ => ⟨rfl, rfl⟩, okF_nil, fun x hx => ?_⟩
  · exact absurd h (by decide)
  · have : x = (false, []) := by simpa [newM] using hx
    subst this
    exact okF_nil
theorem okF_with {l : List Fil} (h : OkF l) (s d : List UInt8) (hl : hasF l s = true ∨ l.length < 200) : OkF (withK Prod.fst l s (s, d)) := by
  refine ⟨asc_with h.1 rfl, ?_⟩
  have hle := h.2
  cases hh : hasF l s with
  | true => rw [withK_has h.1 _ hh, List.length_set]; exact hle
  | false =>
    rw [withK_not h.1 _ hh]
    have := pos_le (k := Prod.fst) l s
    simp only [List.length_append, List.length_take, List.length_cons, List.length_drop]
    rw [hh] at hl
    rcases hl with hl | hl
    · cases hl
    · omega
theorem okF_without {l : List Fil} (h : OkF l) (s : List UInt8) : OkF (withoutK Prod.fst l s) := ⟨asc_without h.1 s, Nat.le_trans (List.length_filter_le _ _) h.2⟩
theorem canM_ok {m : MM} (h : ∀ x ∈ m.may, OkF x.2) {l : List Fil} (hc : canM m (true, l) = true) : OkF l := by
  unfold canM at hc
  rw [List.any_eq_true] at hc
  obtain ⟨x, hx, e⟩ := hc
  simp at e
  rw [← e.2]
  exact h x hx
/-- A step of an archive that must be open: it is. -/
theorem told_open {m : MM} {o : Stp} (h : toldM m o 0 = true) (hk : 3 ≤ o.kind ∧ o.kind ≤ 14) : m.opn = true ∧ insE m o = 0 := by
  unfold toldM at h
  rw [if_neg (by omega), if_neg (by omega), if_neg (by omega), if_neg (by omega), if_neg (by omega)] at h
  cases ho : m.opn with
  | false => rw [ho] at h; simp at h
  | true =>
    rw [ho] at h
    simp at h
    exact ⟨rfl, h.symm⟩
theorem putEr_zero {m : MM} {s : List UInt8} {z : Int} (h : putEr m s z = 0) : m.streaming = false ∧ okName s = true ∧ z ≤ 65536 ∧ (hasF m.now s = true ∨ m.now.length < 200) := by
  unfold putEr at h
  split at h
  · cases h
  · rename_i h1
    split at h
    · cases h
    · split at h
      · cases h
      · rename_i h2
        split at h
        · cases h
        · rename_i h3
          split at h
          · cases h
          · rename_i h4
            refine ⟨by simpa using h1, by simpa using h2, by omega, ?_⟩
            cases hh : hasF m.now s with
            | true => exact .inl rfl
            | false => exact .inr (by
                rcases Nat.lt_or_ge m.now.length 200 with hl | hl
                · exact hl
                · exact absurd ⟨hh, hl⟩ h4)
theorem may_first {m : MM} {o : Stp} {a : Ans} (h : mayM m o a = true) : firstM m o a = true ∧ secondM m o a = true := by
  unfold mayM at h
  simp only [Bool.and_eq_true] at h
  exact ⟨h.2.1, h.2.2.1⟩
theorem ins_rel {p m : MM} (r : RelM p m) (o : Stp) : insE p o = insE m o := by
  unfold insE putEr
  rw [r.streaming, r.poisoned, r.now]
  cases hs : m.streaming with
  | false => simp
  | true => rw [(r.text hs).2.1]
theorem told_rel {p m : MM} (r : RelM p m) (o : Stp) (e : Int) : toldM p o e = toldM m o e := by
  unfold toldM someM
  rw [ins_rel r, r.may, r.opn]
theorem open_rel {p m : MM} (r : RelM p m) (o : Stp) (a : Ans) : openM p o a = openM m o a := by unfold openM; rw [r.opn]
theorem may_rel {p m : MM} (r : RelM p m) (o : Stp) (a : Ans) : mayM p o a = mayM m o a := by
  unfold mayM alikeA plainM firstM secondM poisonM canM
  simp only [told_rel r, open_rel r, r.may, r.opn, r.poisoned, r.now]
/-- The ends of a step: the archive is open still, or not. -/
theorem rel_end {p m q n : MM} {a : Ans} {sh : Bool} (hmay : q.may = n.may) (hpo : n.poisoned = a.poisoned) (hst : sh = false → q.streaming = n.streaming ∧ q.now = n.now ∧ q.opn = n.opn ∧ n.opn = true) (hsh : sh = true → n.opn = false ∧ n.streaming = false ∧ n.now = [])
    (ht : n.streaming = true → q.name = n.name ∧ q.data = n.data ∧ n.data.length ≤ 65536 ∧ (hasF n.now n.name = true ∨ n.now.length < 200)) (hn : OkF n.now) (hm : ∀ x ∈ n.may, OkF x.2) : RelM (endP q a sh) n := by
  unfold endP
  cases sh with
  | false =>
    obtain ⟨h1, h2, h3, h4⟩ := hst rfl
    exact ⟨hmay, h3, hpo.symm, h1, h2, ht, fun h => (by rw [h4] at h; cases h), hn, hm⟩
  | true =>
    obtain ⟨h1, h2, h3⟩ := hsh rfl
    refine ⟨hmay, h1.symm, hpo.symm, h2.symm, h3.symm, fun h => ?_, fun _ => ⟨h2, h3⟩, hn, hm⟩
    rw [h2] at h; cases h
theorem rel_step {p m : MM} {o : Stp} {a : Ans} (r : RelM p m) (h : mayM m o a = true) : RelM (stepP p o a) (stepM m o a) := by
  obtain ⟨h1, h2⟩ := may_first h
  have hop := open_rel r o a
  have okn : OkF (if openM m o a = false then [] else m.now) := by
    split
    · exact okF_nil
    · exact r.okNow
  have base_shut : openM m o a = false → (baseM m o a).opn = false ∧ (baseM m o a).streaming = false ∧ (baseM m o a).now = [] := fun e => by
    unfold baseM
    rw [e]
    exact ⟨rfl, rfl, rfl⟩
  have base_open : openM m o a = true → (baseM m o a).opn = true ∧ (baseM m o a).streaming = m.streaming ∧ (baseM m o a).now = m.now := fun e => by
    unfold baseM
    rw [e]
    exact ⟨rfl, rfl, rfl⟩
  have base_text : (baseM m o a).streaming = true → p.name = (baseM m o a).name ∧ p.data = (baseM m o a).data ∧ (baseM m o a).data.length ≤ 65536 ∧ (hasF (baseM m o a).now (baseM m o a).name = true ∨ (baseM m o a).now.length < 200) := fun e => by
    cases ho : openM m o a with
    | false => rw [(base_shut ho).2.1] at e; cases e
    | true =>
      obtain ⟨_, b2, b3⟩ := base_open ho
      rw [b2] at e
      obtain ⟨t1, t2, t3, t4⟩ := r.text e
      exact ⟨t1, t2, t3, by rw [b3]; exact t4⟩
  have no_text : m.streaming = false → ∀ {A : Prop}, (baseM m o a).streaming = true → A := fun e A h => by
    have : (baseM m o a).streaming = false := by
      unfold baseM
      simp only [e]
      split <;> rfl
    rw [this] at h; cases h
  have snoc_ok : ∀ y : Bool × List Fil, OkF y.2 → ∀ x ∈ m.may ++ [y], OkF x.2 := fun y hy x hx => by
    rcases List.mem_append.1 hx with hx | hx
    · exact r.okMay x hx
    · rw [List.mem_singleton] at hx
      subst hx
      exact hy
  have one_ok : ∀ y : Bool × List Fil, OkF y.2 → ∀ x ∈ [y], OkF x.2 := fun y hy x hx => by
    rw [List.mem_singleton] at hx
    subst hx
    exact hy
  -- an open archive stays open where the step is none of the three that may shut it
  have stay : m.opn = true → o.kind ≠ 2 → o.kind ≠ 18 → o.kind ≠ 14 → openM m o a = true := fun ho k2 k18 k14 => by
    unfold openM
    rw [if_neg (fun h => k2 h.1), if_neg (by rintro (h | h); exact k18 h; exact k14 h.1)]
    exact ho
  have open_of : openM m o a = true → ¬ (o.kind = 2 ∧ a.e = 0) → m.opn = true := fun e hn => by
    unfold openM at e
    rw [if_neg hn] at e
    split at e
    · cases e
    · exact e
  unfold stepP
  rw [hop]
  unfold stepM midP
  cases hr : a.refused with
  | true =>
    simp only [if_true]
    unfold firstM at h1
    rw [hr] at h1
    simp only [if_true, Bool.and_eq_true, Bool.or_eq_true, beq_iff_eq] at h1
    obtain ⟨⟨hc, ht⟩, he⟩ := h1
    have hk : (1 ≤ o.kind ∧ o.kind ≤ 6) ∨ (11 ≤ o.kind ∧ o.kind ≤ 14) := by unfold callsM at hc; exact of_decide_eq_true hc
    have hbm : (baseM m o a).may = m.may := by
      unfold baseM
      simp only
      rw [if_neg (by omega)]
    have hmay : (refusedP p o).may = (if 12 ≤ o.kind ∧ o.kind ≤ 14 then m.may ++ [(true, m.now)] else if o.kind = 1 then m.may ++ [(true, [])] else (baseM m o a).may) := by
      unfold refusedP
      by_cases k1 : o.kind = 1
      · rw [if_pos k1, if_neg (by omega), if_pos k1, r.may]
      · by_cases k2 : o.kind = 12 ∨ o.kind = 13 ∨ o.kind = 14
        · rw [if_neg k1, if_pos k2, if_pos (by omega), r.may, r.now]
        · rw [if_neg k1, if_neg k2, if_neg (by omega), if_neg k1, hbm, r.may]
    have hsame : (refusedP p o).streaming = p.streaming ∧ (refusedP p o).now = p.now ∧ (refusedP p o).opn = p.opn ∧ (refusedP p o).name = p.name ∧ (refusedP p o).data = p.data := by
      unfold refusedP
      split
      · exact ⟨rfl, rfl, rfl, rfl, rfl⟩
      · split <;> exact ⟨rfl, rfl, rfl, rfl, rfl⟩
    obtain ⟨s1, s2, s3, s4, s5⟩ := hsame
    refine rel_end (p := p) (m := m) hmay rfl (fun e => ?_) (fun e => ?_) (fun e => ?_) okn ?_
    · have e' : openM m o a = true := by simpa using e
      obtain ⟨b1, b2, b3⟩ := base_open e'
      refine ⟨?_, ?_, ?_, b1⟩
      · rw [s1, r.streaming]; exact b2.symm
      · rw [s2, r.now]; exact b3.symm
      · rw [s3, r.opn, open_of e' (by omega)]; exact b1.symm
    · exact base_shut (by simpa using e)
    · rw [s4, s5]; exact base_text e
    · simp only
      split
      · exact snoc_ok _ r.okNow
      · split
        · exact snoc_ok _ okF_nil
        · rw [hbm]; exact r.okMay
  | false =>
    simp only [Bool.false_eq_true, if_false]
    unfold firstM at h1
    rw [hr] at h1
    simp only [Bool.false_eq_true, if_false] at h1
    by_cases he : a.e = 0
    · rw [if_pos he, if_pos he]
      rw [he] at h1
      have hbm : (baseM m o a).may = m.may := by
        unfold baseM
        simp only
        rw [if_neg (by omega)]
      unfold doneP doneM
      by_cases k1 : o.kind = 1
      · rw [if_pos k1, if_pos k1]
        refine rel_end (p := p) (m := m) rfl rfl (fun e => ?_) (fun e => base_shut (by simpa using e)) base_text okn (one_ok _ okF_nil)
        have e' : openM m o a = true := by simpa using e
        obtain ⟨b1, b2, b3⟩ := base_open e'
        exact ⟨r.streaming.trans b2.symm, r.now.trans b3.symm, by rw [r.opn, open_of e' (by omega)]; exact b1.symm, b1⟩
      rw [if_neg k1, if_neg k1]
      by_cases k2 : o.kind = 2
      · rw [if_pos k2, if_pos k2]
        have ho : openM m o a = true := by unfold openM; rw [if_pos ⟨k2, he⟩]
        obtain ⟨b1, b2, b3⟩ := base_open ho
        have hcan : canM m (true, a.files) = true := by
          unfold secondM at h2
          rw [if_pos ⟨hr, he, .inl k2⟩] at h2
          exact h2
        have hok := canM_ok r.okMay hcan
        have hns : m.streaming = false := by
          refine (r.shut ?_).1
          cases hmo : m.opn with
          | false => rfl
          | true =>
            unfold toldM at h1
            rw [if_neg (by omega), if_neg (by omega), if_neg (by omega), if_pos ⟨k2, hmo⟩] at h1
            cases h1
        exact rel_end (p := p) (m := m) rfl rfl (fun e => ⟨r.streaming.trans b2.symm, rfl, b1.symm, b1⟩) (fun e => by rw [ho] at e; cases e) (no_text hns) hok (one_ok _ hok)
      rw [if_neg k2, if_neg k2]
      by_cases kin : 3 ≤ o.kind ∧ o.kind ≤ 14
      · obtain ⟨mo, hi⟩ := told_open h1 kin
        by_cases k14 : o.kind = 12 ∨ o.kind = 13 ∨ o.kind = 14
        · rw [if_neg (by omega), if_neg (by omega), if_neg (by omega), if_neg (by omega), if_neg (by omega), if_neg (by omega), if_pos k14, if_neg (by omega), if_neg (by omega), if_neg (by omega), if_neg (by omega), if_neg (by omega), if_neg (by omega), if_pos k14]
          refine rel_end (p := p) (m := m) (by rw [← r.now]) rfl (fun e => ?_) (fun e => base_shut (by simpa using e)) base_text okn (one_ok _ r.okNow)
          have e' : openM m o a = true := by simpa using e
          obtain ⟨b1, b2, b3⟩ := base_open e'
          exact ⟨r.streaming.trans b2.symm, r.now.trans b3.symm, by rw [r.opn, mo]; exact b1.symm, b1⟩
        have ho : openM m o a = true := stay mo k2 (by omega) (by omega)
        obtain ⟨b1, b2, b3⟩ := base_open ho
        have nsh : ∀ {A : Prop}, (!openM m o a) = true → A := fun e => by rw [ho] at e; cases e
        have po : p.opn = (baseM m o a).opn := by rw [r.opn, mo, b1]
        have ps : p.streaming = (baseM m o a).streaming := r.streaming.trans b2.symm
        have pn : p.now = (baseM m o a).now := r.now.trans b3.symm
        have okb : OkF (baseM m o a).now := by rw [b3]; exact r.okNow
        have okm : ∀ x ∈ (baseM m o a).may, OkF x.2 := by rw [hbm]; exact r.okMay
        have pm : p.may = (baseM m o a).may := by rw [hbm]; exact r.may
        unfold insE at hi
        by_cases k3 : o.kind = 3
        · rw [if_pos k3] at hi
          obtain ⟨hns, _, _, hl⟩ := putEr_zero hi
          rw [if_pos k3, if_pos k3]
          exact rel_end (p := p) (m := m) pm rfl (fun _ => ⟨ps, by rw [← r.now], po, b1⟩) nsh (no_text hns) (okF_with r.okNow _ _ hl) okm
        rw [if_neg k3] at hi
        rw [if_neg k3, if_neg k3]
        by_cases k4 : o.kind = 4
        · rw [if_pos k4] at hi
          obtain ⟨_, _, _, hl⟩ := putEr_zero hi
          rw [if_pos k4, if_pos k4]
          exact rel_end (p := p) (m := m) pm rfl (fun _ => ⟨rfl, pn, po, b1⟩) nsh (fun _ => ⟨rfl, rfl, by simp, by simpa only [b3] using hl⟩) okb okm
        rw [if_neg k4] at hi
        rw [if_neg k4, if_neg k4]
        by_cases k5 : o.kind = 5
        · rw [if_pos (.inl k5)] at hi
          have hst : m.streaming = true := by
            cases hs : m.streaming with
            | true => rfl
            | false => rw [hs] at hi; simp at hi
          rw [if_neg (by rw [hst]; decide)] at hi
          have hle : (o.data.length : Int) ≤ 65536 - m.data.length := by
            split at hi
            · cases hi
            · rename_i hh
              omega
          obtain ⟨t1, t2, t3, t4⟩ := r.text hst
          rw [if_pos k5, if_pos k5]
          exact rel_end (p := p) (m := m) pm rfl (fun _ => ⟨ps, pn, po, b1⟩) nsh (fun _ => ⟨t1, by rw [← t2], by simp only [List.length_append]; omega, by
            show hasF (baseM m o a).now m.name = true ∨ (baseM m o a).now.length < 200
            rw [b3]; exact t4⟩) okb okm
        rw [if_neg k5, if_neg k5]
        by_cases k6 : o.kind = 6
        · rw [if_pos (.inr (.inl k6))] at hi
          have hst : m.streaming = true := by
            cases hs : m.streaming with
            | true => rfl
            | false => rw [hs] at hi; simp at hi
          obtain ⟨t1, t2, t3, t4⟩ := r.text hst
          rw [if_pos k6, if_pos k6]
          exact rel_end (p := p) (m := m) pm rfl (fun _ => ⟨rfl, by rw [t1, t2, r.now], po, b1⟩) nsh (fun e => by cases e) (okF_with r.okNow _ _ t4) okm
        rw [if_neg k6, if_neg k6]
        by_cases k7 : o.kind = 7
        · rw [if_pos k7, if_pos k7]
          exact rel_end (p := p) (m := m) pm rfl (fun _ => ⟨rfl, pn, po, b1⟩) nsh (fun e => by cases e) okb okm
        rw [if_neg k7, if_neg k7]
        by_cases k11 : o.kind = 11
        · have hns : m.streaming = false := by
            cases hs : m.streaming with
            | false => rfl
            | true =>
              rw [if_neg (by omega), if_neg (by omega), if_pos ⟨by omega, hs⟩] at hi
              cases hi
          rw [if_pos k11, if_pos k11]
          exact rel_end (p := p) (m := m) pm rfl (fun _ => ⟨ps, by rw [← r.now], po, b1⟩) nsh (no_text hns) (okF_without r.okNow _) okm
        rw [if_neg k11, if_neg k11, if_neg k14, if_neg k14]
        exact rel_end (p := p) (m := m) pm rfl (fun _ => ⟨ps, pn, po, b1⟩) nsh base_text okb okm
      · rw [if_neg (by omega), if_neg (by omega), if_neg (by omega), if_neg (by omega), if_neg (by omega), if_neg (by omega), if_neg (by omega), if_neg (by omega), if_neg (by omega), if_neg (by omega), if_neg (by omega), if_neg (by omega), if_neg (by omega), if_neg (by omega)]
        refine rel_end (p := p) (m := m) (by rw [hbm]; exact r.may) rfl (fun e => ?_) (fun e => base_shut (by simpa using e)) base_text okn (by rw [hbm]; exact r.okMay)
        have e' : openM m o a = true := by simpa using e
        obtain ⟨b1, b2, b3⟩ := base_open e'
        exact ⟨r.streaming.trans b2.symm, r.now.trans b3.symm, by rw [r.opn, open_of e' (by omega)]; exact b1.symm, b1⟩
    · rw [if_neg he, if_neg he]
      by_cases h7 : a.e = 7 ∧ o.kind = 2
      · rw [if_pos h7]
        have hbm : (baseM m o a).may = [(false, [])] := by
          unfold baseM
          simp only
          rw [if_pos ⟨h7.2, h7.1⟩]
        refine rel_end (p := p) (m := m) (by rw [hbm]) rfl (fun e => ?_) (fun e => base_shut (by simpa using e)) base_text okn (by rw [hbm]; exact one_ok _ okF_nil)
        have e' : openM m o a = true := by simpa using e
        obtain ⟨b1, b2, b3⟩ := base_open e'
        exact ⟨r.streaming.trans b2.symm, r.now.trans b3.symm, by rw [r.opn, open_of e' (by omega)]; exact b1.symm, b1⟩
      · rw [if_neg h7]
        have hbm : (baseM m o a).may = m.may := by
          unfold baseM
          simp only
          rw [if_neg (by omega)]
        refine rel_end (p := p) (m := m) (by rw [hbm]; exact r.may) rfl (fun e => ?_) (fun e => base_shut (by simpa using e)) base_text okn (by rw [hbm]; exact r.okMay)
        have e' : openM m o a = true := by simpa using e
        obtain ⟨b1, b2, b3⟩ := base_open e'
        exact ⟨r.streaming.trans b2.symm, r.now.trans b3.symm, by rw [r.opn, open_of e' (by omega)]; exact b1.symm, b1⟩
end Go.SX

set_option linter.unusedSimpArgs false
set_option linter.unusedVariables false
namespace Go.SX
open Go
/-! ### Rows of records, of one size each -/
section
variable {β : Type} {C : β → List Value} {k : Nat}
theorem RowsAt.kp {S : Nat → Prop} {w w' : World} {q : Option Addr} {l : List β} (h : RowsAt w k C q l) (hk : Kp S w w') (hs : 0 < l.length → ∀ a, q = some a → ¬ S a.block) : RowsAt w' k C q l := fun i hi => by
  obtain ⟨a, e, hc⟩ := h i hi
  exact ⟨a, e, fun j u hu => hk.cell (hc j u hu) (by rw [add_block, add_block]; exact hs (by omega) a e)⟩
theorem RowsAt.kp0 {w w' : World} {q : Option Addr} {l : List β} (h : RowsAt w k C q l) (hk : Kp none_ w w') : RowsAt w' k C q l := h.kp hk fun _ _ _ => id
/-- A row that lies in blocks of Q. -/
def RwIn (w : World) (Q : Nat → Prop) (k : Nat) (C : β → List Value) (q : Option Addr) (l : List β) : Prop := RowsAt w k C q l ∧ (0 < l.length → ∀ a, q = some a → Q a.block)
theorem RowsAt.lt {w : World} {q : Option Addr} {l : List β} (h : RowsAt w k C q l) (hC : ∀ b, (C b).length = k) (h0 : 0 < k) (hl : 0 < l.length) : ∀ a, q = some a → a.block < w.heap.size := fun a e => by
  obtain ⟨a', e', hc⟩ := h 0 hl
  rw [e] at e'
  cases e'
  have hz : 0 < (C l[0]).length := by rw [hC]; exact h0
  have := cell_lt (hc 0 _ (List.getElem?_eq_getElem hz))
  rwa [add_block, add_block] at this
theorem RwIn.kp {S Q Q' : Nat → Prop} {w w' : World} {q : Option Addr} {l : List β} (h : RwIn w Q k C q l) (hC : ∀ b, (C b).length = k) (h0 : 0 < k) (hk : Kp S w w') (hs : ∀ i, i < w.heap.size → Q i → ¬ S i ∧ Q' i) : RwIn w' Q' k C q l :=
  ⟨h.1.kp hk fun hl a e => (hs _ (h.1.lt hC h0 hl a e) (h.2 hl a e)).1, fun hl a e => (hs _ (h.1.lt hC h0 hl a e) (h.2 hl a e)).2⟩
theorem RwIn.nil (w : World) (Q : Nat → Prop) (q : Option Addr) : RwIn w Q k C q [] := ⟨fun i hi => by simp at hi, fun h => by simp at h⟩
end
/-! ### Some cells of a block -/
/-- From o on, block b holds vs, and may be written there. -/
def Cs (w : World) (b o : Nat) (vs : List Value) : Prop := ∀ j v, vs[j]? = some v → w.cell? ⟨b, o + j, none⟩ = some v ∧ w.frozen? ⟨b, o + j, none⟩ = false
/-- All other cells of b are as they were. -/
def Nb (b o n : Nat) (w w' : World) : Prop := ∀ j, (j < o ∨ o + n ≤ j) → w'.cell? ⟨b, j, none⟩ = w.cell? ⟨b, j, none⟩
theorem Nb.refl (b o n : Nat) (w : World) : Nb b o n w w := fun _ _ => rfl
theorem Nb.trans {b o n : Nat} {w w' w'' : World} (h : Nb b o n w w') (k : Nb b o n w' w'') : Nb b o n w w'' := fun j hj => (k j hj).trans (h j hj)
theorem Cs.slot {w : World} {b o : Nat} {vs : List Value} (h : Cs w b o vs) (j : Nat) (hj : j < vs.length) : (∃ v, w.cell? ⟨b, o + j, none⟩ = some v) ∧ w.frozen? ⟨b, o + j, none⟩ = false := ⟨⟨_, (h j _ (List.getElem?_eq_getElem hj)).1⟩, (h j _ (List.getElem?_eq_getElem hj)).2⟩
theorem Cs.lt {w : World} {b o : Nat} {vs : List Value} (h : Cs w b o vs) (hl : 0 < vs.length) : b < w.heap.size := cell_lt (h 0 _ (List.getElem?_eq_getElem hl)).1
theorem Cs.kp {S : Nat → Prop} {w w' : World} {b o : Nat} {vs : List Value} (h : Cs w b o vs) (k : Kp S w w') (hs : ¬ S b) : Cs w' b o vs := fun j v hv => by
  obtain ⟨h1, h2⟩ := h j v hv
  exact ⟨k.cell h1 hs, (k.frz _ (cell_lt h1)).trans h2⟩
theorem Cs.kp0 {w w' : World} {b o : Nat} {vs : List Value} (h : Cs w b o vs) (k : Kp none_ w w') : Cs w' b o vs := h.kp k id
theorem Cs.set {w : World} {b o : Nat} {vs : List Value} (h : Cs w b o vs) (i : Nat) (u : Value) : Cs (w.setCell ⟨b, o + i, none⟩ u) b o (vs.set i u) := fun j v hv => by
  have hjl : j < vs.length := by have := (List.getElem?_eq_some_iff.1 hv).1; simpa using this
  obtain ⟨h1, h2⟩ := h j _ (List.getElem?_eq_getElem hjl)
  refine ⟨?_, by rw [frozen_set]; exact h2⟩
  by_cases hij : i = j
  · subst hij
    rw [List.getElem?_set_self hjl] at hv
    cases hv
    exact cell_set_same _ h1
  · rw [List.getElem?_set_ne hij] at hv
    rw [cell_set_off _ (by omega)]
    rw [List.getElem?_eq_getElem hjl] at hv
    cases hv
    exact h1
theorem Nb.set (w : World) {b o n i : Nat} (hi : i < n) (u : Value) : Nb b o n w (w.setCell ⟨b, o + i, none⟩ u) := fun j hj => cell_set_off _ (by omega)
theorem Big.cs {w : World} {b : Nat} {e : TypeId} {cs : List Value} (h : Big w b e cs) : Cs w b 0 cs := fun j v hv => by
  rw [Nat.zero_add]
  exact ⟨by rw [h.cell]; exact hv, h.frz j⟩
/-- Cells behind a change of neighbours. -/
theorem Cs.nb {S : Nat → Prop} {w w' : World} {b o n o' : Nat} {vs : List Value} (h : Cs w b o' vs) (k : Kp S w w') (nb : Nb b o n w w') (hd : o' + vs.length ≤ o ∨ o + n ≤ o') : Cs w' b o' vs := fun j v hv => by
  have hjl : j < vs.length := (List.getElem?_eq_some_iff.1 hv).1
  obtain ⟨h1, h2⟩ := h j v hv
  exact ⟨(nb _ (by omega)).trans h1, (k.frz _ (cell_lt h1)).trans h2⟩
end Go.SX

