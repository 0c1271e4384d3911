/- Law05 'NamesCrash', walked. -/
import Derived.Test.YtlgkcbdpaffigaaCn
import Derived.Test.YtlgkcbdpaffigaaVne
namespace Go.Proofs.Ytlgkcbdpaffigaa
open Go Go.SX Go.Proofs
set_option maxRecDepth 100000
set_option linter.unusedVariables false
set_option linter.unusedSimpArgs false
/-- The document's list is what the program's is; what was, is not asked for. -/
structure Hs (L : Nat) (S : List Ent) (ws : List Chg) (H : List (List Ent)) (N : List Ent) : Prop where
  wf : WfE S
  ok : okCs S ws
  last : N = lastE S ws
  len : H.length ≤ L
theorem Hs.wfN {L : Nat} {S : List Ent} {ws : List Chg} {H : List (List Ent)} {N : List Ent} (h : Hs L S ws H N) : WfE N := by
  rw [h.last]; exact wf_last h.wf h.ok
theorem Hs.snoc {L : Nat} {S : List Ent} {ws : List Chg} {H : List (List Ent)} {N : List Ent} (h : Hs L S ws H N) {c : Chg} (hc : okC N c) : Hs (L + 1) S (ws ++ [c]) (H ++ [N]) (doL N c) :=
  ⟨h.wf, okCs_snoc.2 ⟨h.ok, by rw [← h.last]; exact hc⟩, by rw [last_snoc, h.last], by have := h.len; simp; omega⟩
theorem Hs.up {L : Nat} {S : List Ent} {ws : List Chg} {H : List (List Ent)} {N : List Ent} (h : Hs L S ws H N) : Hs (L + 1) S ws H N := ⟨h.wf, h.ok, h.last, by have := h.len; omega⟩
def TwoR (L : Nat) (st : List Ent × List Chg) (w : World) (Q : Nat → Prop) (bd bm : Nat) : Prop :=
  ∃ (Od Om : Nat → Prop) (H : List (List Ent)) (N : List Ent), DR w Od bd 0 st.1 st.2 ∧ RD w Om bm 0 H N ∧ (∀ i, Od i → ¬ Om i) ∧ (∀ i, Od i ∨ Om i → Q i ∧ i < w.heap.size) ∧ Hs L st.1 st.2 H N
def Two2 (st : List Ent × List Chg) (w : World) (Q : Nat → Prop) (bd bm : Nat) : Prop := Two w Q bd bm st
structure Tk (T : World → (Nat → Prop) → Nat → Nat → Prop) : Prop where
  kp : ∀ {S' Q Q' : Nat → Prop} {w w' : World} {bd bm : Nat}, T w Q bd bm → Kp S' w w' → (∀ i, i < w.heap.size → Q i → ¬ S' i ∧ Q' i) → T w' Q' bd bm
  mem : ∀ {Q : Nat → Prop} {w : World} {bd bm : Nat}, T w Q bd bm → Q bd ∧ Q bm
theorem tk2 (st : List Ent × List Chg) : Tk (Two2 st) := ⟨fun h k hs => Two.kp h k hs, fun h => by
  obtain ⟨Od, Om, H, N, h1, h2, h3, h4, h5⟩ := h
  exact ⟨(h4 _ (.inl h1.lt.2)).1, (h4 _ (.inr h2.lt.2)).1⟩⟩
theorem tkr (L : Nat) (st : List Ent × List Chg) : Tk (TwoR L st) := ⟨fun h k hs => by
  obtain ⟨Od, Om, H, N, h1, h2, h3, h4, h5⟩ := h
  exact ⟨Od, Om, H, N, h1.kp k fun i hl hi => ⟨(hs i hl (h4 i (.inl hi)).1).1, hi⟩, h2.kp k fun i hl hi => ⟨(hs i hl (h4 i (.inr hi)).1).1, hi⟩, h3, fun i hi => ⟨(hs i (h4 i hi).2 (h4 i hi).1).2, Nat.lt_of_lt_of_le (h4 i hi).2 k.size⟩, h5⟩, fun h => by
  obtain ⟨Od, Om, H, N, h1, h2, h3, h4, h5⟩ := h
  exact ⟨(h4 _ (.inl h1.lt.2)).1, (h4 _ (.inr h2.lt.2)).1⟩⟩
theorem c37r {w : World} {Q : Nat → Prop} {bd bm L : Nat} {st : List Ent × List Chg} (h : TwoR L st w Q bd bm) (hL : L ≤ 100000) (hl : st.2.length ≤ 100000) (x : Opx) (hx : 0 ≤ x.k ∧ x.k ≤ 2) : Rets Try.prog 37 #[ptA bd 0, ptA bm 0, opV x] w fun v w' =>
    v = .bool true ∧ TwoR (L + 1) (stepX st x) w' (fun i => Q i ∨ w.heap.size ≤ i) bd bm ∧ Kp (fun i => Q i ∧ i < w.heap.size) w w' := by
  refine ent [_, _, _] Try.func37 ((vcTry37 _ _ _ _ _ _ w _).mpr ?_)
  unfold VCTry37
  have ka : Kp none_ w (w.alloc (.cells #[.int .i64 x.k, .string (ba x.a), .string (ba x.b), .int .i64 x.n] 88)) := (Kp.refl none_ _).alloc1 _
  have za : (w.alloc (.cells #[.int .i64 x.k, .string (ba x.a), .string (ba x.b), .int .i64 x.n] 88)).heap.size = w.heap.size + 1 := alloc_size _ _
  have Ba : Big (w.alloc (.cells #[.int .i64 x.k, .string (ba x.a), .string (ba x.b), .int .i64 x.n] 88)) w.heap.size 88 (opC x) := Big.new _ _ 88
  generalize w.alloc (.cells #[.int .i64 x.k, .string (ba x.a), .string (ba x.b), .int .i64 x.n] 88) = W at *
  obtain ⟨S, ws⟩ := st
  obtain ⟨Od, Om, H, N, h1, h2, h3, h4, h5⟩ := h
  have hd : ∀ i, Od i → i < w.heap.size := fun i hi => (h4 i (.inl hi)).2
  have hm : ∀ i, Om i → i < w.heap.size := fun i hi => (h4 i (.inr hi)).2
  have eN := h5.last
  have wN := h5.wfN
  have hNl : N.length ≤ 1000000 := by have := wN.len; omega
  have hHl : H.length ≤ 1000000 := by have := h5.len; omega
  have hwl : ws.length ≤ 1000000 := by have : ws.length ≤ 100000 := hl; omega
  have ascN : Asc Prod.fst (lastE S ws) := by rw [← eN]; exact wN.asc
  have D1 := h1.kp0 ka
  have R1 := h2.kp0 ka
  -- the end: both have gone on
  have fin : ∀ {w1 w2 : World} {S' : List Ent} {ws' : List Chg} {H' : List (List Ent)} {N' : List Ent}, DR w1 (fun i => Od i ∨ W.heap.size ≤ i) bd 0 S' ws' → Kp Od W w1 → RD w2 (fun i => Om i ∨ w1.heap.size ≤ i) bm 0 H' N' → Kp Om w1 w2 → Hs (L + 1) S' ws' H' N' → TwoR (L + 1) (S', ws') w2 (fun i => Q i ∨ w.heap.size ≤ i) bd bm ∧ Kp (fun i => Q i ∧ i < w.heap.size) w w2 := fun {w1 w2 S' ws' H' N'} d1 k1 r2 k2 hh => by
    have z1 := k1.size
    have z2 := k2.size
    refine ⟨⟨fun i => (Od i ∨ W.heap.size ≤ i) ∧ i < w1.heap.size, fun i => (Om i ∨ w1.heap.size ≤ i) ∧ i < w2.heap.size, H', N', ?_, r2.mono fun i hil hi => ⟨hi, hil⟩, ?_, ?_, hh⟩, ?_⟩
    · refine d1.kp k2 fun i hil hi => ⟨fun ho => ?_, hi, hil⟩
      rcases hi with hi | hi
      · exact h3 i hi ho
      · have := hm i ho; omega
    · rintro i ⟨hi, hil⟩ ⟨ho, _⟩
      rcases hi with hi | hi
      · rcases ho with ho | ho
        · exact h3 i hi ho
        · omega
      · rcases ho with ho | ho
        · have := hm i ho; omega
        · omega
    · rintro i (⟨hi, hil⟩ | ⟨hi, hil⟩)
      · rcases hi with hi | hi
        · exact ⟨.inl (h4 i (.inl hi)).1, by omega⟩
        · exact ⟨.inr (by omega), by omega⟩
      · rcases hi with hi | hi
        · exact ⟨.inl (h4 i (.inr hi)).1, by omega⟩
        · exact ⟨.inr (by omega), by omega⟩
    · exact (ka.wide.trans (k1.mono fun i _ hi => h4 i (.inl hi))).trans (k2.mono fun i _ hi => h4 i (.inr hi))
  have out : ∀ (i : Nat), i = w.heap.size → ¬ Od i ∧ ¬ Om i := fun i e => ⟨fun h => by have := hd i h; omega, fun h => by have := hm i h; omega⟩
  have keepD : ∀ {w1 w2 : World}, W.heap.size ≤ w1.heap.size → Kp Od w1 w2 → Keeps w1 w2 [w.heap.size] := fun hz k => k.keeps fun i hi => by
    rw [List.mem_singleton] at hi
    subst hi
    exact ⟨by omega, (out _ rfl).1⟩
  have keepM : ∀ {w1 w2 : World}, W.heap.size ≤ w1.heap.size → Kp Om w1 w2 → Keeps w1 w2 [w.heap.size] := fun hz k => k.keeps fun i hi => by
    rw [List.mem_singleton] at hi
    subst hi
    exact ⟨by omega, (out _ rfl).2⟩
  have keepE : ∀ {w1 : World}, Kp Od W w1 → Keeps W.drew w1 [w.heap.size] := fun k => keepD (w1 := W.drew) (Nat.le_refl _) ⟨k.os, k.tape, k.out, k.frz, k.size, k.same⟩
  have hOm : ∀ {w1 : World}, W.heap.size ≤ w1.heap.size → ∀ i, Om i → i < w1.heap.size := fun hz i hi => by have := hm i hi; omega
  have Rk : ∀ {w1 : World}, Kp Od W w1 → RD w1 Om bm 0 H N := fun k => R1.kp k fun i _ hi => ⟨fun ho => h3 i ho hi, hi⟩
  have cell : ∀ {w1 : World} (j : Nat) (v : Value), Kp Od W w1 → (opC x)[j]? = some v → w1.cell? ⟨w.heap.size, j, none⟩ = some v := fun j v k hv => k.cell (by rw [Ba.cell]; exact hv) (out _ rfl).1
  have fin1 : ∀ {w1 w2 : World} {E : Int} {c : Chg} {N' : List Ent}, DStep W Od bd 0 S ws w1 E c → RStep w1 Om bm 0 H N w2 E N' → (E = 0 → okC N c ∧ N' = doL N c) → TwoR (L + 1) (if E = 0 then (S, ws ++ [c]) else (S, ws)) w2 (fun i => Q i ∨ w.heap.size ≤ i) bd bm ∧ Kp (fun i => Q i ∧ i < w.heap.size) w w2 := fun {w1 w2 E c N'} d r hh => by
    obtain ⟨d1, d2, _⟩ := d
    obtain ⟨r1, r2, _⟩ := r
    by_cases hE : E = 0
    · subst hE
      rw [if_pos rfl] at d1 r1 ⊢
      rw [if_pos rfl] at r1
      obtain ⟨g1, g2⟩ := hh rfl
      rw [g2] at r1
      exact fin d1 d2 r1 r2 (h5.snoc g1)
    · rw [if_neg hE] at d1 r1 ⊢
      rw [if_neg hE] at r1
      exact fin d1 d2 r1 r2 h5.up
  have kdW : Kp none_ W W.drew := Kp.drew1
  have ofd : ∀ {w1 : World} {E : Int} {c : Chg}, DStep W.drew Od bd 0 S ws w1 E c → DStep W Od bd 0 S ws w1 E c := fun h => ⟨h.1, Kp.of_drew h.2.1, h.2.2⟩
  refine bif_eq (fun hk _ => ?_) (fun hk0 => bif_eq (fun hk _ => ?_) (fun hk1 => bif_eq (fun hk _ => ?_) (fun hk2 => bif_eq (fun hk _ => ?_) (fun hk3 _ => ?_))))
  · refine (c47 (D1.kp0 kdW) hwl ascN x.a x.n).mono ?_
    rw [← eN]
    rintro v w1 ⟨rfl, d⟩
    rw [eN] at d
    have d := ofd d
    rw [← eN] at d
    have k1 := d.2.1
    have z1 := k1.size
    refine ⟨_, rfl, keepE k1, cell 3 _ k1 rfl, cell 1 _ k1 rfl, fun _ => (c78 (Rk k1) (hOm z1) hHl hNl x.a x.n).mono ?_⟩
    rintro v w2 ⟨rfl, r⟩
    refine ⟨_, rfl, keepM z1 r.2.1, fun _ => ⟨_, rfl, by simp, ?_⟩⟩
    have := fin1 d r fun hE => create_ok wN hE x.n
    unfold stepX
    rw [if_pos hk]
    simp only
    rw [← eN]
    exact this
  · refine (c43 (D1.kp0 kdW) hwl ascN x.a x.b).mono ?_
    rw [← eN]
    rintro v w1 ⟨rfl, d⟩
    rw [eN] at d
    have d := ofd d
    rw [← eN] at d
    have k1 := d.2.1
    have z1 := k1.size
    refine ⟨_, rfl, keepE k1, cell 2 _ k1 rfl, cell 1 _ k1 rfl, fun _ => (c79 (Rk k1) (hOm z1) hHl hNl (asc_nk wN.asc) x.a x.b).mono ?_⟩
    rintro v w2 ⟨rfl, r⟩
    refine ⟨_, rfl, keepM z1 r.2.1, fun _ => ⟨_, rfl, by simp, ?_⟩⟩
    have := fin1 d r fun hE => rename_ok wN hE
    unfold stepX
    rw [if_neg hk0, if_pos hk]
    simp only
    rw [← eN]
    exact this
  · refine (c48 (D1.kp0 kdW) hwl ascN x.a).mono ?_
    rw [← eN]
    rintro v w1 ⟨rfl, d⟩
    rw [eN] at d
    have d := ofd d
    rw [← eN] at d
    have k1 := d.2.1
    have z1 := k1.size
    refine ⟨_, rfl, keepE k1, cell 1 _ k1 rfl, fun _ => (c80 (Rk k1) (hOm z1) hHl hNl x.a).mono ?_⟩
    rintro v w2 ⟨rfl, r⟩
    refine ⟨_, rfl, keepM z1 r.2.1, fun _ => ⟨_, rfl, by simp, ?_⟩⟩
    have := fin1 d r fun hE => remove_ok hE
    unfold stepX
    rw [if_neg hk0, if_neg hk1, if_pos hk]
    simp only
    rw [← eN]
    exact this
  · omega
  · omega
theorem TwoR.opn {L : Nat} {w : World} {Q : Nat → Prop} {bd bm : Nat} {st : List Ent × List Chg} (h : TwoR L st w Q bd bm) : ∃ (Od Om : Nat → Prop) (H : List (List Ent)) (N : List Ent), DR w Od bd 0 st.1 st.2 ∧ RD w Om bm 0 H N ∧ Hs L st.1 st.2 H N := by
  obtain ⟨Od, Om, H, N, h1, h2, h3, h4, h5⟩ := h
  exact ⟨Od, Om, H, N, h1, h2, h5⟩
/-- What is safe, is. -/
theorem c38T {w : World} {Q : Nat → Prop} {bd bm : Nat} {st : List Ent × List Chg} (h : Two2 st w Q bd bm) {L : Nat} (hL : st.2.length ≤ L) : Rets Try.prog 38 #[ptA bd 0] w fun v w' => v = .tuple #[] ∧ TwoR L (lastE st.1 st.2, []) w' (fun i => Q i ∨ w.heap.size ≤ i) bd bm ∧ Kp (fun i => (Q i ∧ i < w.heap.size) ∧ i ≠ bm) w w' := by
  obtain ⟨Od, Om, H, N, h1, h2, h3, h4, h5⟩ := h
  refine (c38 h1).mono ?_
  rintro v w' ⟨rfl, d, k, _⟩
  have z := k.size
  refine ⟨rfl, ⟨fun i => (Od i ∨ w.heap.size ≤ i) ∧ i < w'.heap.size, Om, H, N, d.mono fun i hl hi => ⟨hi, hl⟩, h2.kp k fun i hl hi => ⟨fun ho => h3 i ho hi, hi⟩, ?_, ?_, ⟨wf_last h5.wf h5.ok, trivial, by rw [h5.last]; rfl, by rw [h5.len]; exact hL⟩⟩, k.mono fun i _ hi => ⟨h4 i (.inl hi), fun e => h3 i hi (by rw [e]; exact h2.lt.2)⟩⟩
  · rintro i ⟨hi | hi, hl⟩ ho
    · exact h3 i hi ho
    · have := (h4 i (.inr ho)).2; omega
  · rintro i (⟨hi | hi, hl⟩ | hi)
    · exact ⟨.inl (h4 i (.inl hi)).1, hl⟩
    · exact ⟨.inr hi, hl⟩
    · exact ⟨.inl (h4 i (.inr hi)).1, by have := (h4 i (.inr hi)).2; omega⟩
/-- Two pairs of directories. -/
def Four (T1 T2 : World → (Nat → Prop) → Nat → Nat → Prop) (w : World) (s : Nat) (F : Nat → Prop) : Prop :=
  ∃ Q1 Q2 : Nat → Prop, T1 w Q1 s (s + 1 + 1) ∧ T2 w Q2 (s + 1) (s + 1 + 1 + 1) ∧ (∀ i, Q1 i → ¬ Q2 i) ∧ ∀ i, Q1 i ∨ Q2 i → s ≤ i ∧ i < w.heap.size ∧ ¬ F i
theorem four1 {T1 T2 : World → (Nat → Prop) → Nat → Nat → Prop} (k1 : Tk T1) (k2 : Tk T2) {w : World} {s : Nat} {F : Nat → Prop} (h : Four T1 T2 w s F) (hF : ∀ i, F i → i < w.heap.size) :
    ∃ Q : Nat → Prop, T1 w Q s (s + 1 + 1) ∧ (∀ i, Q i → s ≤ i ∧ i < w.heap.size ∧ ¬ F i) ∧ ¬ Q (s + 1) ∧ ¬ Q (s + 1 + 1 + 1) ∧ s + 1 + 1 + 1 < w.heap.size ∧
      ∀ {T1' : World → (Nat → Prop) → Nat → Nat → Prop} {w' : World}, T1' w' (fun i => Q i ∨ w.heap.size ≤ i) s (s + 1 + 1) → Tk T1' → Kp (fun i => Q i ∧ i < w.heap.size) w w' → Four T1' T2 w' s F := by
  obtain ⟨Q1, Q2, t1, t2, d, b⟩ := h
  obtain ⟨m1, m2⟩ := k2.mem t2
  refine ⟨Q1, t1, fun i hi => b i (.inl hi), fun h => d _ h m1, fun h => d _ h m2, (b _ (.inr m2)).2.1, ?_⟩
  intro T1' w' t1' kt k
  have z := k.size
  refine ⟨fun i => (Q1 i ∨ w.heap.size ≤ i) ∧ i < w'.heap.size, Q2, kt.kp t1' (Kp.refl none_ _) fun i hl hi => ⟨id, hi, hl⟩, k2.kp t2 k fun i hl hi => ⟨fun hh => d i hh.1 hi, hi⟩, ?_, ?_⟩
  · rintro i ⟨hi | hi, hl⟩ h2
    · exact d i hi h2
    · have := (b i (.inr h2)).2.1; omega
  · rintro i (⟨hi | hi, hl⟩ | hi)
    · have := b i (.inl hi); exact ⟨this.1, hl, this.2.2⟩
    · have := (b _ (.inr m2)).2.1
      have := (b _ (.inr m2)).1
      exact ⟨by omega, hl, fun hf => by have := hF i hf; omega⟩
    · have := b i (.inr hi); exact ⟨this.1, by omega, this.2.2⟩
theorem four2 {T1 T2 : World → (Nat → Prop) → Nat → Nat → Prop} (k1 : Tk T1) (k2 : Tk T2) {w : World} {s : Nat} {F : Nat → Prop} (h : Four T1 T2 w s F) (hF : ∀ i, F i → i < w.heap.size) :
    ∃ Q : Nat → Prop, T2 w Q (s + 1) (s + 1 + 1 + 1) ∧ (∀ i, Q i → s ≤ i ∧ i < w.heap.size ∧ ¬ F i) ∧ ¬ Q s ∧ ¬ Q (s + 1 + 1) ∧ s + 1 + 1 + 1 < w.heap.size ∧
      ∀ {T2' : World → (Nat → Prop) → Nat → Nat → Prop} {w' : World}, T2' w' (fun i => Q i ∨ w.heap.size ≤ i) (s + 1) (s + 1 + 1 + 1) → Tk T2' → Kp (fun i => Q i ∧ i < w.heap.size) w w' → Four T1 T2' w' s F := by
  obtain ⟨Q1, Q2, t1, t2, d, b⟩ := h
  obtain ⟨m1, m2⟩ := k1.mem t1
  obtain ⟨n1, n2⟩ := k2.mem t2
  refine ⟨Q2, t2, fun i hi => b i (.inr hi), fun h => d _ m1 h, fun h => d _ m2 h, (b _ (.inr n2)).2.1, ?_⟩
  intro T2' w' t2' kt k
  have z := k.size
  refine ⟨Q1, fun i => (Q2 i ∨ w.heap.size ≤ i) ∧ i < w'.heap.size, k1.kp t1 k fun i hl hi => ⟨fun hh => d i hi hh.1, hi⟩, kt.kp t2' (Kp.refl none_ _) fun i hl hi => ⟨id, hi, hl⟩, ?_, ?_⟩
  · rintro i h1 ⟨hi | hi, hl⟩
    · exact d i h1 hi
    · have := (b i (.inl h1)).2.1; omega
  · rintro i (hi | ⟨hi | hi, hl⟩)
    · have := b i (.inl hi); exact ⟨this.1, by omega, this.2.2⟩
    · have := b i (.inr hi); exact ⟨this.1, hl, this.2.2⟩
    · have := (b _ (.inr n2)).2.1
      exact ⟨by omega, hl, fun hf => by have := hF i hf; omega⟩
theorem Four.frame {T1 T2 : World → (Nat → Prop) → Nat → Nat → Prop} (k1 : Tk T1) (k2 : Tk T2) {w w' : World} {s : Nat} {F F' : Nat → Prop} (h : Four T1 T2 w s F) (k : Kp none_ w w') (hF : ∀ i, F' i → F i ∨ w.heap.size ≤ i) : Four T1 T2 w' s F' := by
  obtain ⟨Q1, Q2, t1, t2, d, b⟩ := h
  have z := k.size
  refine ⟨Q1, Q2, k1.kp t1 k fun i _ hi => ⟨id, hi⟩, k2.kp t2 k fun i _ hi => ⟨id, hi⟩, d, fun i hi => ⟨(b i hi).1, by have := (b i hi).2.1; omega, fun hf => ?_⟩⟩
  rcases hF i hf with h | h
  · exact (b i hi).2.2 h
  · have := (b i hi).2.1; omega
/-- The program's two directories. -/
theorem Four.flat {L : Nat} {st : List Ent × List Chg} {w : World} {s : Nat} {F : Nat → Prop} (h : Four (TwoR L st) (TwoR L st) w s F) : ∃ Od Oe : Nat → Prop, DR w Od s 0 st.1 st.2 ∧ DR w Oe (s + 1) 0 st.1 st.2 ∧ (∀ i, Od i → ¬ Oe i) ∧ (∀ i, Od i ∨ Oe i → s ≤ i ∧ i < w.heap.size ∧ ¬ F i ∧ i ≠ s + 1 + 1 ∧ i ≠ s + 1 + 1 + 1) ∧ s + 1 + 1 + 1 < w.heap.size ∧ WfE st.1 ∧ okCs st.1 st.2 := by
  obtain ⟨Q1, Q2, t1, t2, d, b⟩ := h
  obtain ⟨Od, Om, H, N, h1, h2, h3, h4, h5⟩ := t1
  obtain ⟨Oe, On, H', N', g1, g2, g3, g4, g5⟩ := t2
  have m2 := (h4 _ (.inr h2.lt.2)).1
  have n2 := (g4 _ (.inr g2.lt.2)).1
  refine ⟨Od, Oe, h1, g1, fun i hi hj => d i (h4 i (.inl hi)).1 (g4 i (.inl hj)).1, ?_, (b _ (.inr n2)).2.1, h5.wf, h5.ok⟩
  rintro i (hi | hi)
  · have q := (h4 i (.inl hi)).1
    have := b i (.inl q)
    exact ⟨this.1, this.2.1, this.2.2, fun e => h3 i hi (by rw [e]; exact h2.lt.2), fun e => d i q (by rw [e]; exact n2)⟩
  · have q := (g4 i (.inl hi)).1
    have := b i (.inr q)
    exact ⟨this.1, this.2.1, this.2.2, fun e => d i (by rw [e]; exact m2) q, fun e => g3 i hi (by rw [e]; exact g2.lt.2)⟩
def w4z (w : World) : World := (((w.alloc (.cells #[.map none, .map none, .slice none 0 0] 79)).alloc (.cells #[.map none, .map none, .slice none 0 0] 79)).alloc (.cells #[.slice none 0 0, .slice none 0 0] 83)).alloc (.cells #[.slice none 0 0, .slice none 0 0] 83)
theorem w4z_def (w : World) : (((w.alloc (.cells #[.map none, .map none, .slice none 0 0] 79)).alloc (.cells #[.map none, .map none, .slice none 0 0] 79)).alloc (.cells #[.slice none 0 0, .slice none 0 0] 83)).alloc (.cells #[.slice none 0 0, .slice none 0 0] 83) = w4z w := rfl
theorem alloc_kz (w : World) (cs : Array Value) (e : TypeId) : Kp none_ w (w.alloc (.cells cs e)) ∧ (w.alloc (.cells cs e)).heap.size = w.heap.size + 1 ∧ Big (w.alloc (.cells cs e)) w.heap.size e cs.toList := ⟨(Kp.refl none_ _).alloc1 _, alloc_size _ _, Big.new _ _ _⟩
theorem w4z_ok (w : World) : Four (Two2 ([], [])) (Two2 ([], [])) (w4z w) w.heap.size none_ ∧ Kp none_ w (w4z w) := by
  unfold w4z
  obtain ⟨ka, za, Ba⟩ := alloc_kz w #[.map none, .map none, .slice none 0 0] 79
  generalize w.alloc (.cells #[.map none, .map none, .slice none 0 0] 79) = A at *
  obtain ⟨kb, zb, Bb⟩ := alloc_kz A #[.map none, .map none, .slice none 0 0] 79
  generalize A.alloc (.cells #[.map none, .map none, .slice none 0 0] 79) = B at *
  obtain ⟨kc, zc, Bc⟩ := alloc_kz B #[.slice none 0 0, .slice none 0 0] 83
  generalize B.alloc (.cells #[.slice none 0 0, .slice none 0 0] 83) = C at *
  obtain ⟨kd, zd, Bd⟩ := alloc_kz C #[.slice none 0 0, .slice none 0 0] 83
  generalize C.alloc (.cells #[.slice none 0 0, .slice none 0 0] 83) = D at *
  have d1 : DR D (fun i => i = w.heap.size) w.heap.size 0 [] [] := (((DR.zero (cs_big Ba) (fun i => i = w.heap.size) rfl).kp0 kb).kp0 kc).kp0 kd
  have d2 : DR D (fun i => i = A.heap.size) A.heap.size 0 [] [] := ((DR.zero (cs_big Bb) (fun i => i = A.heap.size) rfl).kp0 kc).kp0 kd
  have r1 : RD D (fun i => i = B.heap.size) B.heap.size 0 [] [] := (RD.zero (cs_big Bc) (fun i => i = B.heap.size) rfl).kp0 kd
  have r2 : RD D (fun i => i = C.heap.size) C.heap.size 0 [] [] := RD.zero (cs_big Bd) (fun i => i = C.heap.size) rfl
  rw [zc, zb, za] at r2
  rw [zb, za] at r1
  rw [za] at d2
  have zD : D.heap.size = w.heap.size + 4 := by omega
  refine ⟨⟨fun i => i = w.heap.size ∨ i = w.heap.size + 1 + 1, fun i => i = w.heap.size + 1 ∨ i = w.heap.size + 1 + 1 + 1, ⟨_, _, [], [], d1, r1, fun i h1 h2 => by omega, fun i h => ⟨h, by omega⟩, wfE_nil, trivial, rfl⟩, ⟨_, _, [], [], d2, r2, fun i h1 h2 => by omega, fun i h => ⟨h, by omega⟩, wfE_nil, trivial, rfl⟩, fun i h1 h2 => by omega, fun i h => ⟨by omega, by omega, id⟩⟩, ((ka.trans kb).trans kc).trans kd⟩
theorem stepX_fst (st : List Ent × List Chg) (x : Opx) (hx : 0 ≤ x.k ∧ x.k ≤ 2) : (stepX st x).1 = st.1 := by
  unfold stepX
  repeat' split
  all_goals first | rfl | omega
theorem keepsL {S : Nat → Prop} {w w' : World} {bs : List Nat} (k : Kp S w w') (h : ∀ b ∈ bs, b < w.heap.size ∧ ¬ S b) : Keeps w w' bs := k.keeps h
theorem mem2 {P : Nat → Prop} {a b : Nat} (ha : P a) (hb : P b) : ∀ x ∈ [a, b], P x := fun x hx => by
  simp only [List.mem_cons, List.not_mem_nil, or_false] at hx
  rcases hx with rfl | rfl
  · exact ha
  · exact hb
theorem mem3 {P : Nat → Prop} {a b c : Nat} (ha : P a) (hb : P b) (hc : P c) : ∀ x ∈ [a, b, c], P x := fun x hx => by
  simp only [List.mem_cons, List.not_mem_nil, or_false] at hx
  rcases hx with rfl | rfl | rfl
  · exact ha
  · exact hb
  · exact hc
theorem mem4 {P : Nat → Prop} {a b c d : Nat} (ha : P a) (hb : P b) (hc : P c) (hd : P d) : ∀ x ∈ [a, b, c, d], P x := fun x hx => by
  simp only [List.mem_cons, List.not_mem_nil, or_false] at hx
  rcases hx with rfl | rfl | rfl | rfl
  · exact ha
  · exact hb
  · exact hc
  · exact hd
end Go.Proofs.Ytlgkcbdpaffigaa
