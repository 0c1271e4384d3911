/- Names: the law's calls of both directories. -/
import Derived.Test.YtlgkcbdpaffigaaCj
import Derived.Test.YtlgkcbdpaffigaaVnb
namespace Go.Proofs.Ytlgkcbdpaffigaa
open Go Go.SX Go.Proofs
set_option maxRecDepth 100000
set_option linter.unusedVariables false
set_option linter.unusedSimpArgs false
structure Opx where
  k : Int
  a : List UInt8
  b : List UInt8
  n : Int
def opC (x : Opx) : List Value := [.int .i64 x.k, .string (ba x.a), .string (ba x.b), .int .i64 x.n]
def opV (x : Opx) : Value := .agg #[.int .i64 x.k, .string (ba x.a), .string (ba x.b), .int .i64 x.n]
/-- Both directories, as one: what is safe, what waits. -/
def stepX (st : List Ent × List Chg) (x : Opx) : List Ent × List Chg :=
  if x.k = 0 then (if createE (lastE st.1 st.2) x.a = 0 then (st.1, st.2 ++ [⟨[], x.a, x.n⟩]) else st) else
  if x.k = 1 then (if renameE (lastE st.1 st.2) x.a x.b = 0 then (st.1, st.2 ++ [⟨x.a, x.b, 0⟩]) else st) else
  if x.k = 2 then (if removeE (lastE st.1 st.2) x.a = 0 then (st.1, st.2 ++ [⟨x.a, [], 0⟩]) else st) else
  if x.k = 3 then (lastE st.1 st.2, []) else (lastE st.1 (st.2.take x.n.toNat), [])
theorem named_ne {s : List UInt8} (h : named s = true) : s ≠ [] := fun e => by
  subst e
  simp [named] at h
theorem named_len {s : List UInt8} (h : named s = true) : 1 ≤ s.length ∧ s.length ≤ 100 := of_decide_eq_true h
theorem create_ok {l : List Ent} (h : WfE l) {a : List UInt8} (hc : createE l a = 0) (id : Int) : okC l ⟨[], a, id⟩ ∧ with5 l a id = doL l ⟨[], a, id⟩ := by
  unfold createE at hc
  split at hc
  · cases hc
  · split at hc
    · cases hc
    · split at hc
      · cases hc
      · rename_i h1 h2 h3
        have hn : named a = true := by simpa using h1
        have hh : has Prod.fst l a = false := by simpa using h2
        refine ⟨.inl ⟨rfl, named_len hn, hh, by show l.length < 16; omega⟩, ?_⟩
        rw [with5_eq h.asc]
        unfold doL
        rw [if_neg (named_ne hn)]
        have e1 : withoutK Prod.fst l [] = l := without_none h.no_empty
        have e2 : lookE l [] = none := by
          have := look_has (l := l) (s := [])
          rw [h.no_empty] at this
          cases hl : lookE l [] with
          | none => rfl
          | some _ => rw [hl] at this; cases this
        rw [e1, e2]
        rfl
theorem rename_ok {l : List Ent} (h : WfE l) {a b : List UInt8} (hc : renameE l a b = 0) : okC l ⟨a, b, 0⟩ ∧ with5 (withoutK Prod.fst l a) b ((lookE l a).getD 0) = doL l ⟨a, b, 0⟩ := by
  unfold renameE at hc
  split at hc
  · cases hc
  · split at hc
    · cases hc
    · rename_i h1 h2
      have hn : named b = true := by simpa using h1
      have hh : has Prod.fst l a = true := by simpa using h2
      refine ⟨.inr ⟨hh, .inr (named_len hn)⟩, ?_⟩
      rw [with5_eq (asc_without h.asc a)]
      unfold doL
      rw [if_neg (named_ne hn)]
theorem remove_ok {l : List Ent} {a : List UInt8} (hc : removeE l a = 0) : okC l ⟨a, [], 0⟩ ∧ withoutK Prod.fst l a = doL l ⟨a, [], 0⟩ := by
  unfold removeE at hc
  split at hc
  · cases hc
  · rename_i h1
    exact ⟨.inr ⟨by simpa using h1, .inl rfl⟩, by unfold doL; rw [if_pos rfl]⟩
/-- What all was, and is. -/
structure Hst (S : List Ent) (ws : List Chg) (H : List (List Ent)) (N : List Ent) : Prop where
  wf : WfE S
  ok : okCs S ws
  all : H ++ [N] = sts S ws
theorem Hst.len {S : List Ent} {ws : List Chg} {H : List (List Ent)} {N : List Ent} (h : Hst S ws H N) : H.length = ws.length := by
  have := congrArg List.length h.all
  rw [sts_len] at this
  simpa using this
theorem Hst.last {S : List Ent} {ws : List Chg} {H : List (List Ent)} {N : List Ent} (h : Hst S ws H N) : N = lastE S ws := by
  have h1 := sts_get S ws ws.length (Nat.le_refl _)
  rw [← h.all, List.take_length, ← h.len, List.getElem?_append_right (Nat.le_refl _)] at h1
  simpa using h1
theorem Hst.wfN {S : List Ent} {ws : List Chg} {H : List (List Ent)} {N : List Ent} (h : Hst S ws H N) : WfE N := by
  rw [h.last]; exact wf_last h.wf h.ok
theorem Hst.wfH {S : List Ent} {ws : List Chg} {H : List (List Ent)} {N : List Ent} (h : Hst S ws H N) : ∀ l ∈ H, WfE l := fun l hl => by
  obtain ⟨i, hi, e⟩ := List.getElem_of_mem hl
  have h1 := sts_get S ws i (by rw [← h.len]; omega)
  rw [← h.all, List.getElem?_append_left hi, List.getElem?_eq_getElem hi, e] at h1
  rw [Option.some.inj h1]
  exact wf_last h.wf (okCs_take h.ok i)
theorem Hst.snoc {S : List Ent} {ws : List Chg} {H : List (List Ent)} {N : List Ent} (h : Hst S ws H N) {c : Chg} (hc : okC N c) : Hst S (ws ++ [c]) (H ++ [N]) (doL N c) :=
  ⟨h.wf, okCs_snoc.2 ⟨h.ok, by rw [← h.last]; exact hc⟩, by rw [h.all, sts_snoc, h.last]⟩
theorem Hst.sync {S : List Ent} {ws : List Chg} {H : List (List Ent)} {N : List Ent} (h : Hst S ws H N) : Hst (lastE S ws) [] [] N := ⟨wf_last h.wf h.ok, trivial, by rw [h.last]; rfl⟩
theorem Hst.crash {S : List Ent} {ws : List Chg} {H : List (List Ent)} {N : List Ent} (h : Hst S ws H N) (n : Int) : Hst (lastE S (ws.take n.toNat)) [] [] (crashN H N n) := by
  refine ⟨wf_last h.wf (okCs_take h.ok _), trivial, ?_⟩
  have : crashN H N n = lastE S (ws.take n.toNat) := by
    unfold crashN
    by_cases hn : n.toNat < H.length
    · have h1 := sts_get S ws n.toNat (by rw [← h.len]; omega)
      rw [← h.all, List.getElem?_append_left hn] at h1
      rw [h1]; rfl
    · rw [List.getElem?_eq_none (by omega), List.take_of_length_le (by rw [← h.len]; omega)]
      exact h.last
  rw [this]
  rfl
/-- Nothing has been. -/
theorem RD.clear {w : World} {O : Nat → Prop} {b o : Nat} {H : List (List Ent)} {N : List Ent} (h : RD w O b o H N) : (∃ v, w.cell? ⟨b, o + 1, none⟩ = some v) ∧ w.frozen? ⟨b, o + 1, none⟩ = false ∧ RD (w.setCell ⟨b, o + 1, none⟩ (.slice none 0 0)) O b o [] N ∧ Kp O w (w.setCell ⟨b, o + 1, none⟩ (.slice none 0 0)) ∧ O b := by
  obtain ⟨qn, cn, vp, own, ps, h1, h2, h3, h4, h5, h6, h7⟩ := h
  have hb := h1.lt (by simp)
  obtain ⟨g1, g2⟩ := h1.slot 1 (by simp)
  exact ⟨g1, g2, ⟨qn, cn, .slice none 0 0, fun _ => False, [], by simpa using h1.set 1 (.slice none 0 0), h2, fun _ h => h.elim, h4.kp entC_len (by omega) (kp_set _ _ _ _) fun i _ hi => ⟨hi.2.1, hi.1, hi.2.1, id⟩, rfl, OwnRow.nil _ _ _ _, fun p hp => by cases hp⟩, (kp_set _ _ _ _).mono fun i _ hi => by have hi : i = b := hi; rw [hi]; exact h2, h2⟩
/-- Both directories in memory. -/
def Two (w : World) (Q : Nat → Prop) (bd bm : Nat) (st : List Ent × List Chg) : Prop :=
  ∃ (Od Om : Nat → Prop) (H : List (List Ent)) (N : List Ent), DR w Od bd 0 st.1 st.2 ∧ RD w Om bm 0 H N ∧ (∀ i, Od i → ¬ Om i) ∧ (∀ i, Od i ∨ Om i → Q i ∧ i < w.heap.size) ∧ Hst st.1 st.2 H N
theorem Two.kp {S' Q Q' : Nat → Prop} {w w' : World} {bd bm : Nat} {st : List Ent × List Chg} (h : Two w Q bd bm st) (k : Kp S' w w') (hs : ∀ i, i < w.heap.size → Q i → ¬ S' i ∧ Q' i) : Two w' Q' bd bm st := by
  obtain ⟨Od, Om, H, N, h1, h2, h3, h4, h5⟩ := h
  exact ⟨Od, Om, H, N, h1.kp k fun i hl hi => ⟨(hs i hl (h4 i (.inl hi)).1).1, hi⟩, h2.kp k fun i hl hi => ⟨(hs i hl (h4 i (.inr hi)).1).1, hi⟩, h3, fun i hi => ⟨(hs i (h4 i hi).2 (h4 i hi).1).2, Nat.lt_of_lt_of_le (h4 i hi).2 k.size⟩, h5⟩
theorem Two.kp0 {Q : Nat → Prop} {w w' : World} {bd bm : Nat} {st : List Ent × List Chg} (h : Two w Q bd bm st) (k : Kp none_ w w') : Two w' Q bd bm st := h.kp k fun i _ hi => ⟨id, hi⟩
theorem c37 {w : World} {Q : Nat → Prop} {bd bm : Nat} {st : List Ent × List Chg} (h : Two w Q bd bm st) (hl : st.2.length ≤ 100000) (x : Opx) : Rets Try.prog 37 #[ptA bd 0, ptA bm 0, opV x] w fun v w' =>
    v = .bool true ∧ Two w' (fun i => Q i ∨ w.heap.size ≤ i) bd bm (stepX st x) ∧ Kp (fun i => Q i ∧ i < w.heap.size) w w' := by
  refine ent [_, _, _] Try.func37 ((vcTry37 _ _ _ _ _ _ w _).mpr ?_)
  unfold VCTry37
  have ka : Kp none_ w (w.alloc (.cells #[.int .i64 x.k, .string (ba x.a), .string (ba x.b), .int .i64 x.n] 88)) := (Kp.refl none_ _).alloc1 _
  have za : (w.alloc (.cells #[.int .i64 x.k, .string (ba x.a), .string (ba x.b), .int .i64 x.n] 88)).heap.size = w.heap.size + 1 := alloc_size _ _
  have Ba : Big (w.alloc (.cells #[.int .i64 x.k, .string (ba x.a), .string (ba x.b), .int .i64 x.n] 88)) w.heap.size 88 (opC x) := Big.new _ _ 88
  generalize w.alloc (.cells #[.int .i64 x.k, .string (ba x.a), .string (ba x.b), .int .i64 x.n] 88) = W at *
  obtain ⟨S, ws⟩ := st
  obtain ⟨Od, Om, H, N, h1, h2, h3, h4, h5⟩ := h
  have hd : ∀ i, Od i → i < w.heap.size := fun i hi => (h4 i (.inl hi)).2
  have hm : ∀ i, Om i → i < w.heap.size := fun i hi => (h4 i (.inr hi)).2
  have eN := h5.last
  have wN := h5.wfN
  have hNl : N.length ≤ 1000000 := by have := wN.len; omega
  have hHl : H.length ≤ 1000000 := by rw [h5.len]; show ws.length ≤ _; have : ws.length ≤ 100000 := hl; omega
  have hwl : ws.length ≤ 1000000 := by have : ws.length ≤ 100000 := hl; omega
  have ascN : Asc Prod.fst (lastE S ws) := by rw [← eN]; exact wN.asc
  have D1 := h1.kp0 ka
  have R1 := h2.kp0 ka
  -- the end: both have gone on
  have fin : ∀ {w1 w2 : World} {S' : List Ent} {ws' : List Chg} {H' : List (List Ent)} {N' : List Ent}, DR w1 (fun i => Od i ∨ W.heap.size ≤ i) bd 0 S' ws' → Kp Od W w1 → RD w2 (fun i => Om i ∨ w1.heap.size ≤ i) bm 0 H' N' → Kp Om w1 w2 → Hst S' ws' H' N' → Two w2 (fun i => Q i ∨ w.heap.size ≤ i) bd bm (S', ws') ∧ Kp (fun i => Q i ∧ i < w.heap.size) w w2 := fun {w1 w2 S' ws' H' N'} d1 k1 r2 k2 hh => by
    have z1 := k1.size
    have z2 := k2.size
    refine ⟨⟨fun i => (Od i ∨ W.heap.size ≤ i) ∧ i < w1.heap.size, fun i => (Om i ∨ w1.heap.size ≤ i) ∧ i < w2.heap.size, H', N', ?_, r2.mono fun i hil hi => ⟨hi, hil⟩, ?_, ?_, hh⟩, ?_⟩
    · refine d1.kp k2 fun i hil hi => ⟨fun ho => ?_, hi, hil⟩
      rcases hi with hi | hi
      · exact h3 i hi ho
      · have := hm i ho; omega
    · rintro i ⟨hi, hil⟩ ⟨ho, _⟩
      rcases hi with hi | hi
      · rcases ho with ho | ho
        · exact h3 i hi ho
        · omega
      · rcases ho with ho | ho
        · have := hm i ho; omega
        · omega
    · rintro i (⟨hi, hil⟩ | ⟨hi, hil⟩)
      · rcases hi with hi | hi
        · exact ⟨.inl (h4 i (.inl hi)).1, by omega⟩
        · exact ⟨.inr (by omega), by omega⟩
      · rcases hi with hi | hi
        · exact ⟨.inl (h4 i (.inr hi)).1, by omega⟩
        · exact ⟨.inr (by omega), by omega⟩
    · exact (ka.wide.trans (k1.mono fun i _ hi => h4 i (.inl hi))).trans (k2.mono fun i _ hi => h4 i (.inr hi))
  have out : ∀ (i : Nat), i = w.heap.size → ¬ Od i ∧ ¬ Om i := fun i e => ⟨fun h => by have := hd i h; omega, fun h => by have := hm i h; omega⟩
  have keepD : ∀ {w1 w2 : World}, W.heap.size ≤ w1.heap.size → Kp Od w1 w2 → Keeps w1 w2 [w.heap.size] := fun hz k => k.keeps fun i hi => by
    rw [List.mem_singleton] at hi
    subst hi
    exact ⟨by omega, (out _ rfl).1⟩
  have keepM : ∀ {w1 w2 : World}, W.heap.size ≤ w1.heap.size → Kp Om w1 w2 → Keeps w1 w2 [w.heap.size] := fun hz k => k.keeps fun i hi => by
    rw [List.mem_singleton] at hi
    subst hi
    exact ⟨by omega, (out _ rfl).2⟩
  have keepE : ∀ {w1 : World}, Kp Od W w1 → Keeps W.drew w1 [w.heap.size] := fun k => keepD (w1 := W.drew) (Nat.le_refl _) ⟨k.os, k.tape, k.out, k.frz, k.size, k.same⟩
  have hOm : ∀ {w1 : World}, W.heap.size ≤ w1.heap.size → ∀ i, Om i → i < w1.heap.size := fun hz i hi => by have := hm i hi; omega
  have Rk : ∀ {w1 : World}, Kp Od W w1 → RD w1 Om bm 0 H N := fun k => R1.kp k fun i _ hi => ⟨fun ho => h3 i ho hi, hi⟩
  have cell : ∀ {w1 : World} (j : Nat) (v : Value), Kp Od W w1 → (opC x)[j]? = some v → w1.cell? ⟨w.heap.size, j, none⟩ = some v := fun j v k hv => k.cell (by rw [Ba.cell]; exact hv) (out _ rfl).1
  have fin1 : ∀ {w1 w2 : World} {E : Int} {c : Chg} {N' : List Ent}, DStep W Od bd 0 S ws w1 E c → RStep w1 Om bm 0 H N w2 E N' → (E = 0 → okC N c ∧ N' = doL N c) → Two w2 (fun i => Q i ∨ w.heap.size ≤ i) bd bm (if E = 0 then (S, ws ++ [c]) else (S, ws)) ∧ Kp (fun i => Q i ∧ i < w.heap.size) w w2 := fun {w1 w2 E c N'} d r hh => by
    obtain ⟨d1, d2, _⟩ := d
    obtain ⟨r1, r2, _⟩ := r
    by_cases hE : E = 0
    · subst hE
      rw [if_pos rfl] at d1 r1 ⊢
      rw [if_pos rfl] at r1
      obtain ⟨g1, g2⟩ := hh rfl
      rw [g2] at r1
      exact fin d1 d2 r1 r2 (h5.snoc g1)
    · rw [if_neg hE] at d1 r1 ⊢
      rw [if_neg hE] at r1
      exact fin d1 d2 r1 r2 h5
  have kdW : Kp none_ W W.drew := Kp.drew1
  have ofd : ∀ {w1 : World} {E : Int} {c : Chg}, DStep W.drew Od bd 0 S ws w1 E c → DStep W Od bd 0 S ws w1 E c := fun h => ⟨h.1, Kp.of_drew h.2.1, h.2.2⟩
  refine bif_eq (fun hk _ => ?_) (fun hk0 => bif_eq (fun hk _ => ?_) (fun hk1 => bif_eq (fun hk _ => ?_) (fun hk2 => bif_eq (fun hk _ => ?_) (fun hk3 _ => ?_))))
  · refine (c47 (D1.kp0 kdW) hwl ascN x.a x.n).mono ?_
    rw [← eN]
    rintro v w1 ⟨rfl, d⟩
    rw [eN] at d
    have d := ofd d
    rw [← eN] at d
    have k1 := d.2.1
    have z1 := k1.size
    refine ⟨_, rfl, keepE k1, cell 3 _ k1 rfl, cell 1 _ k1 rfl, fun _ => (c78 (Rk k1) (hOm z1) hHl hNl x.a x.n).mono ?_⟩
    rintro v w2 ⟨rfl, r⟩
    refine ⟨_, rfl, keepM z1 r.2.1, fun _ => ⟨_, rfl, by simp, ?_⟩⟩
    have := fin1 d r fun hE => create_ok wN hE x.n
    unfold stepX
    rw [if_pos hk]
    simp only
    rw [← eN]
    exact this
  · refine (c43 (D1.kp0 kdW) hwl ascN x.a x.b).mono ?_
    rw [← eN]
    rintro v w1 ⟨rfl, d⟩
    rw [eN] at d
    have d := ofd d
    rw [← eN] at d
    have k1 := d.2.1
    have z1 := k1.size
    refine ⟨_, rfl, keepE k1, cell 2 _ k1 rfl, cell 1 _ k1 rfl, fun _ => (c79 (Rk k1) (hOm z1) hHl hNl (asc_nk wN.asc) x.a x.b).mono ?_⟩
    rintro v w2 ⟨rfl, r⟩
    refine ⟨_, rfl, keepM z1 r.2.1, fun _ => ⟨_, rfl, by simp, ?_⟩⟩
    have := fin1 d r fun hE => rename_ok wN hE
    unfold stepX
    rw [if_neg hk0, if_pos hk]
    simp only
    rw [← eN]
    exact this
  · refine (c48 (D1.kp0 kdW) hwl ascN x.a).mono ?_
    rw [← eN]
    rintro v w1 ⟨rfl, d⟩
    rw [eN] at d
    have d := ofd d
    rw [← eN] at d
    have k1 := d.2.1
    have z1 := k1.size
    refine ⟨_, rfl, keepE k1, cell 1 _ k1 rfl, fun _ => (c80 (Rk k1) (hOm z1) hHl hNl x.a).mono ?_⟩
    rintro v w2 ⟨rfl, r⟩
    refine ⟨_, rfl, keepM z1 r.2.1, fun _ => ⟨_, rfl, by simp, ?_⟩⟩
    have := fin1 d r fun hE => remove_ok hE
    unfold stepX
    rw [if_neg hk0, if_neg hk1, if_pos hk]
    simp only
    rw [← eN]
    exact this
  · refine (c38 D1).mono ?_
    rintro v w1 ⟨rfl, d, k1, _⟩
    have z1 := k1.size
    obtain ⟨g1, g2, r2, k2, hb⟩ := (Rk k1).clear
    simp only [ptr_some, ad3, Nat.add_zero]
    rw [Nat.zero_add] at g1 g2 r2 k2
    refine ⟨trivial, keepD (Nat.le_refl _) k1, g1, g2, .inl fun e => by have e : bm = w.heap.size := e; have := hm _ hb; omega, fun _ => ⟨_, rfl, rfl, ?_⟩⟩
    unfold stepX
    rw [if_neg hk0, if_neg hk1, if_neg hk2, if_pos hk]
    exact fin d k1 (r2.mono fun i _ hi => .inl hi) k2 h5.sync
  · refine (c40 D1 (fun i hi => by have := hd i hi; omega) h5.wf h5.ok hwl x.n).mono ?_
    rintro v w1 ⟨rfl, d, k1, _⟩
    have z1 := k1.size
    refine ⟨rfl, keepD (Nat.le_refl _) k1, fun _ => (c81 (Rk k1) x.n).mono ?_⟩
    rintro v w2 ⟨rfl, r2, k2, _⟩
    refine ⟨rfl, keepM z1 k2, fun _ => ⟨_, rfl, rfl, ?_⟩⟩
    unfold stepX
    rw [if_neg hk0, if_neg hk1, if_neg hk2, if_neg hk3]
    exact fin d k1 (r2.mono fun i _ hi => .inl hi) k2 (h5.crash x.n)
end Go.Proofs.Ytlgkcbdpaffigaa
