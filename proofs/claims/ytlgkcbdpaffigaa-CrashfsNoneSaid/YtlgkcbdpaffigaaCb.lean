/- Names: the document's directory. -/
import Derived.Test.YtlgkcbdpaffigaaCa
namespace Go.Proofs.Ytlgkcbdpaffigaa
open Go Go.SX Go.Proofs
set_option maxRecDepth 100000
set_option linter.unusedVariables false
set_option linter.unusedSimpArgs false
/-- A list that was, and where it lies. -/
structure Px where
  l : List Ent
  q : Option Addr
  c : Nat
def pxC (p : Px) : List Value := [.slice p.q p.l.length p.c]
theorem pxC_len (p : Px) : (pxC p).length = 1 := rfl
theorem pxC_one (p : Px) : ∀ u ∈ pxC p, u.oneCell' = true := fun u hu => by
  simp only [pxC, List.mem_cons, List.not_mem_nil, or_false] at hu
  subst hu
  simp [Value.oneCell']
theorem elem80 : elemOk Try.prog 80 1 = true := by kernel_rfl
theorem und81 : Try.prog.underlying 81 = some (.slice 80) := Try.underlying81
theorem push_px {w : World} {own : Nat → Prop} {v : Value} {l : List Px} {n : Nat} (b : Px) {K : Value → World → Prop} (hrow : OwnRow w own 80 1 v n (flatC pxC l)) (hn : n = l.length) (hb : l.length + 1 ≤ 137438953472)
    (hK : ∀ q' c' w', OwnRow w' (fun i => own i ∨ fresh w i) 80 1 (.slice q' (l.length + 1) c') (l ++ [b]).length (flatC pxC (l ++ [b])) → Kp own w w' → Kp own (w.alloc (.cells #[.slice b.q b.l.length b.c] 80)) w' → K (.slice q' (l.length + 1) c') w') :
    Runs Try.prog (Builtin.append_ #[81, 81] 81 #[v, .slice (some ⟨w.heap.size, 0, none⟩) 1 1]) (w.alloc (.cells #[.slice b.q b.l.length b.c] 80)) K := push_row b pxC_len pxC_one (by omega) und81 elem80 rfl hrow hn hb hK
/-- The document's directory: at (b, o); H what it was, N what it is; O its blocks. -/
def RD (w : World) (O : Nat → Prop) (b o : Nat) (H : List (List Ent)) (N : List Ent) : Prop :=
  ∃ (qn : Option Addr) (cn : Nat) (vp : Value) (own : Nat → Prop) (ps : List Px), Cs w b o [.slice qn N.length cn, vp] ∧ O b ∧ (∀ i, own i → O i ∧ i ≠ b) ∧ EIn w (fun i => O i ∧ i ≠ b ∧ ¬ own i) qn N ∧ ps.map Px.l = H ∧ OwnRow w own 80 1 vp ps.length (flatC pxC ps) ∧ ∀ p ∈ ps, EIn w (fun i => O i ∧ i ≠ b ∧ ¬ own i) p.q p.l
theorem RD.kp {S O O' : Nat → Prop} {w w' : World} {b o : Nat} {H : List (List Ent)} {N : List Ent} (h : RD w O b o H N) (k : Kp S w w') (hs : ∀ i, i < w.heap.size → O i → ¬ S i ∧ O' i) : RD w' O' b o H N := by
  obtain ⟨qn, cn, vp, own, ps, h1, h2, h3, h4, h5, h6, h7⟩ := h
  have hb := h1.lt (by simp)
  have hq : ∀ i, i < w.heap.size → (O i ∧ i ≠ b ∧ ¬ own i) → ¬ S i ∧ (O' i ∧ i ≠ b ∧ ¬ (own i ∧ i < w.heap.size)) := fun i hl hi => ⟨(hs i hl hi.1).1, (hs i hl hi.1).2, hi.2.1, fun hh => hi.2.2 hh.1⟩
  refine ⟨qn, cn, vp, fun i => own i ∧ i < w.heap.size, ps, h1.kp k (hs b hb h2).1, (hs b hb h2).2, fun i hi => ⟨(hs i hi.2 (h3 i hi.1).1).2, (h3 i hi.1).2⟩, h4.kp entC_len (by omega) k hq, h5, (h6.mono (own' := fun i => own i ∧ i < w.heap.size) fun i hi hl => ⟨hi, hl⟩).kp k fun g n cap _ hg => (hs g hg.2 (h3 g hg.1).1).1, fun p hp => (h7 p hp).kp entC_len (by omega) k hq⟩
theorem RD.mono {O O' : Nat → Prop} {w : World} {b o : Nat} {H : List (List Ent)} {N : List Ent} (h : RD w O b o H N) (hs : ∀ i, i < w.heap.size → O i → O' i) : RD w O' b o H N := h.kp (Kp.refl none_ w) fun i hl hi => ⟨id, hs i hl hi⟩
theorem RD.kp0 {O : Nat → Prop} {w w' : World} {b o : Nat} {H : List (List Ent)} {N : List Ent} (h : RD w O b o H N) (k : Kp none_ w w') : RD w' O b o H N := h.kp k fun i _ hi => ⟨id, hi⟩
/-- What it holds, read. -/
theorem RD.now {O : Nat → Prop} {w : World} {b o : Nat} {H : List (List Ent)} {N : List Ent} (h : RD w O b o H N) : ∃ q c, w.cell? ⟨b, o, none⟩ = some (.slice q N.length c) ∧ EIn w (fun i => O i ∧ i ≠ b) q N := by
  obtain ⟨qn, cn, vp, own, ps, h1, h2, h3, h4, _⟩ := h
  exact ⟨qn, cn, h1.get 0 rfl, h4.kp entC_len (by omega) (Kp.refl none_ w) fun i _ hi => ⟨id, hi.1, hi.2.1⟩⟩
theorem RD.past {O : Nat → Prop} {w : World} {b o : Nat} {H : List (List Ent)} {N : List Ent} (h : RD w O b o H N) : ∃ (q : Option Addr) (c : Nat) (ps : List Px), ps.map Px.l = H ∧ w.cell? ⟨b, o + 1, none⟩ = some (.slice q ps.length c) ∧ RowsAt w 1 pxC q ps ∧ ∀ p ∈ ps, EAt w p.q p.l := by
  obtain ⟨qn, cn, vp, own, ps, h1, h2, h3, h4, h5, h6, h7⟩ := h
  obtain ⟨q, c, rfl⟩ := h6.slice
  exact ⟨q, c, ps, h5, h1.get 1 rfl, rows_of pxC_len (by omega) h6, fun p hp => (h7 p hp).1⟩
theorem RD.lt {O : Nat → Prop} {w : World} {b o : Nat} {H : List (List Ent)} {N : List Ent} (h : RD w O b o H N) : b < w.heap.size ∧ O b := by
  obtain ⟨qn, cn, vp, own, ps, h1, h2, _⟩ := h
  exact ⟨h1.lt (by simp), h2⟩
/-- It is new. -/
theorem RD.zero {w : World} {b o : Nat} (h : Cs w b o [.slice none 0 0, .slice none 0 0]) (O : Nat → Prop) (hO : O b) : RD w O b o [] [] :=
  ⟨none, 0, .slice none 0 0, fun _ => False, [], h, hO, fun _ h => h.elim, RwIn.nil _ _ _, rfl, OwnRow.nil _ _ _ _, fun p hp => by cases hp⟩
theorem ad3 (b o k : Nat) : (⟨b, o, none⟩ : Addr).add k = ⟨b, o + k, none⟩ := ad_add b o k
theorem set_size (w : World) (x : Addr) (v : Value) : (w.setCell x v).heap.size = w.heap.size := by simp [World.setCell]
/-- Both cells set anew. -/
theorem RD.lay {S O O' own : Nat → Prop} {w w' : World} {b o : Nat} {vs : List Value} {qn : Option Addr} {cn : Nat} {vp : Value} {N : List Ent} {ps : List Px} (h : Cs w' b o vs) (hv : vs.length = 2) (hO : O' b) (ho : ∀ i, own i → O' i ∧ i ≠ b) (hn : EIn w' (fun i => O' i ∧ i ≠ b ∧ ¬ own i) qn N) (hr : OwnRow w' own 80 1 vp ps.length (flatC pxC ps)) (hp : ∀ p ∈ ps, EIn w' (fun i => O' i ∧ i ≠ b ∧ ¬ own i) p.q p.l) {w2 : World} (k : Kp (one_ b) w' w2) (hc : Cs w2 b o [.slice qn N.length cn, vp]) : RD w2 O' b o (ps.map Px.l) N := by
  have hq : ∀ i, i < w'.heap.size → (O' i ∧ i ≠ b ∧ ¬ own i) → ¬ one_ b i ∧ (O' i ∧ i ≠ b ∧ ¬ own i) := fun i _ hi => ⟨hi.2.1, hi⟩
  exact ⟨qn, cn, vp, own, ps, hc, hO, ho, hn.kp entC_len (by omega) k hq, rfl, hr.kp k fun g n cap _ hg e => (ho g hg).2 e, fun p hm => (hp p hm).kp entC_len (by omega) k hq⟩
theorem c102 {w : World} {O F : Nat → Prop} {b o : Nat} {H : List (List Ent)} {N : List Ent} (h : RD w O b o H N) (hH : H.length ≤ 1000000) {q : Option Addr} {c : Nat} {l : List Ent} (hl : EIn w F q l) (hF : ∀ i, F i → ¬ O i) : Rets Try.prog 102 #[.pointer (some ⟨b, o, none⟩), .slice q l.length c] w fun v w' =>
    v = .int .i64 0 ∧ RD w' (fun i => O i ∨ F i ∨ w.heap.size ≤ i) b o (H ++ [N]) l ∧ Kp O w w' ∧ Nb b o 2 w w' := by
  refine ent [_, _] Try.func102 ((vcTry102 _ _ _ _ w _).mpr ?_)
  unfold VCTry102
  obtain ⟨qn, cn, vp, own, ps, h1, h2, h3, h4, rfl, h6, h7⟩ := h
  have hb := h1.lt (by simp)
  obtain ⟨qp, cp, rfl⟩ := h6.slice
  have hps : ps.length ≤ 1000000 := by simpa using hH
  have kd : Kp none_ w w.drew := Kp.drew1
  have e0 := (h1.kp0 kd).get 0 rfl
  have e1 := (h1.kp0 kd).get 1 rfl
  have ka : Kp none_ w.drew (w.drew.alloc (.cells #[.slice qn N.length cn] 80)) := (Kp.refl none_ _).alloc1 _
  simp only [ptr_some, ad3, Nat.add_zero]
  refine ⟨_, _, _, e1, _, _, _, e0, ka.cell0 e1, ?_⟩
  have r0 : OwnRow w.drew (fun i => own i ∧ i < w.heap.size) 80 1 (.slice qp ps.length cp) ps.length (flatC pxC ps) := (h6.mono fun i hi hl => ⟨hi, hl⟩).kp kd fun _ _ _ _ _ => id
  refine push_px ⟨N, qn, cn⟩ r0 rfl (by omega) fun q2 c2 w2 r2 k2 k2' => ⟨_, _, _, rfl, k2'.keeps0, ?_⟩
  have K2 : Kp (fun i => own i ∧ i < w.heap.size) w w2 := kd.wide.trans k2
  have nb : ¬ (own b ∧ b < w.heap.size) := fun hh => (h3 b hh.1).2 rfl
  have c2' := h1.kp K2 nb
  obtain ⟨g1, g2⟩ := c2'.slot 1 (by simp)
  refine ⟨g1, g2, ?_⟩
  have c3 := c2'.set 1 (.slice q2 (ps.length + 1) c2)
  obtain ⟨g3, g4⟩ := c3.slot 0 (by simp)
  refine ⟨g3, g4, _, rfl, rfl, ?_⟩
  have c4 := c3.set 0 (.slice q l.length c)
  have kk : Kp (one_ b) w2 ((w2.setCell ⟨b, o + 1, none⟩ (.slice q2 (ps.length + 1) c2)).setCell ⟨b, o, none⟩ (.slice q l.length c)) := (kp_set _ _ _ _).trans (kp_set _ _ _ _)
  have hz := K2.size
  have quiet : ∀ i, i < w.heap.size → (O i ∧ i ≠ b ∧ ¬ own i) → ¬ (own i ∧ i < w.heap.size) ∧ ((O i ∨ F i ∨ w.heap.size ≤ i) ∧ i ≠ b ∧ ¬ ((own i ∧ i < w.heap.size) ∨ fresh w.drew i)) := fun i hl hi => ⟨fun hh => hi.2.2 hh.1, .inl hi.1, hi.2.1, fun hh => hh.elim (fun h => hi.2.2 h.1) fun hf => by
    have hf : w.heap.size ≤ i := hf
    omega⟩
  have final := RD.lay (S := none_) (O := O) (O' := fun i => O i ∨ F i ∨ w.heap.size ≤ i) (own := fun i => (own i ∧ i < w.heap.size) ∨ fresh w.drew i) (w := w) c2' rfl (.inl h2) (fun i hi => ?_) (qn := q) (cn := c) (vp := .slice q2 (ps.length + 1) c2) (N := l) (ps := ps ++ [⟨N, qn, cn⟩]) ?_ (by simpa using r2) (fun p hp => ?_) kk (by simpa using c4)
  · refine ⟨by simpa using final, (K2.mono fun i _ hi => (h3 i hi.1).1).trans (kk.mono fun i _ hi => by have hi : i = b := hi; rw [hi]; exact h2), ?_⟩
    exact (Nb.of_kp K2 hb nb).trans ((Nb.set w2 (i := 1) (by omega) _).trans (Nb.set _ (i := 0) (by omega) _))
  · rcases hi with hi | hi
    · exact ⟨.inl (h3 i hi.1).1, (h3 i hi.1).2⟩
    · have hi : w.heap.size ≤ i := hi
      exact ⟨.inr (.inr hi), by omega⟩
  · refine hl.kp entC_len (by omega) K2 fun i hil hi => ⟨fun hh => hF i hi (h3 i hh.1).1, .inr (.inl hi), fun e => hF i hi (by rw [e]; exact h2), fun hh => hh.elim (fun h => hF i hi (h3 i h.1).1) fun hf => ?_⟩
    have hf : w.heap.size ≤ i := hf
    omega
  · rcases List.mem_append.1 hp with hp | hp
    · exact (h7 p hp).kp entC_len (by omega) K2 quiet
    · rw [List.mem_singleton] at hp
      subst hp
      exact h4.kp entC_len (by omega) K2 quiet
end Go.Proofs.Ytlgkcbdpaffigaa
