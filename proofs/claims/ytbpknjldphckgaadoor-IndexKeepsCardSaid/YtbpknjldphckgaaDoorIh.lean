/- Index: a call of both. -/
import Derived.Test.YtbpknjldphckgaaDoorIg
namespace Go.Proofs.YtbpknjldphckgaaDoor
open Go Go.SX Go.Proofs Go.Lib
set_option maxRecDepth 100000
set_option linter.unusedVariables false
set_option linter.unusedSimpArgs false
/-- A call. -/
structure Opx where
  k : Int
  m : Mb
  t : List UInt8
def opV (o : Opx) : Value := .agg #[.int .i64 o.k, .string (ba o.m.s), .int .i64 o.m.a, .int .i64 o.m.f, .int .i64 o.m.r, .int .i64 o.m.z, .int .u32 o.m.u, .int .i64 o.m.m, .string (ba o.t)]
/-- What a call makes of a list. -/
def opL (l : List Mb) (o : Opx) : List Mb := if o.k = 0 then putL l o.m else if o.k = 1 then withoutK kM l o.t else l
theorem findK_pos {l : List Mb} (ha : Asc kM l) (s : List UInt8) : idxO (findK kM l s) = if has kM l s = true then (pos kM l s : Int) else -1 := by
  rw [findK_eq ha]
  split <;> rfl
theorem c68 {w : World} (hml : ML w) {O : Nat → Prop} {b : Nat} {q : Option Addr} {c : Nat} {l : List Mb} (h0 : IxAt w O b l) (hO0 : ¬ O 0) (hq : MemsAt w q l) (hqo : ∀ x, q = some x → 0 < l.length → ¬ O x.block) (ha : Asc kM l) (hl : l.length ≤ 1000) (o : Opx) (hs : o.k = 0 → o.m.s.length ≤ 1000000) (hw : o.m.wf) :
    Rets Tryd.prog 68 #[.pointer (some ⟨b, 0, none⟩), .slice q l.length c, opV o] w fun v w' =>
    ∃ q' c' O', v = .tuple #[.bool true, .slice q' (opL l o).length c'] ∧ IxAt w' O' b (opL l o) ∧ MemsAt w' q' (opL l o) ∧ (∀ x, q' = some x → 0 < (opL l o).length → ¬ O' x.block) ∧ (∀ i, O' i → O i ∨ w.heap.size ≤ i) ∧ Kp O w w' := by
  refine ent [_, _, _] Tryd.func68 ((vcTryd68 _ _ _ _ _ _ _ _ _ _ _ _ _ w _).mpr ?_)
  unfold VCTryd68
  simp only [set7_def]
  intro _
  obtain ⟨k, m, t⟩ := o
  simp only at hs hw ⊢
  have hc := h0.cut
  have h00 : ∀ i, (O i ∧ i < w.heap.size) → O i := fun i h => h.1
  generalize hO : (fun i => O i ∧ i < w.heap.size) = P at *
  have hP : ∀ i, P i → O i ∧ i < w.heap.size := fun i h => by rw [← hO] at h; exact h
  have nP : ∀ i, w.heap.size ≤ i → ¬ P i := fun i h hp => by have := (hP i hp).2; omega
  have k0 : Kp none_ w (w.alloc (.cells #[.int .i64 k, .string (ba m.s), .int .i64 m.a, .int .i64 m.f, .int .i64 m.r, .int .i64 m.z, .int .u32 m.u, .int .i64 m.m, .string (ba t)] 84)) := (Kp.refl none_ w).alloc1 _
  have B0 : Big (w.alloc (.cells #[.int .i64 k, .string (ba m.s), .int .i64 m.a, .int .i64 m.f, .int .i64 m.r, .int .i64 m.z, .int .u32 m.u, .int .i64 m.m, .string (ba t)] 84)) w.heap.size 84 [.int .i64 k, .string (ba m.s), .int .i64 m.a, .int .i64 m.f, .int .i64 m.r, .int .i64 m.z, .int .u32 m.u, .int .i64 m.m, .string (ba t)] := Big.new w _ 84
  generalize w.alloc (.cells #[.int .i64 k, .string (ba m.s), .int .i64 m.a, .int .i64 m.f, .int .i64 m.r, .int .i64 m.z, .int .u32 m.u, .int .i64 m.m, .string (ba t)] 84) = w0 at *
  have q0 := hq.kp0 k0
  refine (c125 q0 (by omega) (ba t)).mono ?_
  rw [bytesL_ba]
  rintro v wx ⟨rfl, e⟩
  obtain rfl := e.symm
  have z0 := B0.lt
  -- the row that came in is another's
  have qkeep : ∀ {w1 w2 : World}, MemsAt w1 q l → Kp P w1 w2 → MemsAt w2 q l := fun hm kk => hm.kp kk fun x hx hpos hp => hqo x hx hpos (hP _ hp).1
  refine ⟨_, rfl, (Kp.refl none_ _).k0 z0, bif_eq (fun ek => ?_) (fun nk0 => bif_eq (fun ek => ?_) (fun nk1 => bif_eq (fun ek => ?_) (fun nk2 => ?_)))⟩
  · -- Put
    subst ek
    have hs := hs rfl
    have eO : opL l ⟨0, m, t⟩ = putL l m := by unfold opL; rw [if_pos rfl]
    rw [eO]
    intro _
    refine (c74 (hml.kp0 k0) (hc.kp0 k0) ha (by omega) m hs).mono ?_
    rintro v w4 ⟨rfl, x4, k4⟩
    have z4 := Nat.lt_of_lt_of_le z0 k4.size
    have K4 : Kp P w w4 := k0.wide.trans k4
    have q4 := qkeep q0 k4
    let O' : Nat → Prop := fun i => P i ∨ (w.heap.size ≤ i ∧ i < w4.heap.size)
    have x4' : IxAt w4 O' b (putL l m) := x4.mono fun i hi h => h.imp id fun hf => ⟨by have hf : w0.heap.size ≤ i := hf; have := k0.size; omega, hi⟩
    have hO' : ∀ i, O' i → O i ∨ w.heap.size ≤ i := fun i h => h.elim (fun h => .inl (hP i h).1) fun h => .inr h.1
    have nq : ∀ x, q = some x → 0 < l.length → ¬ O' x.block := fun x hx hpos h => by
      rcases h with h | h
      · exact hqo x hx hpos (hP _ h).1
      · obtain ⟨x', e, mm⟩ := hq 0 hpos
        rw [hx] at e; cases e
        have := cell_lt mm.c0
        rw [add_block, add_block] at this
        omega
    refine ⟨_, rfl, kso k4 (nP _ (Nat.le_refl _)) z0, fun _ => (c45 m hs hw).mono ?_⟩
    rintro v w5 ⟨rfl, k5⟩
    have z5 := Nat.lt_of_lt_of_le z4 k5.size
    have K5 := K4.trans k5.wide
    refine ⟨_, rfl, k5.k0 z4, bif_not (fun hk _ => ?_) (fun hk _ => (c126 (q4.kp0 k5) (by omega) (ba m.s)).mono ?_)⟩
    · have e1 : putErr l m = 1 := by unfold putErr; rw [if_pos hk]
      have eL : putL l m = l := by unfold putL; rw [if_neg (by rw [e1]; decide)]
      rw [eL] at x4' ⊢
      exact ⟨_, rfl, q, c, O', by rw [e1]; rfl, x4'.kp0 k5, q4.kp0 k5, nq, hO', K5.mono fun i _ h => (hP i h).1⟩
    rw [bytesL_ba]
    rintro v wx ⟨rfl, e⟩
    obtain rfl := e.symm
    refine ⟨_, rfl, (Kp.refl none_ _).k0 z5, bif_not (fun hr _ => ?_) (fun hr _ => (c127 (q4.kp0 k5) (by omega) m).mono ?_)⟩
    · have e1 : putErr l m = 14 := by unfold putErr; rw [if_neg (by rw [hk]; decide), if_pos hr]
      have eL : putL l m = l := by unfold putL; rw [if_neg (by rw [e1]; decide)]
      rw [eL] at x4' ⊢
      exact ⟨_, rfl, q, c, O', by rw [e1]; rfl, x4'.kp0 k5, q4.kp0 k5, nq, hO', K5.mono fun i _ h => (hP i h).1⟩
    have e1 : putErr l m = 0 := by unfold putErr; rw [if_neg (by rw [hk]; decide), if_neg (by rw [hr]; decide)]
    have eL : putL l m = withK kM l m.s m := by unfold putL; rw [if_pos e1]
    rw [eL] at x4' ⊢
    rintro v w6 ⟨q', c', rfl, r6, k6⟩
    refine ⟨_, _, _, rfl, k6.k0 z5, fun _ => ⟨_, rfl, q', c', O', by rw [e1]; rfl, (x4'.kp0 k5).kp0 k6, mems_of r6, fun x hx hpos h => ?_, hO', (K5.trans k6.wide).mono fun i _ h => (hP i h).1⟩⟩
    obtain ⟨g, cur, eg, _, hg, _⟩ := r6.parts hpos
    rw [hx] at eg; cases eg
    have hg : w5.heap.size ≤ g := hg
    have := k5.size
    rcases h with h | h
    · have h := (hP _ h).2; have h : g < w.heap.size := h; omega
    · have h := h.2; have h : g < w4.heap.size := h; omega
  · -- Drop
    subst ek
    have eO : opL l ⟨1, m, t⟩ = withoutK kM l t := by unfold opL; rw [if_neg (by show ¬ ((1 : Int) = 0); decide), if_pos rfl]
    rw [eO]
    intro _
    have kd : Kp none_ w w0.drew := k0.drew
    refine (c75 (hc.kp0 kd) ha (by omega) (ba t)).mono ?_
    rw [bytesL_ba]
    rintro v w4 ⟨rfl, x4, k4⟩
    have k4' : Kp P w0 w4 := Kp.of_drew k4
    have z4 := Nat.lt_of_lt_of_le z0 k4'.size
    have B4 := B0.kp k4' (nP _ (Nat.le_refl _))
    refine ⟨_, rfl, kso k4 (nP _ (Nat.le_refl _)) z0, B4.cell 8, fun _ => (c128 (qkeep q0 k4') (by omega) (ba t)).mono ?_⟩
    rw [bytesL_ba]
    rintro v w5 ⟨q', c', rfl, r5, k5⟩
    refine ⟨_, _, _, rfl, k5.k0 z4, fun _ => ⟨_, rfl, q', c', P, ?_, x4.kp0 k5, mems_of r5, fun x hx hpos h => ?_, fun i h => .inl (hP i h).1, ((k0.wide.trans k4').trans k5.wide).mono fun i _ h => (hP i h).1⟩⟩
    · rw [idxO_nonneg, findK_has]; simp
    · obtain ⟨g, cur, eg, _, hg, _⟩ := r5.parts hpos
      rw [hx] at eg; cases eg
      have hg : w4.heap.size ≤ g := hg
      have h := (hP _ h).2
      have h : g < w.heap.size := h
      have := k0.size
      have := k4'.size
      omega
  · -- Get
    have eO : opL l ⟨k, m, t⟩ = l := by unfold opL; rw [if_neg nk0, if_neg nk1]
    rw [eO]
    intro _
    refine (c73 (hc.kp0 k0) ha (by omega) (ba t)).mono ?_
    rw [bytesL_ba, findK_pos ha]
    have fin : ∀ {w' : World} {T : Bool}, T = true → Kp none_ w w' → ∃ q' c' O', Value.tuple #[.bool T, .slice q l.length c] = .tuple #[.bool true, .slice q' l.length c'] ∧ IxAt w' O' b l ∧ MemsAt w' q' l ∧ (∀ x, q' = some x → 0 < l.length → ¬ O' x.block) ∧ (∀ i, O' i → O i ∨ w.heap.size ≤ i) ∧ Kp O w w' := fun hT kk =>
      ⟨q, c, P, by rw [hT], hc.kp0 kk, hq.kp0 kk, fun x hx hpos h => hqo x hx hpos (hP _ h).1, fun i h => .inl (hP i h).1, kk.wide⟩
    cases hh : has kM l t with
    | false =>
      have eg : getM l t = (mb0, false) := by unfold getM; rw [if_neg (by rw [hh]; decide)]
      rw [eg]
      rintro v w4 ⟨rfl, k4⟩
      refine ⟨_, _, _, _, _, _, _, _, rfl, k4.k0 z0, bif_dec (fun _ => bif_not (fun _ => ⟨by first | rfl | trivial, fun _ => ⟨_, rfl, ?_⟩⟩) (fun h => by cases h)) (fun h => absurd (by rw [if_neg (by decide)]; decide) h)⟩
      have hz : ((ba mb0.s).toList == (ba mb0.s).toList && ((mb0.a == mb0.a) && ((mb0.f == mb0.f) && ((mb0.r == mb0.r) && ((mb0.z == mb0.z) && ((mb0.u == mb0.u) && (mb0.m == mb0.m))))))) = true := by rw [mb_eq]; decide
      exact fin hz (newset7 (v0 := .string (ba mb0.s)) (v1 := .int .i64 mb0.a) (v2 := .int .i64 mb0.f) (v3 := .int .i64 mb0.r) (v4 := .int .i64 mb0.z) (v5 := .int .u32 mb0.u) (v6 := .int .i64 mb0.m) (cs := #[.string { data := #[] }, .int .i64 0, .int .i64 0, .int .i64 0, .int .i64 0, .int .u32 0, .int .i64 0]) (e := 50) (k0.trans k4))
    | true =>
      obtain ⟨hp, eg⟩ := getM_has ha hh
      rw [eg, if_pos rfl]
      rintro v w4 ⟨rfl, k4⟩
      have kn := (newset7 (v0 := .string (ba l[pos kM l t].s)) (v1 := .int .i64 l[pos kM l t].a) (v2 := .int .i64 l[pos kM l t].f) (v3 := .int .i64 l[pos kM l t].r) (v4 := .int .i64 l[pos kM l t].z) (v5 := .int .u32 l[pos kM l t].u) (v6 := .int .i64 l[pos kM l t].m) (cs := #[.string { data := #[] }, .int .i64 0, .int .i64 0, .int .i64 0, .int .i64 0, .int .u32 0, .int .i64 0]) (e := 50) (k0.trans k4)).drew
      refine ⟨_, _, _, _, _, _, _, _, rfl, k4.k0 z0, bif_dec (fun h => absurd h (by omega)) (fun _ => bif_b (fun _ => ⟨⟨by omega, by omega⟩, mem_at (hq.kp0 kn) hp fun x _ mx => ⟨_, _, _, _, _, _, _, ⟨mx.c0, mx.c1, mx.c2, mx.c3, mx.c4, mx.c5, mx.c6, trivial⟩, by first | rfl | trivial, fun _ => ⟨_, rfl, ?_⟩⟩⟩) (fun h => by cases h))⟩
      exact fin ((mb_eq l[pos kM l t] l[pos kM l t]).trans (decide_eq_true rfl)) kn
  · -- Room
    have eO : opL l ⟨k, m, t⟩ = l := by unfold opL; rw [if_neg nk0, if_neg nk1]
    rw [eO]
    intro _
    have kd : Kp none_ w w0.drew := k0.drew
    refine (c80 (hc.kp0 kd) ha (by omega) (ba t)).mono ?_
    rw [bytesL_ba]
    rintro v w4 ⟨rfl, k4⟩
    have k4' : Kp none_ w0 w4 := Kp.of_drew k4
    have z4 := Nat.lt_of_lt_of_le z0 k4'.size
    refine ⟨_, rfl, k4.k0 z0, (B0.kp k4' id).cell 8, fun _ => (c126 ((q0.kp0 k4')) (by omega) (ba t)).mono ?_⟩
    rw [bytesL_ba]
    rintro v wx ⟨rfl, e⟩
    obtain rfl := e.symm
    have kk := k0.trans k4'
    exact ⟨_, rfl, (Kp.refl none_ _).k0 z4, fun _ => ⟨_, rfl, q, c, P, by simp, hc.kp0 kk, hq.kp0 kk, fun x hx hpos h => hqo x hx hpos (hP _ h).1, fun i h => .inl (hP i h).1, kk.wide⟩⟩
end Go.Proofs.YtbpknjldphckgaaDoor
