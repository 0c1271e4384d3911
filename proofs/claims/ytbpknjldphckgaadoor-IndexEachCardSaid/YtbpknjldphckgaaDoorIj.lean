/- IndexPlays walked. -/
import Derived.Test.YtbpknjldphckgaaDoorIh
namespace Go.Proofs.YtbpknjldphckgaaDoor
open Go Go.SX Go.Proofs Go.Lib
set_option maxRecDepth 100000
set_option linter.unusedVariables false
set_option linter.unusedSimpArgs false
/-- Members as an index has them. -/
structure OkL (l : List Mb) : Prop where
  asc : Asc kM l
  len : l.length ≤ 200
  nm : ∀ b ∈ l, b.s.length ≤ 200
theorem okL_of {l : List Mb} (h : okDir l = true) : OkL l := by
  obtain ⟨h1, h2⟩ := okDir_all h
  refine ⟨asc_of fun i hi => ?_, h1, fun b hb => by have := (okMb_facts (h2 b hb)).1; omega⟩
  unfold okDir at h
  rw [Bool.and_eq_true, List.all_eq_true] at h
  have := h.2 (i + 1) (List.mem_range.2 hi)
  rw [okAt_succ hi, Bool.and_eq_true] at this
  exact this.2
theorem okL_put {l : List Mb} (h : OkL l) (m : Mb) : OkL (putL l m) := by
  unfold putL
  split
  · rename_i he
    unfold putErr at he
    split at he
    · cases he
    · rename_i hk
      split at he
      · cases he
      · rename_i hr
        have hk : okMb m = true := by simpa using hk
        rw [Bool.not_eq_false] at hr
        have hm := (okMb_facts hk).1
        refine ⟨asc_with h.asc rfl, ?_, fun b hb => ?_⟩
        · have hlen := h.len
          cases hh : has kM l m.s with
          | true => rw [withK_has h.asc _ hh, List.length_set]; exact hlen
          | false =>
            rw [hh, Bool.false_or] at hr
            have hr := of_decide_eq_true hr
            have := pos_le (k := kM) l m.s
            rw [withK_not h.asc _ hh]
            simp only [List.length_append, List.length_take, List.length_cons, List.length_drop]
            omega
        · rw [withK_eq h.asc] at hb
          rcases List.mem_append.1 hb with hb | hb
          · exact h.nm b (List.mem_of_mem_take hb)
          · rcases List.mem_cons.1 hb with rfl | hb
            · omega
            · exact h.nm b (List.mem_of_mem_drop hb)
  · exact h
theorem okL_without {l : List Mb} (h : OkL l) (s : List UInt8) : OkL (withoutK kM l s) :=
  ⟨asc_without h.asc s, Nat.le_trans (List.length_filter_le _ _) h.len, fun b hb => h.nm b (List.mem_filter.1 hb).1⟩
theorem okL_op {l : List Mb} (h : OkL l) (o : Opx) : OkL (opL l o) := by
  unfold opL
  split
  · exact okL_put h _
  · split
    · exact okL_without h _
    · exact h
/-- A call's cells. -/
structure OpxAt (w : World) (x : Addr) (o : Opx) : Prop where
  c0 : w.cell? (x.add 0) = some (.int .i64 o.k)
  c1 : w.cell? (x.add 1) = some (.string (ba o.m.s))
  c2 : w.cell? (x.add 2) = some (.int .i64 o.m.a)
  c3 : w.cell? (x.add 3) = some (.int .i64 o.m.f)
  c4 : w.cell? (x.add 4) = some (.int .i64 o.m.r)
  c5 : w.cell? (x.add 5) = some (.int .i64 o.m.z)
  c6 : w.cell? (x.add 6) = some (.int .u32 o.m.u)
  c7 : w.cell? (x.add 7) = some (.int .i64 o.m.m)
  c8 : w.cell? (x.add 8) = some (.string (ba o.t))
def OpsAt (w : World) (q : Option Addr) (l : List Opx) : Prop := ∀ i (h : i < l.length), ∃ x, q = some x ∧ OpxAt w (x.add (i * 9)) l[i]
theorem OpxAt.far {w w' : World} {x : Addr} {b : Opx} {E : Nat} (h : OpxAt w x b) (k : Kp (fun i => E ≤ i) w w') (hE : w.heap.size ≤ E) : OpxAt w' x b :=
  ⟨cell_far h.c0 k hE, cell_far h.c1 k hE, cell_far h.c2 k hE, cell_far h.c3 k hE, cell_far h.c4 k hE, cell_far h.c5 k hE, cell_far h.c6 k hE, cell_far h.c7 k hE, cell_far h.c8 k hE⟩
theorem OpsAt.far {w w' : World} {q : Option Addr} {l : List Opx} {E : Nat} (h : OpsAt w q l) (k : Kp (fun i => E ≤ i) w w') (hE : w.heap.size ≤ E) : OpsAt w' q l := fun i hi => by
  obtain ⟨x, e, m⟩ := h i hi
  exact ⟨x, e, m.far k hE⟩
theorem op_at {w : World} {q : Option Addr} {l : List Opx} (h : OpsAt w q l) {i : Nat} (hi : i < l.length) {K : Addr → Prop} (hK : ∀ x, q = some x → OpxAt w (x.add (((i : Int).toNat) * 9)) l[i] → K x) : Ptr q K := by
  obtain ⟨x, e, m⟩ := h i hi
  subst e
  rw [ptr_some]
  exact hK x rfl (by rwa [Int.toNat_natCast])
theorem c16 {W : World} (hml : ML W) (h00 : 0 < W.heap.size) {q : Option Addr} {c : Nat} {l : List Mb} (hq : MemsAt W q l) (hw : ∀ b ∈ l, b.wf) {r : Option Addr} {d : Nat} {ops : List Opx} (hr : OpsAt W r ops) (hwo : ∀ o ∈ ops, o.m.wf) :
    Rets Tryd.prog 16 #[.slice q l.length c, .slice r ops.length d] W fun v w' => v = .bool true ∧ Kp none_ W w' := by
  refine ent [_, _] Tryd.func16 ((vcTryd16 _ _ _ _ _ _ W _).mpr ?_)
  unfold VCTryd16
  have live : ∀ {w : World}, Kp (fun i => W.heap.size ≤ i) W w → Rets Tryd.prog 66 #[] w fun v w' => ∃ t, v = .bool t ∧ Keeps w w' [] ∧ ∃ v, Ending.returned (Value.bool t) = Ending.returned v ∧ v = .bool true ∧ Kp none_ W w' := fun k => (c66 (hml.far k (Nat.le_refl _))).mono (by
    rintro v w' ⟨rfl, k2⟩
    exact ⟨_, rfl, k2.keeps0, _, rfl, rfl, (k.trans k2.wide).narrow (Nat.le_refl _)⟩)
  refine (c65 hq).mono ?_
  rintro v wx ⟨t, rfl, e, ht⟩
  obtain rfl := e.symm
  refine ⟨_, rfl, (Kp.refl none_ _).keeps0, bif_b (fun _ => live (Kp.refl _ _)) (fun h1 => bif_dec (fun _ => live (Kp.refl _ _)) (fun h2 => ?_))⟩
  obtain ⟨hl, hn⟩ := ht h1
  have hs : ∀ b ∈ l, b.s.length ≤ 1000000 := fun b hb => by have := hn b hb; omega
  refine (c67 hml hq hs (by omega)).mono ?_
  rintro v w1 ⟨k1, hcase⟩
  have hc40 := c40 (c := c) (hq.kp0 k1) (fun b hb => ⟨hs b hb, hw b hb⟩) (by omega)
  rcases hcase with ⟨hk, rfl⟩ | ⟨hk, b, hb, rfl, x1⟩
  · rw [hk] at hc40
    refine ⟨_, _, rfl, k1.keeps0, hc40.mono ?_⟩
    rintro v w2 ⟨rfl, k2⟩
    exact ⟨_, rfl, k2.keeps0, bif_not (fun _ => bif_eq (fun _ => bif_b (fun _ => live (k1.trans k2).wide) (fun h => by cases h)) (fun h => absurd rfl h)) (fun h => by cases h)⟩
  rw [hk] at hc40
  refine ⟨_, _, rfl, k1.keeps0, hc40.mono ?_⟩
  rintro v w2 ⟨rfl, k2⟩
  refine ⟨_, rfl, k2.keeps0, bif_not (fun h => by cases h) (fun _ => bif_ne (fun h => absurd rfl h) (fun _ => bif_b (fun h => by cases h) (fun _ => ?_)))⟩
  have K2 := k1.trans k2
  have bad : ∀ x, q = some x → 0 < l.length → ¬ (W.heap.size ≤ x.block) := fun x hx hpos h => by
    obtain ⟨x', e, mm⟩ := hq 0 hpos
    rw [hx] at e; cases e
    have := cell_lt mm.c0
    rw [add_block, add_block] at this
    omega
  refine ⟨fun i q n c w' => ∃ (j : Nat) (O : Nat → Prop) (l' : List Mb), i = j ∧ j ≤ ops.length ∧ n = l'.length ∧ OkL l' ∧ IxAt w' O b l' ∧ (∀ i, O i → W.heap.size ≤ i) ∧ MemsAt w' q l' ∧ (∀ x, q = some x → 0 < l'.length → ¬ O x.block) ∧ Kp (fun i => W.heap.size ≤ i) W w', fun i _ _ _ _ => (ops.length - i).toNat,
    ⟨0, fun i => W.heap.size ≤ i, l, rfl, by omega, rfl, okL_of hk, x1.kp0 k2, fun i h => h, hq.kp0 K2, bad, K2.wide⟩, ?_⟩
  rintro i q5 n5 c5 w5 ⟨j, O, l', rfl, hj, rfl, ok5, x5, o5, m5, n5, k5⟩
  have hml5 := hml.far k5 (Nat.le_refl _)
  have hlen := ok5.len
  refine bif_dec (fun hlt => ?_) (fun hge => ?_)
  · have hjl : j < ops.length := by omega
    have r5 := hr.far k5 (Nat.le_refl _)
    have play : (ops[j].k = 0 → ops[j].m.s.length ≤ 1000000) → Rets Tryd.prog 68 #[.pointer (some ⟨b, 0, none⟩), .slice q5 l'.length c5, opV ops[j]] w5 fun v w' =>
        ∃ q' c' O', v = .tuple #[.bool true, .slice q' (opL l' ops[j]).length c'] ∧ IxAt w' O' b (opL l' ops[j]) ∧ MemsAt w' q' (opL l' ops[j]) ∧ (∀ x, q' = some x → 0 < (opL l' ops[j]).length → ¬ O' x.block) ∧ (∀ i, O' i → W.heap.size ≤ i) ∧ Kp (fun i => W.heap.size ≤ i) W w' ∧ w5.heap.size ≤ w'.heap.size := fun hs =>
      (c68 hml5 x5 (fun h => by have := o5 0 h; omega) m5 n5 ok5.asc (by omega) ops[j] hs (hwo _ (List.getElem_mem hjl))).mono fun v w' ⟨q', c', O', h1, h2, h3, h4, h5, h6⟩ =>
        ⟨q', c', O', h1, h2, h3, h4, fun i hi => (h5 i hi).elim (o5 i) fun h => Nat.le_trans k5.size h, k5.trans (h6.mono fun i _ hi => o5 i hi), h6.size⟩
    have okn := okL_op ok5 ops[j]
    have hlen2 := okn.len
    refine ⟨⟨by omega, by omega⟩, op_at r5 hjl fun x _ ox => ⟨_, ox.c0, bif_eq (fun ek => ⟨⟨by omega, by omega⟩, op_at r5 hjl fun y _ oy => ⟨_, by rw [add_add]; exact oy.c1, bif_dec (fun _ => wr64 (by omega) ⟨⟨j + 1, O, l', rfl, by omega, rfl, ok5, x5, o5, m5, n5, k5⟩, by first | omega | (dsimp only; omega)⟩) (fun hsz => ⟨⟨by omega, by omega⟩, op_at r5 hjl fun z _ oz => ⟨_, _, _, _, _, _, _, _, _, ⟨oz.c0, oz.c1, oz.c2, oz.c3, oz.c4, oz.c5, oz.c6, oz.c7, oz.c8, trivial⟩, (play fun _ => ?_).mono ?_⟩⟩)⟩⟩) (fun nk => ⟨⟨by omega, by omega⟩, op_at r5 hjl fun z _ oz => ⟨_, _, _, _, _, _, _, _, _, ⟨oz.c0, oz.c1, oz.c2, oz.c3, oz.c4, oz.c5, oz.c6, oz.c7, oz.c8, trivial⟩, (play fun h => absurd h nk).mono ?_⟩⟩)⟩⟩
    · rw [ba_size] at hsz; omega
    all_goals
      rintro v w6 ⟨q6, c6, O6, rfl, x6, m6, n6, o6, k6, z6⟩
      refine ⟨_, _, _, _, rfl, ⟨z6, fun b hb => by cases hb⟩, bif_not (fun h => by cases h) (fun _ => (c69 x6).mono ?_)⟩
      rintro v wx ⟨rfl, e⟩
      obtain rfl := e.symm
      refine ⟨_, rfl, (Kp.refl none_ _).keeps0, bif_ne (fun h => absurd rfl h) (fun _ => (c70 x6 (by omega)).mono ?_)⟩
      rintro v w7 ⟨q7, c7, rfl, r7, k7⟩
      refine ⟨_, _, _, rfl, k7.keeps0, (c39 (mems_of r7) (m6.kp0 k7) (by omega)).mono ?_⟩
      rintro v w8 ⟨rfl, k8⟩
      refine ⟨_, rfl, k8.keeps0, bif_not (fun h => by simp at h) (fun _ => (c71 ((x6.kp0 k7).kp0 k8) okn.nm (by omega)).mono ?_)⟩
      rintro v w9 ⟨rfl, k9⟩
      refine ⟨_, rfl, k9.keeps0, (c72 (((m6.kp0 k7).kp0 k8).kp0 k9) okn.nm (by omega)).mono ?_⟩
      rintro v wx ⟨rfl, e⟩
      obtain rfl := e.symm
      have k789 := (k7.trans k8).trans k9
      exact ⟨_, rfl, (Kp.refl none_ _).keeps0, bif_ne (fun h => absurd rfl h) (fun _ => wr64 (by omega) ⟨⟨j + 1, O6, _, rfl, by omega, rfl, okn, x6.kp0 k789, o6, m6.kp0 k789, n6, k6.trans k789.wide⟩, by first | omega | (dsimp only; omega)⟩)⟩
  · refine (c69 x5).mono ?_
    rintro v wx ⟨rfl, e⟩
    obtain rfl := e.symm
    refine ⟨_, rfl, (Kp.refl none_ _).keeps0, bif_eq (fun _ => (c70 x5 (by omega)).mono ?_) (fun h => absurd rfl h)⟩
    rintro v w7 ⟨q7, c7, rfl, r7, k7⟩
    refine ⟨_, _, _, rfl, k7.keeps0, (c39 (mems_of r7) (m5.kp0 k7) (by omega)).mono ?_⟩
    rintro v w8 ⟨rfl, k8⟩
    refine ⟨_, rfl, k8.keeps0, bif_b (fun _ => (c71 ((x5.kp0 k7).kp0 k8) ok5.nm (by omega)).mono ?_) (fun h => by simp at h)⟩
    rintro v w9 ⟨rfl, k9⟩
    refine ⟨_, rfl, k9.keeps0, (c72 (((m5.kp0 k7).kp0 k8).kp0 k9) ok5.nm (by omega)).mono ?_⟩
    rintro v wx ⟨rfl, e⟩
    obtain rfl := e.symm
    exact ⟨_, rfl, (Kp.refl none_ _).keeps0, bif_eq (fun _ => live (k5.trans ((k7.trans k8).trans k9).wide)) (fun h => absurd rfl h)⟩
end Go.Proofs.YtbpknjldphckgaaDoor
