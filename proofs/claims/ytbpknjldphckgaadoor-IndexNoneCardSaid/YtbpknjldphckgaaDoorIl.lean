/- IndexEach walked. -/
import Derived.Test.YtbpknjldphckgaaDoorIk
import Derived.Test.YtbpknjldphckgaaDoorVcl
namespace Go.Proofs.YtbpknjldphckgaaDoor
open Go Go.SX Go.Proofs Go.Lib
set_option maxRecDepth 100000
set_option linter.unusedVariables false
set_option linter.unusedSimpArgs false
theorem Cel.kpn {S : Nat → Prop} {w w' : World} {b : Nat} {v : Value} (h : Cel w b v) (hk : Kp S w w') (hs : ¬ S b) : Cel w' b v := h.kp hk hs
theorem cel_drew {w : World} {b : Nat} {v : Value} (h : Cel w b v) : Cel w.drew b v := ⟨h.cell, h.frz⟩
/-- A row of names. -/
def NmAt (w : World) (q : Option Addr) (l : List Mb) : Prop := ∀ i (h : i < l.length), ∃ a, q = some a ∧ w.cell? (a.add i) = some (.string (ba (l[i]).s))
theorem nm_of {w : World} {own : Nat → Prop} {q : Option Addr} {n c : Nat} {l : List Mb} (h : OwnRow w own 9 1 (.slice q n c) l.length (nmC l)) : NmAt w q l := fun i hi => h.at (by simp [nmC, hi])
theorem NmAt.kp {S : Nat → Prop} {w w' : World} {q : Option Addr} {l : List Mb} (h : NmAt w q l) (k : Kp S w w') (hs : ∀ x, q = some x → 0 < l.length → ¬ S x.block) : NmAt w' q l := fun i hi => by
  obtain ⟨a, e, hc⟩ := h i hi
  exact ⟨a, e, k.cell hc (by rw [add_block]; exact hs a e (by omega))⟩
/-- The function that is told the members. -/
theorem c79 {w : World} {t : Mb} {l : List Mb} {i : Nat} {f1 i1 n1 m1 kb : Nat} {q : Option Addr} {c : Nat} {r : Option Addr} {d : Nat} {ti : Int} (hi : i < l.length) (hl : l.length ≤ 1000000) (ht : l[i] = t)
    (cf : Cel w f1 (.bool true)) (ci : Cel w i1 (.int .i64 i)) (cn : Cel w n1 (.slice q l.length c)) (cm : Cel w m1 (.slice r l.length d)) (ck : w.cell? ⟨kb, 1, none⟩ = some (.int .i64 ti)) (hne : f1 ≠ i1) (hfk : f1 ≠ kb) (hik : i1 ≠ kb)
    (hq : MemsAt w q l) (hr : NmAt w r l) :
    Rets Tryd.prog 79 #[mbV t, .pointer (some ⟨f1, 0, none⟩), .pointer (some ⟨i1, 0, none⟩), .pointer (some ⟨n1, 0, none⟩), .pointer (some ⟨m1, 0, none⟩), .pointer (some ⟨kb, 0, none⟩)] w fun v w' =>
      v = .bool (((i + 1 : Nat) : Int) != ti) ∧ Cel w' f1 (.bool true) ∧ Cel w' i1 (.int .i64 ((i + 1 : Nat) : Int)) ∧ Kp (fun b => b = f1 ∨ b = i1) w w' := by
  refine ent [_, _, _, _, _, _] Tryd.func79 ((vcTryd79 _ _ _ _ _ _ _ _ _ _ _ _ w _).mpr ?_)
  unfold VCTryd79
  have k0 : Kp none_ w (w.alloc (.cells #[.string (ba t.s), .int .i64 t.a, .int .i64 t.f, .int .i64 t.r, .int .i64 t.z, .int .u32 t.u, .int .i64 t.m] 50)).drew := ((Kp.refl none_ w).alloc1 _).drew
  have z0 := (show (w.alloc (.cells #[.string (ba t.s), .int .i64 t.a, .int .i64 t.f, .int .i64 t.r, .int .i64 t.z, .int .u32 t.u, .int .i64 t.m] 50)).drew.heap.size = w.heap.size + 1 by rw [drew_size, alloc_size])
  generalize (w.alloc (.cells #[.string (ba t.s), .int .i64 t.a, .int .i64 t.f, .int .i64 t.r, .int .i64 t.z, .int .u32 t.u, .int .i64 t.m] 50)).drew = w0 at *
  have lf := cf.lt
  have li := ci.lt
  have cf0 := cf.kp k0 id
  have ci0 := ci.kp k0 id
  have cn0 := cn.kp k0 id
  have cm0 := cm.kp k0 id
  have ck0 := k0.cell0 ck
  have hq0 := hq.kp0 k0
  have hr0 := hr.kp k0 fun _ _ _ => id
  rw [ptr_some]
  refine ⟨_, cf0.cell, ?_⟩
  rw [cond_true, ptr_some]
  refine ⟨_, ci0.cell, ?_⟩
  rw [ptr_some]
  refine ⟨_, _, _, cn0.cell, bif_dec (fun hlt => ?_) (fun h => absurd (by omega) h)⟩
  rw [ptr_some]
  refine ⟨_, _, _, cn0.cell, ?_⟩
  rw [ptr_some]
  refine ⟨_, ci0.cell, ⟨by omega, by omega⟩, mem_at hq0 hi fun x _ mx => ⟨_, _, _, _, _, _, _, ⟨mx.c0, mx.c1, mx.c2, mx.c3, mx.c4, mx.c5, mx.c6, trivial⟩, by first | rfl | trivial, ?_⟩⟩
  rw [mb_eq, ht, decide_eq_true rfl, cond_true, ptr_some]
  refine ⟨_, _, _, cm0.cell, ?_⟩
  rw [ptr_some]
  refine ⟨_, ci0.cell, ⟨by omega, by omega⟩, ?_⟩
  obtain ⟨a, ea, ca⟩ := hr0 i hi
  subst ea
  rw [ptr_some]
  refine ⟨_, by rw [Nat.mul_one, Int.toNat_natCast]; exact ca, ?_⟩
  rw [ht, ptr_some]
  simp only [add0]
  have e1 : ((ba t.s).toList == (ba t.s).toList) = true := by simp
  rw [e1]
  have ap : ∀ {b : Nat}, b < w.heap.size → Apart ⟨b, 0, none⟩ w.heap.size [0, 1, 2, 3, 4, 5, 6] := fun {b} h => .inl fun e => by
    have e : b = w.heap.size := e
    omega
  refine ⟨⟨_, cf0.cell⟩, cf0.frz, ap lf, ?_⟩
  have c1 := cf0.set (.bool true)
  have d1 := ci0.off (.bool true) hne
  rw [ptr_some]
  refine ⟨_, d1.cell, wr64 (by omega) ?_⟩
  rw [ptr_some]
  refine ⟨⟨_, d1.cell⟩, d1.frz, ap li, ?_⟩
  have e2 : ((i : Int) + 1) = ((i + 1 : Nat) : Int) := by omega
  rw [e2]
  have c2 := c1.off (.int .i64 ((i + 1 : Nat) : Int)) (fun h => hne h.symm)
  have d2 := d1.set (.int .i64 ((i + 1 : Nat) : Int))
  have k1 : Kp (fun b => b = f1 ∨ b = i1) w0 ((w0.setCell ⟨f1, 0, none⟩ (.bool true)).setCell ⟨i1, 0, none⟩ (.int .i64 ((i + 1 : Nat) : Int))) := ((Kp.set1 f1 _).mono fun b _ h => .inl h).trans ((Kp.set1 i1 _).mono fun b _ h => .inr h)
  rw [ptr_some]
  refine ⟨_, d2.cell, ?_⟩
  rw [ptr_some]
  refine ⟨ti, ?_, fun _ => ⟨_, rfl, rfl, c2, d2, k0.wide.trans k1⟩⟩
  rw [ad_add, Nat.zero_add]
  exact k1.cell ck0 fun h => by
    rcases h with h | h
    · have h : kb = f1 := h
      exact hfk h.symm
    · exact hik h.symm
theorem newcel {w : World} (z v : Value) (t : TypeId) : Kp none_ w ((w.alloc (.cells #[z] t)).setCell ⟨w.heap.size, 0, none⟩ v) ∧ Cel ((w.alloc (.cells #[z] t)).setCell ⟨w.heap.size, 0, none⟩ v) w.heap.size v ∧ w.heap.size < ((w.alloc (.cells #[z] t)).setCell ⟨w.heap.size, 0, none⟩ v).heap.size :=
  ⟨(((Kp.refl none_ w).alloc1 (.cells #[z] t)).wide.trans (kpE (Kp.set1 w.heap.size v) (Nat.le_refl _))).narrow (Nat.le_refl _), (Cel.new w z t).set v, ((Cel.new w z t).set v).lt⟩
theorem isGo79 : isGo Tryd.prog 79 = true := by kernel_rfl
theorem c18 {W : World} (hml : ML W) (h00 : 0 < W.heap.size) {q : Option Addr} {c : Nat} {l : List Mb} (hq : MemsAt W q l) (hw : ∀ b ∈ l, b.wf) (f : List UInt8) (ti : Int) (o : Opx) (ho : o.m.wf) :
    Rets Tryd.prog 18 #[.slice q l.length c, .agg #[.string (ba f), .int .i64 ti, .int .i64 o.k, .string (ba o.m.s), .int .i64 o.m.a, .int .i64 o.m.f, .int .i64 o.m.r, .int .i64 o.m.z, .int .u32 o.m.u, .int .i64 o.m.m, .string (ba o.t)]] W fun v w' => v = .bool true ∧ Kp none_ W w' := by
  refine ent [_, _] Tryd.func18 ((vcTryd18 _ _ _ _ _ _ _ _ _ _ _ _ _ _ W _).mpr ?_)
  unfold VCTryd18
  intro _
  have k0 : Kp none_ W (W.alloc (.cells #[.string (ba f), .int .i64 ti, .int .i64 o.k, .string (ba o.m.s), .int .i64 o.m.a, .int .i64 o.m.f, .int .i64 o.m.r, .int .i64 o.m.z, .int .u32 o.m.u, .int .i64 o.m.m, .string (ba o.t)] 95)) := (Kp.refl none_ W).alloc1 _
  have B0 : Big (W.alloc (.cells #[.string (ba f), .int .i64 ti, .int .i64 o.k, .string (ba o.m.s), .int .i64 o.m.a, .int .i64 o.m.f, .int .i64 o.m.r, .int .i64 o.m.z, .int .u32 o.m.u, .int .i64 o.m.m, .string (ba o.t)] 95)) W.heap.size 95 [.string (ba f), .int .i64 ti, .int .i64 o.k, .string (ba o.m.s), .int .i64 o.m.a, .int .i64 o.m.f, .int .i64 o.m.r, .int .i64 o.m.z, .int .u32 o.m.u, .int .i64 o.m.m, .string (ba o.t)] := Big.new W _ 95
  generalize W.alloc (.cells #[.string (ba f), .int .i64 ti, .int .i64 o.k, .string (ba o.m.s), .int .i64 o.m.a, .int .i64 o.m.f, .int .i64 o.m.r, .int .i64 o.m.z, .int .u32 o.m.u, .int .i64 o.m.m, .string (ba o.t)] 95) = w0 at *
  have z0 := B0.lt
  have live : ∀ {w : World} {bs : List Nat} {A : World → Prop}, Kp (fun i => W.heap.size ≤ i) W w → (∀ g ∈ bs, g < w.heap.size) → Rets Tryd.prog 66 #[] w fun v w' => ∃ t, v = .bool t ∧ Keeps w w' bs ∧ (A w' → ∃ v, Ending.returned (Value.bool t) = Ending.returned v ∧ v = .bool true ∧ Kp none_ W w') := fun k hb => (c66 (hml.far k (Nat.le_refl _))).mono (by
    rintro v w' ⟨rfl, k2⟩
    exact ⟨_, rfl, ks0 k2 hb, fun _ => ⟨_, rfl, rfl, (k.trans k2.wide).narrow (Nat.le_refl _)⟩⟩)
  have one : ∀ {w : World}, W.heap.size < w.heap.size → ∀ g ∈ [W.heap.size], g < w.heap.size := fun h g hg => by rw [List.mem_singleton] at hg; omega
  refine (c65 (hq.kp0 k0)).mono ?_
  rintro v wx ⟨t0, rfl, e, ht⟩
  obtain rfl := e.symm
  refine ⟨_, rfl, ks0 (Kp.refl _ _) (one z0), bif_b (fun _ _ => live k0.wide (one z0)) (fun h1 _ => ?_)⟩
  obtain ⟨hl, hn⟩ := ht h1
  refine (c40 (hq.kp0 k0) (fun b hb => ⟨by have := hn b hb; omega, hw b hb⟩) (by omega)).mono ?_
  rintro v w1 ⟨rfl, k1⟩
  have K1 := k0.trans k1
  have z1 := Nat.lt_of_lt_of_le z0 k1.size
  refine ⟨_, rfl, ks0 k1 (one z0), bif_not (fun _ _ => live K1.wide (one z1)) (fun hk => bif_dec (fun _ _ => live K1.wide (one z1)) (fun h2 => bif_dec (fun _ _ => live K1.wide (one z1)) (fun h3 _ => (c67 (hml.kp0 K1) (hq.kp0 K1) (fun b hb => by have := hn b hb; omega) (by omega)).mono ?_)))⟩
  rw [ba_size] at h2 h3
  rintro v w2 ⟨k2, ⟨h, _⟩ | ⟨_, b, hb, rfl, x2⟩⟩
  · rw [hk] at h; cases h
  have K2 := K1.trans k2
  have z2 := Nat.lt_of_lt_of_le z1 k2.size
  have okl := okL_of hk
  have hlen := okl.len
  have x2c := x2.cut
  have hO : ∀ i, (w1.heap.size ≤ i ∧ i < w2.heap.size) → W.heap.size < i ∧ i < w2.heap.size := fun i h => ⟨by omega, h.2⟩
  generalize hOe : (fun i => w1.heap.size ≤ i ∧ i < w2.heap.size) = O at *
  have hO : ∀ i, O i → W.heap.size < i ∧ i < w2.heap.size := fun i h => by rw [← hOe] at h; exact hO i h
  refine ⟨_, _, rfl, ks0 k2 (one z1), bif_ne (fun h => absurd rfl h) (fun _ => bif_b (fun h => by cases h) (fun _ _ => (c76 (hq.kp0 K2) (by omega) (ba f)).mono ?_))⟩
  rw [bytesL_ba]
  rintro v w3 ⟨q3, c3, rfl, r3, k3⟩
  have K3 := K2.trans k3
  have z3 := Nat.lt_of_lt_of_le z2 k3.size
  obtain ⟨k4, C4, z4⟩ := newcel (w := w3) (.slice none 0 0) (.slice q3 (inL l f).length c3) 42
  refine ⟨_, _, _, rfl, ks0 k3 (one z2), fun _ => ?_⟩
  generalize (w3.alloc (.cells #[.slice none 0 0] 42)).setCell ⟨w3.heap.size, 0, none⟩ (.slice q3 (inL l f).length c3) = w4 at *
  have K4 := K3.trans k4
  have x4 := (x2c.kp0 k3).kp0 k4
  refine (c77 (hml.kp0 K4) (by omega) (.inr ⟨b, rfl, x4⟩) (by omega) (ba f) (by rw [ba_size]; omega)).mono ?_
  rw [bytesL_ba]
  rintro v w5 ⟨q5, c5, rfl, r5, k5⟩
  have K5 := K4.trans k5
  obtain ⟨k6, C6, z6⟩ := newcel (w := w5) (.slice none 0 0) (.slice q5 (inL l f).length c5) 46
  have z5 := k5.size
  refine ⟨_, _, _, rfl, ks0 k5 (by simp; omega), fun _ => ?_⟩
  generalize (w5.alloc (.cells #[.slice none 0 0] 46)).setCell ⟨w5.heap.size, 0, none⟩ (.slice q5 (inL l f).length c5) = w6 at *
  have K6 := K5.trans k6
  have x6 := (x4.kp0 k5).kp0 k6
  refine (c78 (.inr ⟨b, rfl, x6⟩) (by omega) (ba f)).mono ?_
  rintro v w7 ⟨b1, b2, q7, c7, rfl, hb1, hb2, m7, hq7, hl1, hl2, k7⟩
  have K7 := K6.trans k7
  have z7 := k7.size
  refine ⟨_, rfl, ks0 k7 (by simp; omega), ?_⟩
  unfold FnVal
  refine bif_b (fun h => by cases h) (fun _ => bif_ne (fun h => absurd rfl h) (fun _ _ => ?_))
  have m3 := mems_of r3
  have x7 := x6.kp0 k7
  refine (c68 (hml.kp0 K7) x7 (fun h => by have := (hO 0 h).1; omega) (hq.kp0 K7) (fun x hx hpos h => by
    obtain ⟨x', e, mm⟩ := hq 0 hpos
    rw [hx] at e; cases e
    have := cell_lt mm.c0
    rw [add_block, add_block] at this
    have := (hO _ h).1
    omega) okl.asc (by omega) o (fun _ => by omega) ho).mono ?_
  rintro v w8 ⟨q8, c8, O8, rfl, x8, _, _, _, k8⟩
  have z8 := k8.size
  refine ⟨_, _, _, _, rfl, k8.keeps fun g hg => ?_, bif_not (fun h => by cases h) (fun _ _ => ?_)⟩
  · simp only [List.mem_cons, List.not_mem_nil, or_false] at hg
    rcases hg with rfl | rfl | rfl
    · exact ⟨by omega, fun h => by have := (hO _ h).1; omega⟩
    · exact ⟨by omega, fun h => by have := (hO _ h).2; have := k3.size; omega⟩
    · exact ⟨by omega, fun h => by have := (hO _ h).2; have := k3.size; omega⟩
  have K8 : Kp (fun i => W.heap.size ≤ i) W w8 := K7.wide.trans (k8.mono fun i _ h => Nat.le_of_lt (hO i h).1)
  have nO : ∀ i, w2.heap.size ≤ i → ¬ O i := fun i hi h => by have := (hO i h).2; omega
  have hz3 := k3.size
  have B8 := (((((((((B0.kp k1 id).kp k2 id).kp k3 id).kp k4 id).kp k5 id).kp k6 id).kp k7 id))).kp k8 fun h => by have := (hO _ h).1; omega
  have C4' := (((C4.kp k5 id).kp k6 id).kp k7 id).kp k8 (nO _ (by omega))
  have C6' := ((C6.kp k7 id)).kp k8 (nO _ (by omega))
  have m3' := ((((m3.kp0 k4).kp0 k5).kp0 k6).kp0 k7).kp k8 fun x hx hpos h => by
    obtain ⟨g, cur, eg, _, hg, _⟩ := r3.parts hpos
    rw [hx] at eg; cases eg
    have hg : w2.heap.size ≤ g := hg
    exact nO g hg h
  have n5' := (((nm_of r5).kp k6 fun _ _ _ => id).kp k7 fun _ _ _ => id).kp k8 fun x hx hpos h => by
    obtain ⟨g, cur, eg, _, hg, _⟩ := r5.parts hpos
    rw [hx] at eg; cases eg
    have hg : w4.heap.size ≤ g := hg
    exact nO g (by show w2.heap.size ≤ g; omega) h
  have hb1' := k8.cell hb1 (nO b1 (by show w2.heap.size ≤ b1; omega))
  have hb2' := k8.cell hb2 (nO b2 (by show w2.heap.size ≤ b2; omega))
  have m7' := m7.kp k8 fun x hx hpos h => nO x.block (by have := hq7 x hx; omega) h
  have lb1 := cell_lt hb1'
  have lb2 := cell_lt hb2'
  -- the two variables
  obtain ⟨k9, C9, z9⟩ := newcel (w := w8) (.int .i64 0) (.int .i64 0) 3
  generalize (w8.alloc (.cells #[.int .i64 0] 3)).setCell ⟨w8.heap.size, 0, none⟩ (.int .i64 0) = w9 at *
  obtain ⟨k10, C10, z10⟩ := newcel (w := w9) (.bool false) (.bool true) 4
  generalize (w9.alloc (.cells #[.bool false] 4)).setCell ⟨w9.heap.size, 0, none⟩ (.bool true) = wS at *
  have K10 := (K8.trans k9.wide).trans k10.wide
  have k910 := k9.trans k10
  have C9' := C9.kp k10 id
  let S : Nat → Prop := fun i => i = w9.heap.size ∨ i = w8.heap.size ∨ wS.heap.size ≤ i
  have nS : ∀ i, i < w8.heap.size → ¬ S i := fun i hi h => by rcases h with h | h | h <;> omega
  have hmlS := hml.far K10 (Nat.le_refl _)
  have lW : 0 < w8.heap.size := by omega
  let J : List Mb → World → Prop := fun l' w' => Cel w' w9.heap.size (.bool true) ∧ Cel w' w8.heap.size (.int .i64 l'.length) ∧ ¬ (1 ≤ ti ∧ ti ≤ l'.length) ∧ Kp S wS w'
  let E : World → Prop := fun w' => Cel w' w9.heap.size (.bool true) ∧ (∃ n : Nat, 1 ≤ n ∧ n ≤ (inL l f).length ∧ ti = n ∧ Cel w' w8.heap.size (.int .i64 n)) ∧ Kp S wS w'
  have hil := inL_len l f
  have call : CallsVal Tryd.prog (.func (.func 133) #[] #[.pointer (some ⟨b1, 0, none⟩), .pointer (some ⟨b2, 0, none⟩)]) #[.func (.func 79) #[] #[.pointer (some ⟨w9.heap.size, 0, none⟩), .pointer (some ⟨w8.heap.size, 0, none⟩), .pointer (some ⟨w3.heap.size, 0, none⟩), .pointer (some ⟨w5.heap.size, 0, none⟩), .pointer (some ⟨W.heap.size, 0, none⟩)]] wS fun v w' => v = .tuple #[] ∧ (J (inL l f) w' ∨ E w') := by
    refine ⟨isGo133, ?_⟩
    show Rets Tryd.prog 133 #[.func (.func 79) #[] #[.pointer (some ⟨w9.heap.size, 0, none⟩), .pointer (some ⟨w8.heap.size, 0, none⟩), .pointer (some ⟨w3.heap.size, 0, none⟩), .pointer (some ⟨w5.heap.size, 0, none⟩), .pointer (some ⟨W.heap.size, 0, none⟩)], .pointer (some ⟨b1, 0, none⟩), .pointer (some ⟨b2, 0, none⟩)] wS _
    have := c133 (y := .func (.func 79) #[] #[.pointer (some ⟨w9.heap.size, 0, none⟩), .pointer (some ⟨w8.heap.size, 0, none⟩), .pointer (some ⟨w3.heap.size, 0, none⟩), .pointer (some ⟨w5.heap.size, 0, none⟩), .pointer (some ⟨W.heap.size, 0, none⟩)]) (b1 := b1) (b2 := b2) (q := q7) (c := c7) (l := l) (s := ba f) (w := wS) (by rw [ba_size]; omega) (by omega) J E ⟨C10, C9', by simp; omega, Kp.refl _ _⟩ ?_ ?_ ?_
    · rw [bytesL_ba] at this; exact this
    · rintro l' u1 u2 ⟨h1, h2, h3, h4⟩ k
      exact ⟨h1.kp k id, h2.kp k id, h3, h4.trans k.wide⟩
    · rintro l' u1 ⟨_, _, _, h4⟩
      refine ⟨hmlS.kp h4 (nS 0 lW), h4.cell (k910.cell0 hb1') (nS _ lb1), h4.cell (k910.cell0 hb2') (nS _ lb2), (m7'.kp0 k910).kp h4 fun x hx hpos => nS _ ?_⟩
      obtain ⟨x', e, mm⟩ := m7' 0 hpos
      rw [hx] at e; cases e
      have := cell_lt mm.c0
      rwa [add_block, add_block] at this
    · rw [bytesL_ba]
      rintro l' t r u1 u2 hsp ⟨h1, h2, h3, h4⟩ kk
      have hi : l'.length < (inL l f).length := by rw [hsp]; simp
      have hti : (inL l f)[l'.length] = t := by simp [hsp]
      have h4' : Kp S wS u2 := h4.trans kk.wide
      have B := (B8.kp k910 id).kp h4' (nS _ (by omega))
      have Cn := (C4'.kp k910 id).kp h4' (nS _ (by omega))
      have Cm := (C6'.kp k910 id).kp h4' (nS _ (by omega))
      have Mi := (m3'.kp0 k910).kp h4' fun x hx hpos => nS _ (by
        obtain ⟨x', e, mm⟩ := m3' 0 hpos
        rw [hx] at e; cases e
        have := cell_lt mm.c0
        rwa [add_block, add_block] at this)
      have Ni := (n5'.kp k910 fun _ _ _ => id).kp h4' fun x hx hpos => nS _ (by
        obtain ⟨x', e, mm⟩ := n5' 0 hpos
        rw [hx] at e; cases e
        have := cell_lt mm
        rwa [add_block] at this)
      refine ⟨isGo79, ?_⟩
      show Rets Tryd.prog 79 #[mbV t, .pointer (some ⟨w9.heap.size, 0, none⟩), .pointer (some ⟨w8.heap.size, 0, none⟩), .pointer (some ⟨w3.heap.size, 0, none⟩), .pointer (some ⟨w5.heap.size, 0, none⟩), .pointer (some ⟨W.heap.size, 0, none⟩)] u2 _
      refine (c79 (l := inL l f) (i := l'.length) (ti := ti) hi (by omega) hti (h1.kp kk id) (h2.kp kk id) Cn Cm (B.cell 1) (by omega) (by omega) (by omega) Mi Ni).mono ?_
      rintro v u3 ⟨rfl, d1, d2, kd⟩
      have hk3 : Kp S wS u3 := h4'.trans (kd.mono fun i _ hi => hi.elim .inl fun h => .inr (.inl h))
      refine ⟨_, rfl, kd.mono fun i _ hi => ?_, ?_⟩
      · have a1 := h1.lt
        have a2 := h2.lt
        rcases hi with hi | hi
        · have hi : i = w9.heap.size := hi
          omega
        · have hi : i = w8.heap.size := hi
          omega
      · by_cases he : ((l'.length + 1 : Nat) : Int) = ti
        · have : (((l'.length + 1 : Nat) : Int) != ti) = false := by simp [he]
          rw [this]
          exact ⟨d1, ⟨l'.length + 1, by omega, by omega, he.symm, d2⟩, hk3⟩
        · have : (((l'.length + 1 : Nat) : Int) != ti) = true := by simpa using he
          rw [this]
          refine ⟨d1, by simpa using d2, ?_, hk3⟩
          simp only [List.length_append, List.length_singleton]
          omega
  refine call.mono ?_
  rintro v w11 ⟨rfl, hJ⟩
  have common : Kp S wS w11 ∧ Cel w11 w9.heap.size (.bool true) ∧ ∃ n : Nat, Cel w11 w8.heap.size (.int .i64 n) ∧ (n : Int) = if 0 < ti ∧ ti < (inL l f).length then ti else (inL l f).length := by
    rcases hJ with ⟨h1, h2, h3, h4⟩ | ⟨h1, ⟨n, n1, n2, n3, h2⟩, h4⟩
    · exact ⟨h4, h1, _, h2, by rw [if_neg (by omega)]⟩
    · refine ⟨h4, h1, n, h2, ?_⟩
      split <;> omega
  obtain ⟨k11, D1, n, D2, hn11⟩ := common
  have K11 : Kp (fun i => W.heap.size ≤ i) W w11 := K10.trans (k11.mono fun i _ hi => by rcases hi with h | h | h <;> omega)
  have Bk := (B8.kp k910 id).kp k11 (nS _ (by omega))
  have Cn := (C4'.kp k910 id).kp k11 (nS _ (by omega))
  have Cm := (C6'.kp k910 id).kp k11 (nS _ (by omega))
  have fin : ∀ {A : World → Prop} {F : Prop}, True := fun {_ _} => trivial
  refine ⟨rfl, k11.keeps0, _, Bk.cell 0, Bk.frz 0, _, Bk.cell 1, Bk.frz 1, _, Bk.cell 2, Bk.frz 2, _, Bk.cell 3, Bk.frz 3, _, Bk.cell 4, Bk.frz 4, _, Bk.cell 5, Bk.frz 5, _, Bk.cell 6, Bk.frz 6, _, Bk.cell 7, Bk.frz 7, _, Bk.cell 8, Bk.frz 8, _, Bk.cell 9, Bk.frz 9, _, Bk.cell 10, Bk.frz 10, _, _, _, Cn.cell, Cn.frz, _, _, _, Cm.cell, Cm.frz, _, D2.cell, D2.frz, _, D1.cell, D1.frz, ?_⟩
  have end_ : ∀ {A : World → Prop}, Rets Tryd.prog 66 #[] w11 fun v w' => ∃ t, v = .bool t ∧ Keeps w11 w' [] ∧ ∃ s66, w'.cell? ⟨W.heap.size, 0, none⟩ = some (.string s66) ∧ w'.frozen? ⟨W.heap.size, 0, none⟩ = false ∧ ∃ i67 : Int, w'.cell? ⟨W.heap.size, 1, none⟩ = some (.int .i64 i67) ∧ w'.frozen? ⟨W.heap.size, 1, none⟩ = false ∧ ∃ i68 : Int, w'.cell? ⟨W.heap.size, 2, none⟩ = some (.int .i64 i68) ∧ w'.frozen? ⟨W.heap.size, 2, none⟩ = false ∧ ∃ s69, w'.cell? ⟨W.heap.size, 3, none⟩ = some (.string s69) ∧ w'.frozen? ⟨W.heap.size, 3, none⟩ = false ∧
      ∃ i70 : Int, w'.cell? ⟨W.heap.size, 4, none⟩ = some (.int .i64 i70) ∧ w'.frozen? ⟨W.heap.size, 4, none⟩ = false ∧ ∃ i71 : Int, w'.cell? ⟨W.heap.size, 5, none⟩ = some (.int .i64 i71) ∧ w'.frozen? ⟨W.heap.size, 5, none⟩ = false ∧ ∃ i72 : Int, w'.cell? ⟨W.heap.size, 6, none⟩ = some (.int .i64 i72) ∧ w'.frozen? ⟨W.heap.size, 6, none⟩ = false ∧ ∃ i73 : Int, w'.cell? ⟨W.heap.size, 7, none⟩ = some (.int .i64 i73) ∧ w'.frozen? ⟨W.heap.size, 7, none⟩ = false ∧ ∃ i74 : Int, w'.cell? ⟨W.heap.size, 8, none⟩ = some (.int .u32 i74) ∧ w'.frozen? ⟨W.heap.size, 8, none⟩ = false ∧ ∃ i75 : Int, w'.cell? ⟨W.heap.size, 9, none⟩ = some (.int .i64 i75) ∧ w'.frozen? ⟨W.heap.size, 9, none⟩ = false ∧ ∃ s76, w'.cell? ⟨W.heap.size, 10, none⟩ = some (.string s76) ∧ w'.frozen? ⟨W.heap.size, 10, none⟩ = false ∧
      ∃ q77 n78 n79, w'.cell? ⟨w3.heap.size, 0, none⟩ = some (.slice q77 n78 n79) ∧ w'.frozen? ⟨w3.heap.size, 0, none⟩ = false ∧ ∃ q80 n81 n82, w'.cell? ⟨w5.heap.size, 0, none⟩ = some (.slice q80 n81 n82) ∧ w'.frozen? ⟨w5.heap.size, 0, none⟩ = false ∧ ∃ i83 : Int, w'.cell? ⟨w8.heap.size, 0, none⟩ = some (.int .i64 i83) ∧ w'.frozen? ⟨w8.heap.size, 0, none⟩ = false ∧ ∃ t84, w'.cell? ⟨w9.heap.size, 0, none⟩ = some (.bool t84) ∧ w'.frozen? ⟨w9.heap.size, 0, none⟩ = false ∧
      (Known w' [(W.heap.size, [(0, .string s66), (1, .int .i64 i67), (2, .int .i64 i68), (3, .string s69), (4, .int .i64 i70), (5, .int .i64 i71), (6, .int .i64 i72), (7, .int .i64 i73), (8, .int .u32 i74), (9, .int .i64 i75), (10, .string s76)]), (w3.heap.size, [(0, .slice q77 n78 n79)]), (w5.heap.size, [(0, .slice q80 n81 n82)]), (w8.heap.size, [(0, .int .i64 i83)]), (w9.heap.size, [(0, .bool t84)])] → ∃ v, Ending.returned (Value.bool t) = Ending.returned v ∧ v = .bool true ∧ Kp none_ W w') := fun {A} => (c66 (hml.far K11 (Nat.le_refl _))).mono (by
    rintro v w' ⟨rfl, k⟩
    have Bk := Bk.kp k id
    have Cn := Cn.kp k id
    have Cm := Cm.kp k id
    have D2 := D2.kp k id
    have D1 := D1.kp k id
    exact ⟨_, rfl, k.keeps0, _, Bk.cell 0, Bk.frz 0, _, Bk.cell 1, Bk.frz 1, _, Bk.cell 2, Bk.frz 2, _, Bk.cell 3, Bk.frz 3, _, Bk.cell 4, Bk.frz 4, _, Bk.cell 5, Bk.frz 5, _, Bk.cell 6, Bk.frz 6, _, Bk.cell 7, Bk.frz 7, _, Bk.cell 8, Bk.frz 8, _, Bk.cell 9, Bk.frz 9, _, Bk.cell 10, Bk.frz 10, _, _, _, Cn.cell, Cn.frz, _, _, _, Cm.cell, Cm.frz, _, D2.cell, D2.frz, _, D1.cell, D1.frz, fun _ => ⟨_, rfl, rfl, (K11.trans k.wide).narrow (Nat.le_refl _)⟩⟩)
  refine bif_dec (fun p1 => bif_dec (fun p2 => ?_) (fun p2 => ?_)) (fun p1 => ?_)
  · rw [if_pos ⟨by omega, by omega⟩] at hn11
    rw [cond_true]
    exact bif_eq (fun _ _ => end_ (A := fun _ => True)) (fun h => absurd hn11 h)
  · rw [if_neg (by omega)] at hn11
    rw [cond_true]
    exact bif_eq (fun _ _ => end_ (A := fun _ => True)) (fun h => absurd hn11 h)
  · rw [if_neg (by omega)] at hn11
    rw [cond_true]
    exact bif_eq (fun _ _ => end_ (A := fun _ => True)) (fun h => absurd hn11 h)
end Go.Proofs.YtbpknjldphckgaaDoor
