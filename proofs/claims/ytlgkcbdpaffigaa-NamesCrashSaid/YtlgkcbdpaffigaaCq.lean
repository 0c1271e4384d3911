/- Law05 'NamesCrash', walked to its end. -/
import Derived.Test.YtlgkcbdpaffigaaCo
namespace Go.Proofs.Ytlgkcbdpaffigaa
open Go Go.SX Go.Proofs
set_option maxRecDepth 100000
set_option linter.unusedVariables false
set_option linter.unusedSimpArgs false
theorem c7 {w : World} {q q' : Option Addr} {c c' : Nat} {l m : List Opx} (h : RowsAt w 4 opC q l) (g : RowsAt w 4 opC q' m) : Rets Try.prog 7 #[.slice q l.length c, .slice q' m.length c'] w fun v w' => v = .bool true ∧ Kp none_ w w' := by
  refine ent [_, _] Try.func7 ((vcTry7 _ _ _ _ _ _ w _).mpr ?_)
  unfold VCTry7
  have lives0 : Rets Try.prog 36 #[] w fun v3 w4 => ∃ t5 : Bool, v3 = .bool t5 ∧ Keeps w w4 [] ∧ ∃ v, Ending.returned (.bool t5) = Ending.returned v ∧ v = .bool true ∧ Kp none_ w w4 := by
    refine (c36 w).mono ?_
    rintro v w' ⟨rfl, k⟩
    exact ⟨_, rfl, k.keeps0, _, rfl, rfl, k⟩
  refine (c35 h).mono ?_
  rintro v wx ⟨e, t, rfl, ht⟩
  obtain rfl := e.symm
  refine ⟨_, rfl, (Kp.refl none_ _).keeps0, bif_b (fun _ => lives0) (fun ht' => (c35 g).mono ?_)⟩
  rintro v wx ⟨e, t', rfl, hu⟩
  obtain rfl := e.symm
  refine ⟨_, rfl, (Kp.refl none_ _).keeps0, bif_b (fun _ => lives0) (fun hu' => ?_)⟩
  have hn := ht ht'
  have hm := hu hu'
  simp (config := { maxSteps := 10000000 }) only [w4z_def, alloc_size]
  obtain ⟨T0, K0⟩ := w4z_ok w
  generalize w4z w = W at *
  refine ⟨fun i _ _ _ _ _ _ _ _ _ _ _ _ _ _ _ _ _ _ _ _ _ _ w' => ∃ st, Four (Two2 st) (Two2 st) w' w.heap.size none_ ∧ 0 ≤ i ∧ i ≤ l.length ∧ st.2.length ≤ i ∧ Kp none_ w w', fun i _ _ _ _ _ _ _ _ _ _ _ _ _ _ _ _ _ _ _ _ _ _ _ => (l.length - i).toNat, ⟨_, T0, by omega, by omega, by simp, K0⟩, ?_⟩
  rintro i _ _ _ _ _ _ _ _ _ _ _ _ _ _ _ _ _ _ _ _ _ _ w1 ⟨st, T1, i0, i1, il, K1⟩ _
  refine bif_dec (fun hi => ?_) (fun _ _ => ?_)
  · have hil : i.toNat < l.length := by omega
    obtain ⟨Q1, t1, b1, n1, n2, s4, go1⟩ := four1 (tk2 st) (tk2 st) T1 (fun _ h => h.elim)
    refine ⟨⟨i0, hi⟩, ((h.kp0 K1).get hil fun a ea hc => ?_)⟩
    refine ⟨_, _, _, _, ⟨hc 0 _ rfl, hc 1 _ rfl, hc 2 _ rfl, hc 3 _ rfl, trivial⟩, fun _ => ?_⟩
    refine (c37 t1 (by omega) l[i.toNat]).mono ?_
    rintro v w2 ⟨rfl, t1', k2⟩
    have T2 := go1 (T1' := Two2 (stepX st l[i.toNat])) t1' (tk2 _) k2
    have K2 : Kp none_ w w2 := K1.then k2 fun i hi hh => by have := (b1 i hh.1).1; omega
    obtain ⟨Od, Om, H, N, D, R, hh, lb, lm⟩ := Two.opn t1'
    refine ⟨_, rfl, keepsL k2 (mem2 ⟨by omega, fun hh => n1 hh.1⟩ ⟨by omega, fun hh => n2 hh.1⟩), D.pass fun _ _ _ _ _ => R.pass fun q2 c2 q3 c3 r2 e20 e21 => ?_⟩
    obtain ⟨Q2, t2, b2, m1, m2, s5, go2⟩ := four2 (tk2 _) (tk2 st) T2 (fun _ h => h.elim)
    refine ⟨⟨i0, hi⟩, ((h.kp0 K2).get hil fun a ea hc => ?_)⟩
    refine ⟨_, _, _, _, ⟨hc 0 _ rfl, hc 1 _ rfl, hc 2 _ rfl, hc 3 _ rfl, trivial⟩, fun _ => ?_⟩
    refine (c37 t2 (by omega) l[i.toNat]).mono ?_
    rintro v w3 ⟨rfl, t2', k3⟩
    have T3 := go2 (T2' := Two2 (stepX st l[i.toNat])) t2' (tk2 _) k3
    have K3 : Kp none_ w w3 := K2.then k3 fun i hi hh => by have := (b2 i hh.1).1; omega
    obtain ⟨Od, Om, H, N, D, R, hh, lb, lm⟩ := Two.opn t2'
    have sl := stepX_len st l[i.toNat]
    exact ⟨_, rfl, keepsL k3 (mem2 ⟨by omega, fun hh => m1 hh.1⟩ ⟨by omega, fun hh => m2 hh.1⟩), D.pass fun _ _ _ _ _ => R.pass fun q2 c2 q3 c3 r2 e20 e21 => wr64 (by omega) ⟨⟨_, T3, by omega, by omega, by omega, K3⟩, by first | omega | (dsimp only; omega)⟩⟩
  · -- what is safe
    have il60 : st.2.length ≤ 60 := by omega
    clear il i1 i0
    obtain ⟨Q1, t1, b1, n1, n2, s4, go1⟩ := four1 (tk2 st) (tk2 st) T1 (fun _ h => h.elim)
    refine (c38T t1 il60).mono ?_
    rintro v w2 ⟨rfl, t1', k2⟩
    have T2 := go1 (T1' := TwoR 60 (lastE st.1 st.2, [])) t1' (tkr _ _) (k2.mono fun i _ hi => hi.1)
    have K2 : Kp none_ w w2 := K1.then k2 fun i hi hh => by have := (b1 i hh.1.1).1; omega
    obtain ⟨Od, Om, H, N, D, R, hh⟩ := TwoR.opn t1'
    refine ⟨rfl, keepsL k2 (mem3 ⟨by omega, fun hh => n1 hh.1.1⟩ ⟨by omega, fun hh => hh.2 rfl⟩ ⟨by omega, fun hh => n2 hh.1.1⟩), D.pass fun _ _ _ _ _ _ => ?_⟩
    obtain ⟨Q2, t2, b2, m1, m2, s5, go2⟩ := four2 (tkr _ _) (tk2 st) T2 (fun _ h => h.elim)
    refine (c38T t2 il60).mono ?_
    rintro v w3 ⟨rfl, t2', k3⟩
    have T3 := go2 (T2' := TwoR 60 (lastE st.1 st.2, [])) t2' (tkr _ _) (k3.mono fun i _ hi => hi.1)
    have K3 : Kp none_ w w3 := K2.then k3 fun i hi hh => by have := (b2 i hh.1.1).1; omega
    obtain ⟨Od, Om, H, N, D, R, hh⟩ := TwoR.opn t2'
    refine ⟨rfl, keepsL k3 (mem3 ⟨by omega, fun hh => m1 hh.1.1⟩ ⟨by omega, fun hh => m2 hh.1.1⟩ ⟨by omega, fun hh => hh.2 rfl⟩), D.pass fun _ _ _ _ _ _ => ?_⟩
    clear go1 go2 D R hh t1 t1' t2 t2' T1 T2 b1 b2 n1 n2 m1 m2 k2 k3 H N Od Om Q1 Q2
    generalize lastE st.1 st.2 = S0 at *
    obtain ⟨Od, Oe, d, e, dis, bnd, s6, wS, ok⟩ := T3.flat
    have aS : Asc Prod.fst S0 := wS.asc
    have lS : S0.length ≤ 1000000 := by have : S0.length ≤ 16 := wS.len; omega
    refine (c39 d aS lS).mono ?_
    rintro v w4 ⟨q93, c93, rfl, r93, f93, k4⟩
    have r93 : RowsAt w4 1 strC q93 (S0.map Prod.fst) := r93
    have z4 := k4.size
    refine ⟨_, _, _, rfl, k4.keeps (mem3 ⟨by omega, id⟩ ⟨by omega, id⟩ ⟨by omega, id⟩), (d.kp0 k4).pass fun _ _ _ _ _ => ?_⟩
    have T4 := T3.frame (F' := fun i => (∃ a, q93 = some a ∧ a.block = i) ∧ i < w4.heap.size) (tkr _ _) (tkr _ _) k4 (fun i ⟨⟨a, e, hb⟩, _⟩ => .inr (by have := f93 a e; omega))
    have F4 : ∀ i, ((∃ a, q93 = some a ∧ a.block = i) ∧ i < w4.heap.size) → i < w4.heap.size := fun i hi => hi.2
    have F5 : 0 < (S0.map Prod.fst).length → ∀ a, q93 = some a → (∃ b, q93 = some b ∧ b.block = a.block) ∧ a.block < w4.heap.size := fun h0 a e => ⟨⟨a, e, rfl⟩, r93.lt strC_len (by omega) h0 a e⟩
    generalize hF : (fun i => (∃ a, q93 = some a ∧ a.block = i) ∧ i < w4.heap.size) = F at *
    have F4 : ∀ i, F i → i < w4.heap.size := fun i hi => by rw [← hF] at hi; exact hi.2
    have F5 : 0 < (S0.map Prod.fst).length → ∀ a, q93 = some a → F a.block := fun h0 a e => by rw [← hF]; exact F5 h0 a e
    clear hF d e dis bnd
    have K4 := K3.trans k4
    refine ⟨fun i _ _ _ _ _ _ _ _ _ _ _ _ _ _ _ _ _ _ _ _ _ _ w' => ∃ ws L, Four (TwoR L (S0, ws)) (TwoR L (S0, ws)) w' w.heap.size F ∧ 0 ≤ i ∧ i ≤ m.length ∧ ws.length ≤ i ∧ L ≤ 60 + i ∧ RowsAt w' 1 strC q93 (S0.map Prod.fst) ∧ w4.heap.size ≤ w'.heap.size ∧ Kp none_ w w', fun i _ _ _ _ _ _ _ _ _ _ _ _ _ _ _ _ _ _ _ _ _ _ _ => (m.length - i).toNat, ⟨_, _, T4, by omega, by omega, by simp, by omega, r93, Nat.le_refl _, K4⟩, ?_⟩
    clear r93 T4 T3 f93
    rintro i _ _ _ _ _ _ _ _ _ _ _ _ _ _ _ _ _ _ _ _ _ _ w5 ⟨ws, L, T5, i0, i1, il, iL, r93, z5, K5⟩ _
    have F6 : ∀ i, F i → i < w5.heap.size := fun i hi => by have := F4 i hi; omega
    refine bif_dec (fun hi => ?_) (fun _ _ => ?_)
    · have hil : i.toNat < m.length := by omega
      have skip : ∀ {P Q : Int → Prop}, (∀ j, j = i + 1 → P j ∧ Q j) → Wr .i64 (i + 1) fun j => P j ∧ Q j := fun h => wr64 (by omega) (h _ rfl)
      refine ⟨⟨i0, hi⟩, ((g.kp0 K5).get hil fun a ea hc => ⟨_, hc 0 _ rfl, bif_dec (fun hk0 => ⟨⟨i0, hi⟩, ((g.kp0 K5).get hil fun a ea hc => ⟨_, hc 0 _ rfl, bif_dec (fun hk2 => ⟨⟨i0, hi⟩, ((g.kp0 K5).get hil fun a ea hc => ?_)⟩) (fun _ => ?_)⟩)⟩) (fun _ => ?_)⟩)⟩
      · obtain ⟨Q1, t1, b1, n1, n2, s4, go1⟩ := four1 (tkr _ _) (tkr _ _) T5 F6
        refine ⟨_, _, _, _, ⟨hc 0 _ rfl, hc 1 _ rfl, hc 2 _ rfl, hc 3 _ rfl, trivial⟩, fun _ => ?_⟩
        have es : stepX (S0, ws) m[i.toNat] = (S0, (stepX (S0, ws) m[i.toNat]).2) := Prod.ext (stepX_fst (S0, ws) m[i.toNat] ⟨hk0, hk2⟩) rfl
        have sl : (stepX (S0, ws) m[i.toNat]).2.length ≤ ws.length + 1 := stepX_len (S0, ws) m[i.toNat]
        refine (c37r t1 (by omega) (by show ws.length ≤ _; omega) m[i.toNat] ⟨hk0, hk2⟩).mono ?_
        rintro v w6 ⟨rfl, t1', k6⟩
        have z6 := k6.size
        have T6 := go1 (T1' := TwoR (L + 1) (stepX (S0, ws) m[i.toNat])) t1' (tkr _ _) k6
        have K6 : Kp none_ w w6 := K5.then k6 fun i hi hh => by have := (b1 i hh.1).1; omega
        have r6 := r93.kp k6 fun h0 a e hh => (b1 _ hh.1).2.2 (F5 h0 a e)
        obtain ⟨Od, Om, H, N, D, R, hh⟩ := TwoR.opn t1'
        refine ⟨_, rfl, keepsL k6 (mem2 ⟨by omega, fun hh => n1 hh.1⟩ ⟨by omega, fun hh => n2 hh.1⟩), D.pass fun _ _ _ _ _ => R.pass fun q2 c2 q3 c3 r2 e20 e21 => ?_⟩
        obtain ⟨Q2, t2, b2, m1, m2, s5, go2⟩ := four2 (tkr _ _) (tkr _ _) T6 (fun i hi => by have := F6 i hi; omega)
        refine ⟨⟨i0, hi⟩, ((g.kp0 K6).get hil fun a ea hc => ?_)⟩
        refine ⟨_, _, _, _, ⟨hc 0 _ rfl, hc 1 _ rfl, hc 2 _ rfl, hc 3 _ rfl, trivial⟩, fun _ => ?_⟩
        refine (c37r t2 (by omega) (by show ws.length ≤ _; omega) m[i.toNat] ⟨hk0, hk2⟩).mono ?_
        rintro v w7 ⟨rfl, t2', k7⟩
        have z7 := k7.size
        have T7 := go2 (T2' := TwoR (L + 1) (stepX (S0, ws) m[i.toNat])) t2' (tkr _ _) k7
        have K7 : Kp none_ w w7 := K6.then k7 fun i hi hh => by have := (b2 i hh.1).1; omega
        have r7 := r6.kp k7 fun h0 a e hh => (b2 _ hh.1).2.2 (F5 h0 a e)
        obtain ⟨Od, Om, H, N, D, R, hh⟩ := TwoR.opn t2'
        rw [es] at T7
        exact ⟨_, rfl, keepsL k7 (mem2 ⟨by omega, fun hh => m1 hh.1⟩ ⟨by omega, fun hh => m2 hh.1⟩), D.pass fun _ _ _ _ _ => R.pass fun q2 c2 q3 c3 r2 e20 e21 => wr64 (by omega) ⟨⟨_, _, T7, by omega, by omega, by omega, by omega, r7, by omega, K7⟩, by first | omega | (dsimp only; omega)⟩⟩
      · exact wr64 (by omega) ⟨⟨ws, L, T5, by omega, by omega, by omega, by omega, r93, z5, K5⟩, by first | omega | (dsimp only; omega)⟩
      · exact wr64 (by omega) ⟨⟨ws, L, T5, by omega, by omega, by omega, by omega, r93, z5, K5⟩, by first | omega | (dsimp only; omega)⟩
    · -- both crash
      obtain ⟨Od, Oe, d, e, dis, bnd, s6, wS, ok⟩ := T5.flat
      have okd : okCs S0 ws := ok
      have wl : ws.length ≤ 1000000 := by omega
      have wN : WfE (lastE S0 ws) := wf_last wS okd
      have lN : (lastE S0 ws).length ≤ 1000000 := by have := wN.len; omega
      have de := e.lt.2
      have dd := d.lt.2
      refine (c39 d wN.asc lN).mono ?_
      rintro v w6 ⟨q174, c174, rfl, r174, f174, k6⟩
      have r174 : RowsAt w6 1 strC q174 ((lastE S0 ws).map Prod.fst) := r174
      have z6 := k6.size
      refine ⟨_, _, _, rfl, k6.keeps (mem3 ⟨by omega, id⟩ ⟨by omega, id⟩ ⟨by omega, id⟩), (d.kp0 k6).pass fun _ _ _ _ _ _ => (c41 (d.kp0 k6)).mono ?_⟩
      rintro v w6' ⟨e', rfl⟩
      obtain rfl := e'.symm
      refine ⟨_, rfl, (Kp.refl none_ _).keeps (mem3 ⟨by omega, id⟩ ⟨by omega, id⟩ ⟨by omega, id⟩), (d.kp0 k6).pass fun _ _ _ _ _ _ => (c40 (d.kp0 k6) (fun i hi => by have := (bnd i (.inl hi)).2.1; omega) wS okd wl ws.length).mono ?_⟩
      rintro v w7 ⟨rfl, d7, k7, _⟩
      have z7 := k7.size
      refine ⟨rfl, keepsL k7 (mem3 ⟨by omega, fun hh => dis _ hh de⟩ ⟨by omega, fun hh => (bnd _ (.inl hh)).2.2.2.1 rfl⟩ ⟨by omega, fun hh => (bnd _ (.inl hh)).2.2.2.2 rfl⟩), d7.pass fun _ _ _ _ _ _ => ?_⟩
      have e7 : DR w7 Oe (w.heap.size + 1) 0 S0 ws := (e.kp0 k6).kp k7 fun i _ hi => ⟨fun ho => dis i ho hi, hi⟩
      refine (c40 e7 (fun i hi => by have := (bnd i (.inr hi)).2.1; omega) wS okd wl 0).mono ?_
      rintro v w8 ⟨rfl, e8, k8, _⟩
      have z8 := k8.size
      refine ⟨rfl, keepsL k8 (mem3 ⟨by omega, fun hh => dis _ dd hh⟩ ⟨by omega, fun hh => (bnd _ (.inr hh)).2.2.2.1 rfl⟩ ⟨by omega, fun hh => (bnd _ (.inr hh)).2.2.2.2 rfl⟩), e8.pass fun _ _ _ _ _ _ => ?_⟩
      have d8 := d7.kp (O' := fun i => Od i ∨ w6.heap.size ≤ i) k8 fun i hl hi => ⟨fun ho => by
        rcases hi with hi | hi
        · exact dis i hi ho
        · have := (bnd i (.inr ho)).2.1; omega, hi⟩
      rw [show ws.take (ws.length : Int).toNat = ws from List.take_of_length_le (by simp)] at d8
      have e8 : DR w8 (fun i => Oe i ∨ w7.heap.size ≤ i) (w.heap.size + 1) 0 S0 [] := e8
      have eN : ∀ S : List Ent, lastE S [] = S := fun _ => rfl
      refine (c39 d8 wN.asc lN).mono ?_
      rintro v w9 ⟨q206, c206, rfl, r206, f206, k9⟩
      have r206 : RowsAt w9 1 strC q206 ((lastE S0 ws).map Prod.fst) := r206
      have z9 := k9.size
      refine ⟨_, _, _, rfl, k9.keeps (mem3 ⟨by omega, id⟩ ⟨by omega, id⟩ ⟨by omega, id⟩), (d8.kp0 k9).pass fun _ _ _ _ _ _ => (c39 (e8.kp0 k9) wS.asc (by show S0.length ≤ _; omega)).mono ?_⟩
      rintro v w10 ⟨q216, c216, rfl, r216, f216, k10⟩
      have r216 : RowsAt w10 1 strC q216 (S0.map Prod.fst) := r216
      have z10 := k10.size
      have d10 := (d8.kp0 k9).kp0 k10
      have e10 := (e8.kp0 k9).kp0 k10
      have ro174 : RowsAt w10 1 strC q174 ((lastE S0 ws).map Prod.fst) := (((r174.kp k7 fun _ a e hh => by have := f174 a e; have := (bnd _ (.inl hh)).2.1; omega).kp k8 fun _ a e hh => by have := f174 a e; have := (bnd _ (.inr hh)).2.1; omega).kp0 k9).kp0 k10
      have ro206 := r206.kp0 k10
      have ro93 : RowsAt w10 1 strC q93 (S0.map Prod.fst) := ((((r93.kp0 k6).kp k7 fun h0 a e hh => (bnd _ (.inl hh)).2.2.1 (F5 h0 a e)).kp k8 fun h0 a e hh => (bnd _ (.inr hh)).2.2.1 (F5 h0 a e)).kp0 k9).kp0 k10
      have K10 : Kp none_ w w10 := ((((K5.trans k6).then k7 fun i hi hh => by have := (bnd i (.inl hh)).1; omega).then k8 fun i hi hh => by have := (bnd i (.inr hh)).1; omega).trans k9).trans k10
      refine ⟨_, _, _, rfl, k10.keeps (mem3 ⟨by omega, id⟩ ⟨by omega, id⟩ ⟨by omega, id⟩), e10.pass fun _ _ _ _ _ => ?_⟩
      refine bif_ne (fun hh => absurd rfl hh) fun _ => bif_ne (fun hh => absurd rfl hh) fun _ _ => (c41 d10).mono ?_
      rintro v w10' ⟨e', rfl⟩
      obtain rfl := e'.symm
      refine ⟨_, rfl, (Kp.refl none_ _).keeps (mem3 ⟨by omega, id⟩ ⟨by omega, id⟩ ⟨by omega, id⟩), d10.pass fun _ _ _ _ _ => bif_ne (fun hh => absurd rfl hh) fun _ _ => (c41 e10).mono ?_⟩
      rintro v w10' ⟨e', rfl⟩
      obtain rfl := e'.symm
      refine ⟨_, rfl, (Kp.refl none_ _).keeps (mem3 ⟨by omega, id⟩ ⟨by omega, id⟩ ⟨by omega, id⟩), e10.pass fun _ _ _ _ _ => bif_ne (fun hh => absurd rfl hh) fun _ => ?_⟩
      refine ⟨fun i w' => Kp none_ w10 w' ∧ 0 ≤ i, fun i _ => ((lastE S0 ws).length - i).toNat, ⟨Kp.refl _ _, by omega⟩, ?_⟩
      rintro i w11 ⟨k11, j0⟩ _
      have z11 := k11.size
      refine bif_dec (fun hi => ?_) (fun _ => ?_)
      · have hi : i < (lastE S0 ws).length := hi
        have hil : i.toNat < ((lastE S0 ws).map Prod.fst).length := by simp; omega
        refine ⟨⟨j0, hi⟩, (ro206.kp0 k11).get hil fun a ea hc => ⟨_, (cell_add0 _ _).symm.trans (hc 0 _ rfl), ⟨j0, hi⟩, (ro174.kp0 k11).get hil fun a ea hc => ⟨_, (cell_add0 _ _).symm.trans (hc 0 _ rfl), ?_⟩⟩⟩
        exact bif_not (fun hh => by simp at hh) fun _ => wr64 (by omega) ⟨rfl, ⟨k11.drew, by omega⟩, by first | omega | (dsimp only; omega)⟩
      · refine ⟨fun i w' => Kp none_ w11 w' ∧ 0 ≤ i, fun i _ => (S0.length - i).toNat, ⟨Kp.refl _ _, by omega⟩, ?_⟩
        rintro i w12 ⟨k12, j0⟩ _
        have z12 := k12.size
        refine bif_dec (fun hi => ?_) (fun _ _ => ?_)
        · have hi : i < S0.length := hi
          have hil : i.toNat < (S0.map Prod.fst).length := by simp; omega
          refine ⟨⟨j0, hi⟩, ((r216.kp0 k11).kp0 k12).get hil fun a ea hc => ⟨_, (cell_add0 _ _).symm.trans (hc 0 _ rfl), ⟨j0, hi⟩, ((ro93.kp0 k11).kp0 k12).get hil fun a ea hc => ⟨_, (cell_add0 _ _).symm.trans (hc 0 _ rfl), ?_⟩⟩⟩
          exact bif_not (fun hh => by simp at hh) fun _ => wr64 (by omega) ⟨rfl, ⟨k12.drew, by omega⟩, by first | omega | (dsimp only; omega)⟩
        · refine (c36 w12).mono ?_
          rintro v w13 ⟨rfl, k13⟩
          exact ⟨_, rfl, k13.keeps (mem4 ⟨by omega, id⟩ ⟨by omega, id⟩ ⟨by omega, id⟩ ⟨by omega, id⟩), fun _ => ⟨_, rfl, rfl, ((K10.trans k11).trans k12).trans k13⟩⟩
end Go.Proofs.Ytlgkcbdpaffigaa
