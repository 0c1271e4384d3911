/- Law05 'NamesLook', walked. -/
import Derived.Test.YtlgkcbdpaffigaaCm
import Derived.Test.YtlgkcbdpaffigaaVnd
namespace Go.Proofs.Ytlgkcbdpaffigaa
open Go Go.SX Go.Proofs
set_option maxRecDepth 100000
set_option linter.unusedVariables false
set_option linter.unusedSimpArgs false
theorem Two.opn {w : World} {Q : Nat → Prop} {bd bm : Nat} {st : List Ent × List Chg} (h : Two w Q bd bm st) : ∃ (Od Om : Nat → Prop) (H : List (List Ent)) (N : List Ent), DR w Od bd 0 st.1 st.2 ∧ RD w Om bm 0 H N ∧ Hst st.1 st.2 H N ∧ bd < w.heap.size ∧ bm < w.heap.size := by
  obtain ⟨Od, Om, H, N, h1, h2, h3, h4, h5⟩ := h
  exact ⟨Od, Om, H, N, h1, h2, h5, h1.lt.1, h2.lt.1⟩
theorem keeps2 {w w' : World} {a b : Nat} (k : Kp none_ w w') (ha : a < w.heap.size) (hb : b < w.heap.size) : Keeps w w' [a, b] := k.keeps fun i hi => ⟨by simp only [List.mem_cons, List.not_mem_nil, or_false] at hi; omega, id⟩
theorem keeps1 {w w' : World} {a : Nat} (k : Kp none_ w w') (ha : a < w.heap.size) : Keeps w w' [a] := k.keeps fun i hi => ⟨by simp only [List.mem_cons, List.not_mem_nil, or_false] at hi; omega, id⟩
theorem keeps2r {w : World} {a b : Nat} (ha : a < w.heap.size) (hb : b < w.heap.size) : Keeps w w [a, b] := keeps2 (Kp.refl _ _) ha hb
theorem keeps1r {w : World} {a : Nat} (ha : a < w.heap.size) : Keeps w w [a] := keeps1 (Kp.refl _ _) ha
/-- Both have done a call. -/
theorem two_step {w w1 w2 : World} {bd bm : Nat} {st : List Ent × List Chg} (K1 : Kp none_ w w1) (T2 : Two w2 (fun i => w.heap.size ≤ i ∨ w1.heap.size ≤ i) bd bm st) (K2 : Kp (fun i => w.heap.size ≤ i ∧ i < w1.heap.size) w1 w2) : Two w2 (fun i => w.heap.size ≤ i) bd bm st ∧ Kp none_ w w2 := by
  have z1 := K1.size
  exact ⟨T2.kp (Kp.refl none_ _) fun i hl hi => ⟨id, by rcases hi with hi | hi <;> omega⟩, K1.then K2 fun i hi hh => by have := hh.1; omega⟩
theorem c10 {w : World} {q : Option Addr} {c : Nat} {l : List Opx} (h : RowsAt w 4 opC q l) (a : List UInt8) (nu : Int) : Rets Try.prog 10 #[.slice q l.length c, .string (ba a), .int .i64 nu] w fun v w' => v = .bool true ∧ Kp none_ w w' := by
  refine ent [_, _, _] Try.func10 ((vcTry10 _ _ _ _ _ w _).mpr ?_)
  unfold VCTry10
  refine (c35 h).mono ?_
  rintro v wx ⟨e, t, rfl, ht⟩
  obtain rfl := e.symm
  have lives : Rets Try.prog 36 #[] w fun v3 w4 => ∃ t5 : Bool, v3 = .bool t5 ∧ Keeps w w4 [] ∧ ∃ v, Ending.returned (.bool t5) = Ending.returned v ∧ v = .bool true ∧ Kp none_ w w4 := by
    refine (c36 w).mono ?_
    rintro v w' ⟨rfl, k⟩
    exact ⟨_, rfl, k.keeps0, _, rfl, rfl, k⟩
  refine ⟨_, rfl, (Kp.refl none_ _).keeps0, bif_b (fun _ => lives) (fun ht' => bif_dec (fun _ => lives) fun _ => ?_)⟩
  have hn := ht ht'
  simp only [w2z_def, alloc_size]
  obtain ⟨T0, K0, z0⟩ := w2z_ok w
  generalize w2z w = W at *
  refine ⟨fun i _ _ _ _ _ _ _ _ _ _ _ w' => ∃ st, Two w' (fun i => w.heap.size ≤ i) w.heap.size (w.heap.size + 1) st ∧ 0 ≤ i ∧ i ≤ l.length ∧ st.2.length ≤ i ∧ Kp none_ w w', fun i _ _ _ _ _ _ _ _ _ _ _ _ => (l.length - i).toNat, ⟨_, T0, by omega, by omega, by simp, K0⟩, ?_⟩
  rintro i _ _ _ _ _ q17 n18 c19 _ _ _ w1 ⟨st, T1, i0, i1, il, K1⟩ _
  refine bif_dec (fun hi => ?_) (fun _ kn => ?_)
  · have hil : i.toNat < l.length := by omega
    refine ⟨⟨i0, hi⟩, ((h.kp0 K1).get hil fun a ea hc => ?_)⟩
    refine ⟨_, _, _, _, ⟨hc 0 _ rfl, hc 1 _ rfl, hc 2 _ rfl, hc 3 _ rfl, trivial⟩, fun _ => ?_⟩
    refine (c37 T1 (by omega) l[i.toNat]).mono ?_
    rintro v w2 ⟨rfl, T2, K2⟩
    obtain ⟨T2, K2'⟩ := two_step K1 T2 K2
    have sl := stepX_len st l[i.toNat]
    generalize stepX st l[i.toNat] = st2 at *
    obtain ⟨Od, Om, H, N, D, R, hh, lb, lm⟩ := T2.opn
    exact ⟨_, rfl, K2.keeps0, D.pass fun _ _ _ _ _ => R.pass fun q2 c2 q3 c3 r2 e20 e21 => wr64 (by omega) ⟨⟨st2, T2, by omega, by omega, by omega, K2'⟩, by first | omega | (dsimp only; omega)⟩⟩
  · obtain ⟨Od, Om, H, N, D, R, hh, lb, lm⟩ := T1.opn
    have eN := hh.last
    have wN := hh.wfN
    have lN : N.length ≤ 1000000 := by have := wN.len; omega
    have lH : H.length ≤ 1000000 := by rw [hh.len]; omega
    refine (c38n w1).mono ?_
    rintro v w2 ⟨e, rfl⟩
    obtain rfl := e.symm
    refine ⟨rfl, keeps2r lb lm, fun _ => (c40n nu w1).mono ?_⟩
    rintro v w2 ⟨e, rfl⟩
    obtain rfl := e.symm
    refine ⟨rfl, keeps2r lb lm, fun _ => (c42n _ w1).mono ?_⟩
    rintro v w2 ⟨e, rfl⟩
    obtain rfl := e.symm
    refine ⟨_, _, rfl, keeps2r lb lm, bif_b (fun hh => by cases hh) fun _ _ => (c39n w1).mono ?_⟩
    rintro v w2 ⟨e, rfl⟩
    obtain rfl := e.symm
    refine ⟨_, _, _, rfl, keeps2r lb lm, bif_ne (fun hh => absurd rfl hh) fun _ _ => (c46n nu w1).mono ?_⟩
    rintro v w2 ⟨rfl, k2⟩
    have z2 := k2.size
    have lb2 : w.heap.size < w2.heap.size := by omega
    have lm2 : w.heap.size + 1 < w2.heap.size := by omega
    refine ⟨_, rfl, keeps2 k2 lb lm, bif_b (fun hh => by cases hh) fun _ _ => (c41n w2).mono ?_⟩
    rintro v w3 ⟨e, rfl⟩
    obtain rfl := e.symm
    refine ⟨_, rfl, keeps2r lb2 lm2, bif_ne (fun hh => absurd rfl hh) fun _ _ => (c47n _ _ w2).mono ?_⟩
    rintro v w3 ⟨e, rfl⟩
    obtain rfl := e.symm
    refine ⟨_, rfl, keeps2r lb2 lm2, bif_ne (fun hh => absurd rfl hh) fun _ _ => (c43n _ _ w2).mono ?_⟩
    rintro v w3 ⟨e, rfl⟩
    obtain rfl := e.symm
    refine ⟨_, rfl, keeps2r lb2 lm2, bif_ne (fun hh => absurd rfl hh) fun _ _ => (c48n _ w2).mono ?_⟩
    rintro v w3 ⟨e, rfl⟩
    obtain rfl := e.symm
    have D2 := D.kp0 k2
    have R2 := R.kp0 k2
    refine ⟨_, rfl, keeps2r lb2 lm2, bif_ne (fun hh => absurd rfl hh) fun _ _ => (c42 D2 a).mono ?_⟩
    rintro v w3 ⟨e, rfl⟩
    obtain rfl := e.symm
    obtain ⟨qn, cn, e0, r0, _⟩ := R.now
    have e0' := kn.2.1.2.1.1
    rw [e0] at e0'
    cases e0'
    refine ⟨_, _, rfl, keeps1r lm2, D2.pass fun _ _ _ _ _ _ => (c49 (r0.kp0 k2) lN a).mono ?_⟩
    rintro v w3 ⟨e, j, rfl, hj⟩
    obtain rfl := e.symm
    have lb3 := lb2
    refine ⟨_, rfl, keeps2r lb2 lm2, ?_⟩
    have hok : ((H ++ [N]).any fun l => idIn l nu) = (made st.2 nu || (idIn (lastE st.1 st.2) nu || idIn st.1 nu)) := by
      rw [hh.all]; exact linked_eq hh.wf hh.ok nu
    rw [← eN]
    rcases hj with ⟨rfl, hf⟩ | ⟨j, hj, rfl, hx⟩
    · have hl : lookE N a = none := by
        have := look_has (l := N) (s := a)
        rw [hf] at this
        cases hl : lookE N a with
        | none => rfl
        | some _ => rw [hl] at this; cases this
      rw [hf, hl]
      refine bif_not (fun hh => by cases hh) fun _ => ?_
      refine bif_b (fun hh => by cases hh) fun _ => bif_not (fun _ => bif_ne (fun hh => absurd rfl hh) fun _ _ => ?_) (fun hh => by cases hh)
      refine (c46 D2 (by omega) (by rw [← eN]; exact wN.asc) (by rw [← eN]; exact lN) hh.wf.asc (by have := hh.wf.len; omega) nu).mono ?_
      rintro v w3 ⟨rfl, k3⟩
      have z3 := k3.size
      refine ⟨_, rfl, keeps1 k3 lm2, (D2.kp0 k3).pass fun _ _ _ _ _ _ => (c50 (R2.kp0 k3) lH (fun l hl => by have := (hh.wfH l hl).len; omega) lN nu).mono ?_⟩
      rintro v w4 ⟨e, rfl⟩
      obtain rfl := e.symm
      refine ⟨_, rfl, keeps1r (by omega), (R2.kp0 k3).pass fun _ _ _ _ _ _ _ => ?_⟩
      rw [hok]
      refine bif_b (fun _ _ => (c36 w3).mono ?_) (fun hh => by simp at hh)
      rintro v w5 ⟨rfl, k5⟩
      exact ⟨_, rfl, keeps2 k5 (by omega) (by omega), fun _ => ⟨_, rfl, rfl, ((K1.trans k2).trans k3).trans k5⟩⟩
    · have hl : lookE N a = some N[j].2 := by rw [← hx]; exact look_at (asc_nk wN.asc) hj
      have hf : has Prod.fst N a = true := by rw [← hx]; exact has_at hj
      rw [hf, hl]
      refine bif_not (fun hh => by simp at hh) fun _ => ?_
      refine bif_b (fun _ => ⟨⟨by omega, by omega⟩, (r0.kp0 k2).get (i := (j : Int).toNat) (by simpa using hj) fun a' ea hc => ⟨_, hc 1 _ rfl, bif_ne (fun hh => absurd rfl hh) fun _ => bif_not (fun hh => by cases hh) fun _ _ => ?_⟩⟩) (fun hh => by cases hh)
      refine (c46 D2 (by omega) (by rw [← eN]; exact wN.asc) (by rw [← eN]; exact lN) hh.wf.asc (by have := hh.wf.len; omega) nu).mono ?_
      rintro v w3 ⟨rfl, k3⟩
      have z3 := k3.size
      refine ⟨_, rfl, keeps1 k3 lm2, (D2.kp0 k3).pass fun _ _ _ _ _ _ => (c50 (R2.kp0 k3) lH (fun l hl => by have := (hh.wfH l hl).len; omega) lN nu).mono ?_⟩
      rintro v w4 ⟨e, rfl⟩
      obtain rfl := e.symm
      refine ⟨_, rfl, keeps1r (by omega), (R2.kp0 k3).pass fun _ _ _ _ _ _ _ => ?_⟩
      rw [hok]
      refine bif_b (fun _ _ => (c36 w3).mono ?_) (fun hh => by simp at hh)
      rintro v w5 ⟨rfl, k5⟩
      exact ⟨_, rfl, keeps2 k5 (by omega) (by omega), fun _ => ⟨_, rfl, rfl, ((K1.trans k2).trans k3).trans k5⟩⟩
end Go.Proofs.Ytlgkcbdpaffigaa
