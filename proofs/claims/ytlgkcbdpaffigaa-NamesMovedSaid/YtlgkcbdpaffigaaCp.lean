/- Law05 'NamesMoved', walked. -/
import Derived.Test.YtlgkcbdpaffigaaCn
import Derived.Test.YtlgkcbdpaffigaaRe
import Derived.Test.YtlgkcbdpaffigaaVnf
namespace Go.Proofs.Ytlgkcbdpaffigaa
open Go Go.SX Go.Proofs
set_option maxRecDepth 100000
set_option linter.unusedVariables false
set_option linter.unusedSimpArgs false
theorem rename_facts {l : List Ent} {a b : List UInt8} (hc : renameE l a b = 0) : named b = true ∧ has Prod.fst l a = true := by
  unfold renameE at hc
  split at hc
  · cases hc
  · split at hc
    · cases hc
    · rename_i h1 h2
      exact ⟨by simpa using h1, by simpa using h2⟩
theorem renamed {l : List Ent} (h : WfE l) {a b : List UInt8} (hc : renameE l a b = 0) : lookE (doL l ⟨a, b, 0⟩) b = some ((lookE l a).getD 0) ∧ (a ≠ b → has Prod.fst (doL l ⟨a, b, 0⟩) a = false) := by
  obtain ⟨ok, e⟩ := rename_ok h hc
  have wf := wf_do h ok
  have asc : Asc Prod.fst (withoutK Prod.fst (withoutK Prod.fst l a) b) := asc_without (asc_without h.asc a) b
  have e2 : doL l ⟨a, b, 0⟩ = withE (withoutK Prod.fst (withoutK Prod.fst l a) b) b ((lookE l a).getD 0) := by
    rw [← e, with5_eq (asc_without h.asc a)]
  have hm := fun x => mem_with asc (has_without (l := withoutK Prod.fst l a) b) ((lookE l a).getD 0) x
  constructor
  · refine (lookE_mem wf.asc).2 ?_
    rw [e2]
    exact (hm _).2 (.inl rfl)
  · intro hne
    cases hh : has Prod.fst (doL l ⟨a, b, 0⟩) a with
    | false => rfl
    | true =>
      obtain ⟨x, hx, ex⟩ := has_iff.1 hh
      rw [e2] at hx
      rcases (hm x).1 hx with rfl | hx
      · exact absurd ex.symm hne
      · exact absurd ex ((mem_without x).1 ((mem_without x).1 hx).1).2
theorem c8 {w : World} {q : Option Addr} {c : Nat} {l : List Opx} (h : RowsAt w 4 opC q l) (x : Mvx) (hx : (Lit.int .i64 x.n).wf = true) : Rets Try.prog 8 #[.slice q l.length c, .agg (mvxC x).toArray] w fun v w' => v = .bool true ∧ Kp none_ w w' := by
  obtain ⟨a, b, n⟩ := x
  refine ent [_, _] Try.func8 ((vcTry8 _ _ _ _ _ _ w _).mpr ?_)
  unfold VCTry8
  have kx : Kp none_ w (w.alloc (.cells #[.string (ba a), .string (ba b), .int .i64 n] 93)) := (Kp.refl none_ _).alloc1 _
  have zx : (w.alloc (.cells #[.string (ba a), .string (ba b), .int .i64 n] 93)).heap.size = w.heap.size + 1 := alloc_size _ _
  have Bx : Big (w.alloc (.cells #[.string (ba a), .string (ba b), .int .i64 n] 93)) w.heap.size 93 [.string (ba a), .string (ba b), .int .i64 n] := Big.new _ _ 93
  intro _
  generalize w.alloc (.cells #[.string (ba a), .string (ba b), .int .i64 n] 93) = X at *
  have sX : w.heap.size < X.heap.size := by omega
  refine (c35 (h.kp0 kx)).mono ?_
  rintro v wx ⟨e, t, rfl, ht⟩
  obtain rfl := e.symm
  have lives : Known X [(w.heap.size, [(0, .string (ba a)), (1, .string (ba b)), (2, .int .i64 n)])] → Rets Try.prog 36 #[] X fun v3 w4 => ∃ t5 : Bool, v3 = .bool t5 ∧ Keeps X w4 [w.heap.size] ∧ (Known w4 [(w.heap.size, [(0, .string (ba a)), (1, .string (ba b)), (2, .int .i64 n)])] → ∃ v, Ending.returned (.bool t5) = Ending.returned v ∧ v = .bool true ∧ Kp none_ w w4) := fun _ => by
    refine (c36 X).mono ?_
    rintro v w' ⟨rfl, k⟩
    exact ⟨_, rfl, keeps1 k sX, fun _ => ⟨_, rfl, rfl, kx.trans k⟩⟩
  refine ⟨_, rfl, keeps1r sX, bif_b (fun _ => lives) (fun ht' => bif_dec (fun _ => lives) fun _ => bif_dec (fun _ => lives) fun _ => ?_)⟩
  have hn := ht ht'
  simp only [w2z_def, alloc_size]
  obtain ⟨T0, K0, z0⟩ := w2z_ok X
  generalize w2z X = W at *
  refine ⟨fun i _ _ _ _ _ _ _ _ _ _ _ w' => ∃ st, Two w' (fun i => X.heap.size ≤ i) X.heap.size (X.heap.size + 1) st ∧ 0 ≤ i ∧ i ≤ l.length ∧ st.2.length ≤ i ∧ Kp none_ X w', fun i _ _ _ _ _ _ _ _ _ _ _ _ => (l.length - i).toNat, ⟨_, T0, by omega, by omega, by simp, K0⟩, ?_⟩
  rintro i _ _ _ _ _ q17 n18 c19 _ _ _ w1 ⟨st, T1, i0, i1, il, K1⟩ _
  have z1 := K1.size
  have s1 : w.heap.size < w1.heap.size := by omega
  refine bif_dec (fun hi => ?_) (fun _ kn => ?_)
  · have hil : i.toNat < l.length := by omega
    refine ⟨⟨i0, hi⟩, (((h.kp0 kx).kp0 K1).get hil fun a ea hc => ?_)⟩
    refine ⟨_, _, _, _, ⟨hc 0 _ rfl, hc 1 _ rfl, hc 2 _ rfl, hc 3 _ rfl, trivial⟩, fun _ => ?_⟩
    refine (c37 T1 (by omega) l[i.toNat]).mono ?_
    rintro v w2 ⟨rfl, T2, K2⟩
    have kk := K2.keeps (bs := [w.heap.size]) fun i hi => ⟨by rw [List.mem_singleton] at hi; omega, fun hh => by rw [List.mem_singleton] at hi; omega⟩
    obtain ⟨T2, K2'⟩ := two_step K1 T2 K2
    have sl := stepX_len st l[i.toNat]
    generalize stepX st l[i.toNat] = st2 at *
    obtain ⟨Od, Om, H, N, D, R, hh, lb, lm⟩ := T2.opn
    exact ⟨_, rfl, kk, D.pass fun _ _ _ _ _ => R.pass fun q2 c2 q3 c3 r2 e20 e21 => wr64 (by omega) ⟨rfl, ⟨st2, T2, by omega, by omega, by omega, K2'⟩, by first | omega | (dsimp only; omega)⟩⟩
  · obtain ⟨Od, Om, H, N, D, R, dis, bnd, hh⟩ := T1
    have lb := D.lt.1
    have lm := R.lt.1
    have oS : ¬ Od w.heap.size := fun hh => by have := (bnd _ (.inl hh)).1; omega
    have oM : ¬ Od (X.heap.size + 1) := fun hh => dis _ hh R.lt.2
    have eN := hh.last
    have wN := hh.wfN
    have kS : ∀ {O : Nat → Prop} {u v : World}, w1.heap.size ≤ u.heap.size → Kp O u v → (∀ i, i < w1.heap.size → O i → Od i) → Keeps u v [w.heap.size, X.heap.size + 1] := fun hz k ho => k.keeps fun i hi => by
      simp only [List.mem_cons, List.not_mem_nil, or_false] at hi
      refine ⟨by omega, fun hh => ?_⟩
      have := ho i (by omega) hh
      rcases hi with rfl | rfl
      · exact oS this
      · exact oM this
    have fin : ∀ {w5 w6 : World}, Kp (fun i => X.heap.size ≤ i) X w5 → Kp none_ w5 w6 → Kp none_ w w6 := fun k5 k6 => (kx.then k5 fun i hi hh => by omega).trans k6
    refine (c38 D).mono ?_
    rintro v w2 ⟨rfl, D2, k2, _⟩
    have z2 := k2.size
    rw [← eN] at D2
    have F2 : Kp (fun i => X.heap.size ≤ i) X w2 := K1.wide.trans (k2.mono fun i _ hi => (bnd i (.inl hi)).1)
    refine ⟨rfl, kS (Nat.le_refl _) k2 (fun i _ h => h), D2.pass fun _ _ _ _ _ _ => (c42 D2 a).mono ?_⟩
    rintro v w2' ⟨e, rfl⟩
    obtain rfl := e.symm
    refine ⟨_, _, rfl, keeps2r (by omega) (by omega), D2.pass fun _ _ _ _ _ _ => (c43 D2 (by simp) wN.asc a b).mono ?_⟩
    rintro v w3 ⟨rfl, D3, k3, _⟩
    have z3 := k3.size
    have F3 : Kp (fun i => X.heap.size ≤ i) X w3 := F2.trans (k3.mono fun i _ hi => hi.elim (fun hi => (bnd i (.inl hi)).1) fun hi => by omega)
    have e0 : lastE N [] = N := rfl
    rw [e0] at D3 ⊢
    refine ⟨_, rfl, kS z2 k3 (fun i hl hi => hi.elim id fun hi => by omega), D3.pass fun _ _ _ _ _ => bif_ne (fun hE => ?_) (fun hE => ?_)⟩
    · refine bif_not (fun _ _ => (c36 w3).mono ?_) (fun hha _ => (c44 b w3).mono ?_)
      · rintro v w4 ⟨rfl, k4⟩
        exact ⟨_, rfl, k4.keeps fun i hi => ⟨by simp only [List.mem_cons, List.not_mem_nil, or_false] at hi; omega, id⟩, fun _ => ⟨_, rfl, rfl, fin F3 k4⟩⟩
      · rintro v w4 ⟨rfl, e⟩
        obtain rfl := e.symm
        refine ⟨_, rfl, (Kp.refl none_ _).keeps fun i hi => ⟨by simp only [List.mem_cons, List.not_mem_nil, or_false] at hi; omega, id⟩, bif_not (fun _ _ => (c36 w3).mono ?_) (fun hb _ => ?_)⟩
        · rintro v w4 ⟨rfl, k4⟩
          exact ⟨_, rfl, k4.keeps fun i hi => ⟨by simp only [List.mem_cons, List.not_mem_nil, or_false] at hi; omega, id⟩, fun _ => ⟨_, rfl, rfl, fin F3 k4⟩⟩
        · exact absurd (by unfold renameE; rw [hb, hha]; rfl) hE
    · intro _
      obtain ⟨hb, hha⟩ := rename_facts hE
      rw [hE, if_pos rfl] at D3
      have ok := (rename_ok wN hE).1
      obtain ⟨r1, r2⟩ := renamed wN hE
      have D3' := D3.mono (O' := fun i => (Od i ∨ w1.heap.size ≤ i) ∧ i < w3.heap.size) fun i hl hi => ⟨by rcases hi with (hi | hi) | hi; exact .inl hi; exact .inr hi; exact .inr (by omega), hl⟩
      refine (c40 D3' (fun i hi => hi.2) wN ⟨ok, trivial⟩ (by simp) n).mono ?_
      rintro v w4 ⟨rfl, D4, k4, _⟩
      have z4 := k4.size
      have F4 : Kp (fun i => X.heap.size ≤ i) X w4 := F3.trans (k4.mono fun i _ hi => hi.1.elim (fun hi => (bnd i (.inl hi)).1) fun hi => by omega)
      refine ⟨rfl, kS (by omega) k4 (fun i hl hi => hi.1.elim id fun hi => by omega), D4.pass fun _ _ _ _ _ _ => (c42 D4 a).mono ?_⟩
      rintro v w5 ⟨e, rfl⟩
      obtain rfl := e.symm
      refine ⟨_, _, rfl, keeps2r (by omega) (by omega), D4.pass fun _ _ _ _ _ _ => (c42 D4 b).mono ?_⟩
      rintro v w5 ⟨e, rfl⟩
      obtain rfl := e.symm
      refine ⟨_, _, rfl, keeps2r (by omega) (by omega), D4.pass fun _ _ _ _ _ => ?_⟩
      have lv : Rets Try.prog 36 #[] w4 fun v w5 => ∃ t : Bool, v = .bool t ∧ Keeps w4 w5 [w.heap.size, X.heap.size, X.heap.size + 1] ∧ ∀ {P : Prop}, (P → ∃ v, Ending.returned (.bool t) = Ending.returned v ∧ v = .bool true ∧ Kp none_ w w5) := by
        refine (c36 w4).mono ?_
        rintro v w5 ⟨rfl, k5⟩
        exact ⟨_, rfl, k5.keeps fun i hi => ⟨by simp only [List.mem_cons, List.not_mem_nil, or_false] at hi; omega, id⟩, fun _ => ⟨_, rfl, rfl, fin F4 k5⟩⟩
      have lw : ∀ {P : Prop} {L : List (Nat × List (Nat × Value))}, P → Rets Try.prog 36 #[] w4 fun v w5 => ∃ t : Bool, v = .bool t ∧ Keeps w4 w5 [w.heap.size, X.heap.size, X.heap.size + 1] ∧ (Known w5 L → ∃ v, Ending.returned (.bool t) = Ending.returned v ∧ v = .bool true ∧ Kp none_ w w5) := fun _ => lv.mono fun v w5 ⟨t, h1, h2, h3⟩ => ⟨t, h1, h2, h3⟩
      have e4 : ∀ L : List Ent, lastE L [] = L := fun _ => rfl
      rw [e4, hha]
      by_cases hn0 : n > 0
      · have et : lastE N (List.take n.toNat (([] : List Chg) ++ [⟨a, b, 0⟩])) = doL N ⟨a, b, 0⟩ := by
          rw [List.take_of_length_le (by simp; omega)]
          rfl
        rw [et, r1]
        have hbb : has Prod.fst (doL N ⟨a, b, 0⟩) b = true := by rw [look_has, r1]; rfl
        rw [hbb]
        refine bif_dec (fun _ => ?_) (fun hh => absurd hn0 hh)
        refine bif_b (fun _ => bif_b (fun _ => bif_eq (fun _ => bif_not (fun _ => lw) (fun hat => bif_b (fun _ => lw) (fun hne => ?_))) (fun hh => absurd rfl hh)) (fun hh => by cases hh)) (fun hh => by cases hh)
        rw [toL_ba, toL_ba] at hne
        have := r2 (by simpa using hne)
        rw [this] at hat
        cases hat
      · have et : lastE N (List.take n.toNat (([] : List Chg) ++ [⟨a, b, 0⟩])) = N := by
          rw [show n.toNat = 0 by omega]
          rfl
        rw [et, hha]
        refine bif_dec (fun hh => absurd hh hn0) (fun _ => ?_)
        exact bif_b (fun _ => bif_b (fun _ => bif_eq (fun _ => lw) (fun hh => absurd rfl hh)) (fun hh => by cases hh)) (fun hh => by cases hh)
end Go.Proofs.Ytlgkcbdpaffigaa
