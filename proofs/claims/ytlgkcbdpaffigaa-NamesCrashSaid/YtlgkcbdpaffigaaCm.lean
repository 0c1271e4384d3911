/- Law05 'NamesPlay', walked. -/
import Derived.Test.YtlgkcbdpaffigaaCl
import Derived.Test.YtlgkcbdpaffigaaVnc
namespace Go.Proofs.Ytlgkcbdpaffigaa
open Go Go.SX Go.Proofs
set_option maxRecDepth 100000
set_option linter.unusedVariables false
set_option linter.unusedSimpArgs false
theorem cs_big {w : World} {g : Nat} {e : TypeId} {cs : List Value} (h : Big w g e cs) : Cs w g 0 cs := fun j v hv => by
  rw [Nat.zero_add]
  exact ⟨by rw [h.cell]; exact hv, h.frz _⟩
def w2z (w : World) : World := (w.alloc (.cells #[.map none, .map none, .slice none 0 0] 79)).alloc (.cells #[.slice none 0 0, .slice none 0 0] 83)
theorem w2z_def (w : World) : (w.alloc (.cells #[.map none, .map none, .slice none 0 0] 79)).alloc (.cells #[.slice none 0 0, .slice none 0 0] 83) = w2z w := rfl
theorem w2z_ok (w : World) : Two (w2z w) (fun i => w.heap.size ≤ i) w.heap.size (w.heap.size + 1) ([], []) ∧ Kp none_ w (w2z w) ∧ (w2z w).heap.size = w.heap.size + 2 := by
  unfold w2z
  have ka : Kp none_ w (w.alloc (.cells #[.map none, .map none, .slice none 0 0] 79)) := (Kp.refl none_ _).alloc1 _
  have za : (w.alloc (.cells #[.map none, .map none, .slice none 0 0] 79)).heap.size = w.heap.size + 1 := alloc_size _ _
  have Ba : Big (w.alloc (.cells #[.map none, .map none, .slice none 0 0] 79)) w.heap.size 79 [.map none, .map none, .slice none 0 0] := Big.new _ _ 79
  generalize w.alloc (.cells #[.map none, .map none, .slice none 0 0] 79) = W at *
  have kb : Kp none_ W (W.alloc (.cells #[.slice none 0 0, .slice none 0 0] 83)) := (Kp.refl none_ _).alloc1 _
  have zb : (W.alloc (.cells #[.slice none 0 0, .slice none 0 0] 83)).heap.size = W.heap.size + 1 := alloc_size _ _
  have Bb : Big (W.alloc (.cells #[.slice none 0 0, .slice none 0 0] 83)) W.heap.size 83 [.slice none 0 0, .slice none 0 0] := Big.new _ _ 83
  generalize W.alloc (.cells #[.slice none 0 0, .slice none 0 0] 83) = V at *
  refine ⟨⟨fun i => i = w.heap.size, fun i => i = W.heap.size, [], [], (DR.zero (cs_big Ba) (fun i => i = w.heap.size) rfl).kp0 kb, ?_, fun i h1 h2 => by omega, fun i h => by omega, wfE_nil, trivial, rfl⟩, ka.trans kb, by omega⟩
  rw [← za]
  exact RD.zero (cs_big Bb) (fun i => i = W.heap.size) rfl
theorem Two.out {w : World} {Q : Nat → Prop} {bd bm : Nat} {st : List Ent × List Chg} (h : Two w Q bd bm st) : ∃ (Od Om : Nat → Prop) (H : List (List Ent)) (N : List Ent), DR w Od bd 0 st.1 st.2 ∧ RD w Om bm 0 H N ∧ N = lastE st.1 st.2 ∧ H.length = st.2.length ∧ WfE N ∧ bd < w.heap.size ∧ bm < w.heap.size ∧ WfE st.1 := by
  obtain ⟨Od, Om, H, N, h1, h2, h3, h4, h5⟩ := h
  exact ⟨Od, Om, H, N, h1, h2, h5.last, h5.len, h5.wfN, h1.lt.1, h2.lt.1, h5.wf⟩
theorem stepX_len (st : List Ent × List Chg) (x : Opx) : (stepX st x).2.length ≤ st.2.length + 1 := by
  unfold stepX
  repeat' split
  all_goals simp
theorem c9 {w : World} {q : Option Addr} {c : Nat} {l : List Opx} (h : RowsAt w 4 opC q l) : Rets Try.prog 9 #[.slice q l.length c] w fun v w' => v = .bool true ∧ Kp none_ w w' := by
  refine ent [_] Try.func9 ((vcTry9 _ _ _ w _).mpr ?_)
  unfold VCTry9
  refine (c35 h).mono ?_
  rintro v wx ⟨e, t, rfl, ht⟩
  obtain rfl := e.symm
  refine ⟨_, rfl, (Kp.refl none_ _).keeps0, bif_b (fun _ => ?_) (fun ht' => ?_)⟩
  · refine (c36 w).mono ?_
    rintro v w' ⟨rfl, k⟩
    exact ⟨_, rfl, k.keeps0, _, rfl, rfl, k⟩
  · have hn := ht ht'
    simp only [w2z_def, alloc_size]
    obtain ⟨T0, K0, z0⟩ := w2z_ok w
    generalize w2z w = W at *
    refine ⟨fun i _ _ _ _ _ _ _ _ _ _ _ w' => ∃ st, Two w' (fun i => w.heap.size ≤ i) w.heap.size (w.heap.size + 1) st ∧ 0 ≤ i ∧ i ≤ l.length ∧ st.2.length ≤ i ∧ Kp none_ w w', fun i _ _ _ _ _ _ _ _ _ _ _ _ => (l.length - i).toNat, ⟨_, T0, by omega, by omega, by simp, K0⟩, ?_⟩
    rintro i _ _ _ _ _ _ _ _ _ _ _ w1 ⟨st, T1, i0, i1, il, K1⟩ _
    refine bif_dec (fun hi => ?_) (fun _ _ => ?_)
    · have hil : i.toNat < l.length := by omega
      refine ⟨⟨i0, hi⟩, ((h.kp0 K1).get hil fun a ea hc => ?_)⟩
      refine ⟨_, _, _, _, ⟨hc 0 _ rfl, hc 1 _ rfl, hc 2 _ rfl, hc 3 _ rfl, trivial⟩, fun _ => ?_⟩
      refine (c37 (T1.kp0 Kp.drew1) (by omega) l[i.toNat]).mono ?_
      rintro v w2 ⟨rfl, T2, K2⟩
      have z2 := K2.size
      have K2' : Kp none_ w w2 := K1.drew.then K2 fun i hi hh => by have := hh.1; omega
      have T2 := T2.kp (Kp.refl none_ _) (Q' := fun i => w.heap.size ≤ i) fun i hl hi => ⟨id, by have := K1.size; have : w1.heap.size ≤ w2.heap.size := z2; rcases hi with hi | hi; exact hi; have : w1.heap.size ≤ i := hi; omega⟩
      have sl := stepX_len st l[i.toNat]
      generalize stepX st l[i.toNat] = st2 at *
      obtain ⟨Od, Om, H, N, D, R, eN, eH, wN, lb, lm, wS⟩ := T2.out
      have lN : N.length ≤ 1000000 := by have := wN.len; omega
      refine ⟨_, rfl, K2.keeps0, D.pass fun _ _ _ _ _ => R.pass fun q2 c2 q3 c3 r2 e20 e21 => bif_not (fun hh => by cases hh) fun _ _ => ?_⟩
      refine (c45 D wN.asc lN eN r2).mono ?_
      rintro v w3 ⟨rfl, K3⟩
      refine ⟨_, rfl, K3.keeps fun b hb => ⟨by rw [List.mem_singleton] at hb; omega, id⟩, (D.kp0 K3).pass fun _ _ _ _ _ => bif_not (fun hh => by cases hh) fun _ _ => ?_⟩
      refine (c41 (D.kp0 K3)).mono ?_
      rintro v w4 ⟨e, rfl⟩
      obtain rfl := e.symm
      refine ⟨_, rfl, (Kp.refl none_ _).keeps fun b hb => ⟨by rw [List.mem_singleton] at hb; have := K3.size; omega, id⟩, (D.kp0 K3).pass fun _ _ _ _ _ => ⟨K3.cell0 e21, ?_⟩⟩
      refine bif_ne (fun hh => absurd (by omega) hh) fun _ => wr64 (by omega) ⟨⟨st2, T2.kp0 K3, by omega, by omega, by omega, K2'.trans K3⟩, by first | omega | (dsimp only; omega)⟩
    · refine (c36 w1).mono ?_
      rintro v w2 ⟨rfl, k⟩
      obtain ⟨Od, Om, H, N, D, R, eN, eH, wN, lb, lm, wS⟩ := T1.out
      refine ⟨_, rfl, k.keeps fun b hb => ⟨by simp only [List.mem_cons, List.not_mem_nil, or_false] at hb; omega, id⟩, fun _ => ⟨_, rfl, rfl, K1.trans k⟩⟩
end Go.Proofs.Ytlgkcbdpaffigaa
