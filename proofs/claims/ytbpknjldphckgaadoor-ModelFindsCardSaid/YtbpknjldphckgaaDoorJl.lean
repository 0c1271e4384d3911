/- Model: whether an answer may be given. -/
import Derived.Test.YtbpknjldphckgaaDoorJk
namespace Go.Proofs.YtbpknjldphckgaaDoor
open Go Go.SX Go.Proofs Go.Lib
set_option maxRecDepth 100000
set_option linter.unusedVariables false
set_option linter.unusedSimpArgs false
theorem c142 {w : World} (hml : ML w) {b : Nat} {p : MM} (h : MRd w b p) (ok : OkP p) (o : Ox) (a : Ax) (ha : AnAt w a) (hs : o.s.length ≤ 1000000) (hn : a.n.length ≤ 1000000) : Rets Tryd.prog 142 #[pt b, opV o, anV a] w fun v w' => v = .bool (givenM p o.stp a.ans) ∧ Kp none_ w w' := by
  refine ent [_, _, _] Tryd.func142 ((vcTryd142 _ _ _ _ _ _ _ _ _ _ _ _ _ _ _ _ _ _ _ _ _ _ _ _ _ w _).mpr ?_)
  unfold VCTryd142
  obtain ⟨k0, z0⟩ := opKp w o
  rw [opEq, anEq]
  generalize w.alloc (.cells (opC o) 124) = W0 at *
  obtain ⟨k1, z1⟩ := anKp W0 a
  generalize W0.alloc (.cells (anC a) 126) = W at *
  have K := k0.trans k1
  have h0 := h.kp0 K
  have hb : ∀ {w5 : World}, Kp none_ W w5 → ∀ b ∈ [w.heap.size, W0.heap.size], b < w5.heap.size := fun {w5} k b hb => by
    have := k.size
    simp only [List.mem_cons, List.not_mem_nil, or_false] at hb
    rcases hb with rfl | rfl
    · have := k1.size; omega
    · omega
  have ke : ∀ {w5 w6 : World}, Kp none_ W w5 → Kp none_ w5 w6 → Keeps w5 w6 [w.heap.size, W0.heap.size] := fun k k' => k'.keeps fun b hbb => ⟨hb k b hbb, id⟩
  have fin : ∀ {w5 : World} {t : Bool} {P : Prop}, Kp none_ W w5 → givenM p o.stp a.ans = t → P → ∃ v, Ending.returned (.bool t) = Ending.returned v ∧ v = .bool (givenM p o.stp a.ans) ∧ Kp none_ w w5 := fun k e _ => ⟨_, rfl, by rw [e], K.trans k⟩
  refine bif_b (fun hr => ?_) (fun hr => ?_)
  · have eg : givenM p o.stp a.ans = (callsM o.k && (toldM p o.stp 0 && ((a.e == 10 || a.e == 9) && bareA a.ans))) := by unfold givenM; rw [if_pos hr]
    intro _
    refine (c175 o.k W).mono ?_
    rintro v wx ⟨rfl, e⟩
    obtain rfl := e.symm
    refine ⟨_, rfl, ke (Kp.refl _ _) (Kp.refl _ _), bif_b (fun hc => ?_) (fun hc => fin (Kp.refl _ _) (by rw [eg, hc]; rfl))⟩
    intro _
    refine (c176 (hml.kp0 K) h0 ok o 0).mono ?_
    rintro v w2 ⟨rfl, k2⟩
    refine ⟨_, rfl, ke (Kp.refl _ _) k2, bif_b (fun ht => ?_) (fun ht => fin k2 (by rw [eg, ht]; simp))⟩
    refine bif_eq (fun he => ?_) (fun he => bif_eq (fun he9 => ?_) (fun he9 => fin k2 ?_))
    · exact leafB (c177 a _) (K.trans k2) (hb k2) (by rw [eg, hc, ht, he]; simp)
    · exact leafB (c177 a _) (K.trans k2) (hb k2) (by rw [eg, hc, ht, he9]; simp)
    · have e1 : (a.e == 10) = false := by simpa using he
      have e2 : (a.e == 9) = false := by simpa using he9
      rw [eg, e1, e2]
      simp
  · intro _
    refine (c176 (hml.kp0 K) h0 ok o a.e).mono ?_
    rintro v w2 ⟨rfl, k2⟩
    refine ⟨_, rfl, ke (Kp.refl _ _) k2, bif_not (fun ht => fin k2 ?_) (fun ht => ?_)⟩
    · unfold givenM; rw [if_neg (by show ¬ a.re = true; rw [hr]; decide), if_pos ht]
    · have eg : givenM p o.stp a.ans = if a.e ≠ 0 then bareA a.ans else besideM p o.stp a.ans := by
        unfold givenM; rw [if_neg (by show ¬ a.re = true; rw [hr]; decide), if_neg (by rw [ht]; decide)]
      refine bif_ne (fun he => ?_) (fun he => ?_)
      · exact leafB (c177 a _) (K.trans k2) (hb k2) (by rw [eg, if_pos he])
      · exact leafB (c178 ((hml.kp0 K).kp0 k2) (h0.kp0 k2) ok o a ((ha.kp0 K).kp0 k2) hs hn) (K.trans k2) (hb k2) (by rw [eg, if_neg (by simpa using he)])
end Go.Proofs.YtbpknjldphckgaaDoor
