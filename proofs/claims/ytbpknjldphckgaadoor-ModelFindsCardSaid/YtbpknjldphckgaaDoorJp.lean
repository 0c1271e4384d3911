/- Model: a step. -/
import Derived.Test.YtbpknjldphckgaaDoorJo
namespace Go.Proofs.YtbpknjldphckgaaDoor
open Go Go.SX Go.Proofs Go.Lib
set_option maxRecDepth 100000
set_option linter.unusedVariables false
set_option linter.unusedSimpArgs false
variable {w w5 : World} {D : Nat → Nat} {b : Nat} {p : MM} {cm cn cd : Value}
theorem set_size (w : World) (x : Addr) (v : Value) : (w.setCell x v).heap.size = w.heap.size := by simp [World.setCell]
theorem c94 (hml : ML w) (h : MD w D b p cm cn cd) (hD : ∀ i, D i ≠ 0 → i < w.heap.size) (ok : OkP p) (o : Ox) (a : Ax) (ho : OpAt w o) (hol : o.d.length ≤ 1000000) (hos : o.s.length ≤ 1000000) (han : AnAt w a) (hn : a.n.length ≤ 1000000) (ha : FIn w (fun i => D i = 0) a.lq a.L.length a.L) (hal : bigL a.L) :
    Rets Tryd.prog 94 #[pt b, opV o, anV a] w fun v w' => v = .bool (mayM p o.stp a.ans) ∧ MStep w D b w' (if mayM p o.stp a.ans = true then stepP p o.stp a.ans else p) := by
  refine ent [_, _, _] Tryd.func94 ((vcTryd94 _ _ _ _ _ _ _ _ _ _ _ _ _ _ _ _ _ _ _ _ _ _ _ _ _ w _).mpr ?_)
  unfold VCTryd94
  refine bif_b (fun hn => by cases hn) (fun _ => ?_)
  have hbl := h.big.lt
  obtain ⟨k0, z0⟩ := opKp w o
  rw [opEq, anEq]
  have hbg : b ≠ w.heap.size := by omega
  generalize w.alloc (.cells (opC o) 124) = W0 at *
  obtain ⟨k1, z1⟩ := anKp W0 a
  have hbg' : b ≠ W0.heap.size := by have := k0.size; omega
  generalize W0.alloc (.cells (anC a) 126) = W at *
  have K := k0.trans k1
  have zW : w.heap.size ≤ W.heap.size := K.size
  have h0 := h.kp0 K
  have hb : ∀ {w5 : World}, W.heap.size ≤ w5.heap.size → ∀ b ∈ [w.heap.size, W0.heap.size], b < w5.heap.size := fun {w5} k b hb => by
    simp only [List.mem_cons, List.not_mem_nil, or_false] at hb
    rcases hb with rfl | rfl <;> omega
  have nob : ∀ b ∈ [w.heap.size, W0.heap.size], ¬ D b ≠ 0 := fun b hb hn => by
    have := hD b hn
    have := k0.size
    simp only [List.mem_cons, List.not_mem_nil, or_false] at hb
    rcases hb with rfl | rfl <;> omega
  simp only [ptr_some, ad_add, Nat.zero_add, Nat.add_zero]
  rw [← given_may]
  intro _
  refine (c142 (hml.kp0 K) h0.rd ok o a (han.kp0 K) hos hn).mono ?_
  rintro v w1 ⟨rfl, k2⟩
  have K2 := K.trans k2
  refine ⟨_, rfl, k2.keeps fun b hbm => ⟨hb (Nat.le_refl _) b hbm, id⟩, bif_not (fun hg _ => ⟨_, rfl, by rw [hg]; rfl, ?_⟩) (fun hg => ?_)⟩
  · rw [hg]
    exact MStep.of (h.kp0 K2) (fun i hi => .inl hi) K2.wide
  intro _
  refine (c143 (h.kp0 K2).rd o a).mono ?_
  rintro v w2 ⟨rfl, k3⟩
  have K3 := K2.trans k3
  refine ⟨_, rfl, k3.keeps fun b hbm => ⟨hb k2.size b hbm, id⟩, bif_not (fun hp _ => ⟨_, rfl, by rw [hg, hp]; rfl, ?_⟩) (fun hp => ?_)⟩
  · rw [hg, hp]
    exact MStep.of (h.kp0 K3) (fun i hi => .inl hi) K3.wide
  intro _
  refine (c144 (h.kp0 K3).rd o a).mono ?_
  rintro v w3 ⟨rfl, k4⟩
  have K4 := K3.trans k4
  have zz3 : W.heap.size ≤ w3.heap.size := Nat.le_trans k2.size (Nat.le_trans k3.size k4.size)
  refine ⟨_, rfl, k4.keeps fun b hbm => ⟨hb (Nat.le_trans k2.size k3.size) b hbm, id⟩, ?_⟩
  have h4 := h.kp0 K4
  have ek : ∀ {w' p'}, MStep w3 D b w' p' → MStep w D b w' p' := fun hh => MStep.trans (fun i hi => .inl hi) K4.wide hh
  have hD4 : ∀ i, D i ≠ 0 → i < w3.heap.size := fun i hi => by have := hD i hi; omega
  have ko : ∀ {w' p'}, MStep w3 D b w' p' → Keeps w3 w' [w.heap.size, W0.heap.size] := fun hh => by
    obtain ⟨_, _, _, _, _, _, k⟩ := hh
    exact k.keeps fun b hbm => ⟨hb zz3 b hbm, nob b hbm⟩
  refine ⟨fun _ _ _ _ _ _ _ _ _ _ _ _ _ _ _ _ _ _ _ _ _ _ _ t33 w34 => t33 = a.po ∧ MStep w D b w34 (midP p o.stp a.ans), ?_, ?_⟩
  · rintro _ _ _ _ _ _ _ _ _ _ _ _ _ _ _ _ _ _ _ _ _ _ _ _ w34 ⟨rfl, D1, cm1, cn1, cd1, m1, hD1, kk1⟩ _
    obtain ⟨g1, g2, g3, g4⟩ := slot4 (js := [0, 1, 2, 3, 4, 5, 6]) (js' := [0, 1, 2, 3, 4, 5, 6]) m1.big (i := 2) (by simp) hbg hbg'
    refine ⟨g1, g2, g3, g4, fun _ _ _ _ _ _ _ _ _ _ _ _ _ _ _ _ _ _ _ _ _ _ _ _ w62 => MStep w D b w62 (stepP p o.stp a.ans), ?_, ?_⟩
    · intro _ _ _ _ _ _ _ _ _ _ _ _ _ _ _ _ _ _ _ _ _ _ _ _ w62 hh _ _
      refine ⟨_, rfl, by rw [hg, hp]; rfl, ?_⟩
      rw [hg, hp]
      exact hh
    have e0 : stepP p o.stp a.ans = endP (midP p o.stp a.ans) a.ans (!openM p o.stp a.ans) := rfl
    rw [e0]
    generalize midP p o.stp a.ans = pm at *
    obtain ⟨m2, kk2⟩ := m1.flag 2 (.bool a.po) { pm with poisoned := a.po } rfl rfl rfl rfl
    have hD1' : ∀ i, D1 i ≠ 0 → i < w34.heap.size := fun i hi => (hD1 i hi).2
    refine bif_b (fun hsh => ?_) (fun hsh => ?_)
    · rw [hsh]
      have hs2 := set_size w34 ⟨b, 2, none⟩ (.bool a.po)
      generalize w34.setCell ⟨b, 2, none⟩ (.bool a.po) = w4 at *
      obtain ⟨g1, g2, g3, g4⟩ := slot4 (js := [0, 1, 2, 3, 4, 5, 6]) (js' := [0, 1, 2, 3, 4, 5, 6]) m2.big (i := 1) (by simp) hbg hbg'
      refine ⟨g1, g2, g3, g4, ?_⟩
      obtain ⟨m3, kk3⟩ := m2.flag 1 (.bool false) { pm with poisoned := a.po, opn := false } rfl rfl rfl rfl
      have hs3 := set_size w4 ⟨b, 1, none⟩ (.bool false)
      generalize w4.setCell ⟨b, 1, none⟩ (.bool false) = w5 at *
      obtain ⟨g1, g2, g3, g4⟩ := slot4 (js := [0, 1, 2, 3, 4, 5, 6]) (js' := [0, 1, 2, 3, 4, 5, 6]) m3.big (i := 3) (by simp) hbg hbg'
      refine ⟨g1, g2, g3, g4, ?_⟩
      obtain ⟨m4, kk4⟩ := m3.flag 3 (.bool false) { pm with poisoned := a.po, opn := false, streaming := false } rfl rfl rfl rfl
      have hs4 := set_size w5 ⟨b, 3, none⟩ (.bool false)
      generalize w5.setCell ⟨b, 3, none⟩ (.bool false) = w6 at *
      obtain ⟨g1, g2, g3, g4⟩ := slot4 (js := [0, 1, 2, 3, 4, 5, 6]) (js' := [0, 1, 2, 3, 4, 5, 6]) m4.big (i := 4) (by simp) hbg hbg'
      refine ⟨g1, g2, g3, g4, ?_⟩
      obtain ⟨m5, kk5⟩ := MD.setNow (E := w34.heap.size) m4 hD1' (Kp.refl none_ _) (FOwn.nil w6 (fun _ => False)) (fun i hi => hi.elim)
      have hs5 := set_size w6 ⟨b, 4, none⟩ (.slice none 0 0)
      generalize w6.setCell ⟨b, 4, none⟩ (.slice none 0 0) = w7 at *
      obtain ⟨g1, g2, g3, g4⟩ := slot4 (js := [0, 1, 2, 3, 4, 5, 6]) (js' := [0, 1, 2, 3, 4, 5, 6]) m5.big (i := 6) (by simp) hbg hbg'
      refine ⟨g1, g2, g3, g4, ?_⟩
      have hD5 : ∀ i, upd D1 w34.heap.size w6.heap.size 2 i ≠ 0 → i < w34.heap.size := fun i hi => (upd_nz hi).elim (fun h => h.1) fun h => by omega
      obtain ⟨m6, kk6⟩ := MD.setDat (E := w34.heap.size) m5 hD5 (Kp.refl _ _) (N := fun _ => False) (cd' := .slice none 0 0) (d' := []) (OwnRow.nil _ _ _ _) (fun _ h => h.elim)
      have kA : Kp (fun i => D1 i ≠ 0) w34 w7 := ((kk2.trans kk3).trans kk4).trans kk5
      have kB := kA.then kk6 fun i hl hi => (upd_nz hi).elim (fun h => h.2) fun h => by omega
      refine MStep.trans (D1 := D1) (fun i hi => (hD1 i hi).1) kk1 (MStep.of m6 (fun i hi => ?_) kB)
      rcases upd_nz hi with h | h
      · exact (upd_nz h.2).elim (fun h => .inl h.2) fun h => .inr h.1
      · exact .inr h.1
    · rw [hsh]
      exact MStep.trans (D1 := D1) (fun i hi => (hD1 i hi).1) kk1 (MStep.of m2 (fun i hi => .inl hi) kk2)
  · refine bif_b (fun hr => ?_) (fun hr => bif_eq (fun he => ?_) (fun he => bif_eq (fun he7 => bif_eq (fun hk => ?_) (fun hk => ⟨rfl, ?_⟩)) (fun he7 => ⟨rfl, ?_⟩)))
    · intro _
      refine (c145 h4 hD4 ok o).mono ?_
      rintro v w' ⟨rfl, ms⟩
      refine ⟨rfl, ko ms, rfl, ?_⟩
      have : midP p o.stp a.ans = refusedP p o.stp := by unfold midP; rw [if_pos hr]
      rw [this]
      exact ek ms
    · intro _
      have ho4 : OpAt w3 o := ho.kp0 K4
      refine (c146 h4 hD4 ok o a ho4 hol (ha.kp0 K4) hal).mono ?_
      rintro v w' ⟨rfl, ms⟩
      refine ⟨rfl, ko ms, rfl, ?_⟩
      have : midP p o.stp a.ans = doneP p o.stp a.ans := by unfold midP; rw [if_neg (by show ¬ a.re = true; rw [hr]; decide), if_pos he]
      rw [this]
      exact ek ms
    · have ka : Kp none_ w3 (w3.alloc (.cells #[.bool false, .slice none 0 0] 130)) := (Kp.refl none_ _).alloc1 _
      obtain ⟨g1, g2, g3, g4⟩ := slot4 (js := [0, 1, 2, 3, 4, 5, 6]) (js' := [0, 1, 2, 3, 4, 5, 6]) (h4.big.kp ka id) (i := 0) (by simp) hbg hbg'
      refine ⟨g1, g2, g3, g4, rfl, ?_⟩
      have : midP p o.stp a.ans = { p with may := [(false, [])] } := by unfold midP; rw [if_neg (by show ¬ a.re = true; rw [hr]; decide), if_neg he, if_pos ⟨he7, hk⟩]
      rw [this]
      refine ek ?_
      obtain ⟨m1, m2⟩ := MD.setMay h4 hD4 ka.wide (SOwn.one false ((FOwn.nil w3 (fun _ => False)))) (fun i hi => hi.elim (fun h => h.elim) fun hf => .inr hf)
      exact MStep.upd1 m1 (Nat.le_refl _) m2
    · have : midP p o.stp a.ans = p := by unfold midP; rw [if_neg (by show ¬ a.re = true; rw [hr]; decide), if_neg he, if_neg (fun hh => hk hh.2)]
      rw [this]
      exact MStep.of h4 (fun i hi => .inl hi) K4.wide
    · have : midP p o.stp a.ans = p := by unfold midP; rw [if_neg (by show ¬ a.re = true; rw [hr]; decide), if_neg he, if_neg (fun hh => he7 hh.1)]
      rw [this]
      exact MStep.of h4 (fun i hi => .inl hi) K4.wide
end Go.Proofs.YtbpknjldphckgaaDoor
