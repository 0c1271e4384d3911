/- Model: what a step leaves behind. -/
import Derived.Test.YtbpknjldphckgaaDoorJm
namespace Go.Proofs.YtbpknjldphckgaaDoor
open Go Go.SX Go.Proofs Go.Lib
set_option maxRecDepth 100000
set_option linter.unusedVariables false
set_option linter.unusedSimpArgs false
variable {w w5 : World} {D : Nat → Nat} {b : Nat} {p : MM} {cm cn cd : Value}
theorem MD.cut (h : MD w D b p cm cn cd) : MD w (fun i => if i < w.heap.size then D i else 0) b p cm cn cd := by
  have e : ∀ i, i < w.heap.size → (if i < w.heap.size then D i else 0) = D i := fun i hi => if_pos hi
  refine ⟨h.big, by show (if _ then _ else _) = 4; rw [e b h.big.lt]; exact h.db, h.sm.mono fun i hl hi => ?_, h.sn.mono fun i hl hi => ?_, h.sd.mono fun i hi hl => ?_⟩
  · show (if _ then _ else _) = 1; rw [e i hl]; exact hi
  · show (if _ then _ else _) = 2; rw [e i hl]; exact hi
  · show (if _ then _ else _) = 3; rw [e i hl]; exact hi
/-- From a model to the next one. -/
def MStep (w : World) (D : Nat → Nat) (b : Nat) (w' : World) (p' : MM) : Prop :=
  ∃ (D' : Nat → Nat) (cm cn cd : Value), MD w' D' b p' cm cn cd ∧ (∀ i, D' i ≠ 0 → (D i ≠ 0 ∨ w.heap.size ≤ i) ∧ i < w'.heap.size) ∧ Kp (fun i => D i ≠ 0) w w'
theorem MStep.of {D' : Nat → Nat} {p' : MM} (h : MD w5 D' b p' cm cn cd) (hD : ∀ i, D' i ≠ 0 → D i ≠ 0 ∨ w.heap.size ≤ i) (k : Kp (fun i => D i ≠ 0) w w5) : MStep w D b w5 p' := by
  refine ⟨_, cm, cn, cd, h.cut, fun i hi => ?_, k⟩
  by_cases hl : i < w5.heap.size
  · rw [if_pos hl] at hi
    exact ⟨hD i hi, hl⟩
  · rw [if_neg hl] at hi
    exact absurd rfl hi
theorem MStep.trans {w1 w2 : World} {p2 : MM} {D1 : Nat → Nat} (hD : ∀ i, D1 i ≠ 0 → D i ≠ 0 ∨ w.heap.size ≤ i) (k : Kp (fun i => D i ≠ 0) w w1) (h : MStep w1 D1 b w2 p2) : MStep w D b w2 p2 := by
  obtain ⟨D', cm, cn, cd, h1, h2, h3⟩ := h
  have hz := k.size
  refine ⟨D', cm, cn, cd, h1, fun i hi => ⟨?_, (h2 i hi).2⟩, k.then h3 fun i hl hi => (hD i hi).elim id fun h => by omega⟩
  rcases (h2 i hi).1 with h | h
  · exact hD i h
  · exact .inr (by omega)
/-- One update behind what leaves all as it was. -/
theorem MStep.upd1 {p' : MM} {E F c : Nat} (h : MD w5 (upd D E F c) b p' cm cn cd) (hE : w.heap.size ≤ E) (k5 : Kp (fun i => D i ≠ 0) w w5) : MStep w D b w5 p' :=
  MStep.of h (fun i hi => (upd_nz hi).elim (fun h => .inl h.2) fun h => .inr (by omega)) k5
theorem slot0 {cs : List Value} {i g : Nat} {w0 : World} {js : List Nat} (h : Big w5 b 185 cs) (hi : i < cs.length) (hg : b ≠ g) : (∃ v, w5.cell? ⟨b, i, none⟩ = some v) ∧ w5.frozen? ⟨b, i, none⟩ = false ∧ Apart ⟨b, i, none⟩ g js := ⟨(Big.slot h hi).1, (Big.slot h hi).2, .inl hg⟩
theorem c145 (h : MD w D b p cm cn cd) (hD : ∀ i, D i ≠ 0 → i < w.heap.size) (ok : OkP p) (o : Ox) : Rets Tryd.prog 145 #[pt b, opV o] w fun v w' => v = .tuple #[] ∧ MStep w D b w' (refusedP p o.stp) := by
  refine ent [_, _] Tryd.func145 ((vcTryd145 _ _ _ _ _ _ _ _ _ _ _ _ w _).mpr ?_)
  unfold VCTryd145
  have hbl := h.big.lt
  obtain ⟨k0, z0⟩ := opKp w o
  rw [opEq]
  have hbg : b ≠ w.heap.size := by omega
  generalize w.alloc (.cells (opC o) 124) = W at *
  have h0 := h.kp0 k0
  have hdr := h.kp0 k0.drew
  obtain ⟨qm, cm', rfl, rm⟩ := h0.sm.rd
  have cellm : W.cell? ⟨b, 0, none⟩ = some (.slice qm p.may.length cm') := by rw [h0.big.cell]; rfl
  obtain ⟨qn, nn, cnn, en, rn⟩ := hdr.rd.now
  simp only [ptr_some, ad_add, Nat.zero_add, Nat.add_zero]
  have hlen := ok.len
  have kb : ∀ {w5 : World}, W.heap.size ≤ w5.heap.size → w.heap.size < w5.heap.size := fun h => by omega
  have nob : ¬ D w.heap.size = 1 := fun e => by have := hD w.heap.size (by rw [e]; decide); omega
  have nofresh : ∀ {w1 : World}, w.heap.size ≤ w1.heap.size → ∀ i, i < w1.heap.size → D i = 1 → ¬ (w1.heap.size ≤ i) := fun _ i hi _ => by omega
  -- a state more
  have more : o.k = 12 ∨ o.k = 13 ∨ o.k = 14 → ∀ {Q1 : Prop} {Q2 : World → Option Addr → Nat → Nat → Prop}, Q1 → Rets Tryd.prog 139 #[.slice qn nn cnn] W.drew fun v19 w20 => ∃ q21 n22 n23, v19 = .slice q21 n22 n23 ∧ Keeps W.drew w20 [w.heap.size] ∧ w20.cell? ⟨b, 0, none⟩ = some (.slice qm p.may.length cm') ∧ (w20.alloc (.cells #[.bool true, .slice q21 n22 n23] 130)).cell? ⟨b, 0, none⟩ = some (.slice qm p.may.length cm') ∧
      Runs Tryd.prog (Builtin.append_ #[183, 183] 183 #[.slice qm p.may.length cm', .slice (some ⟨w20.heap.size, 0, none⟩) 1 1]) (w20.alloc (.cells #[.bool true, .slice q21 n22 n23] 130)) fun v24 w25 => ∃ q26 n27 n28, v24 = .slice q26 n27 n28 ∧ Keeps (w20.alloc (.cells #[.bool true, .slice q21 n22 n23] 130)) w25 [w.heap.size] ∧
        (∃ v30, w25.cell? ⟨b, 0, none⟩ = some v30) ∧ w25.frozen? ⟨b, 0, none⟩ = false ∧ Apart ⟨b, 0, none⟩ w.heap.size [0, 1, 2, 3, 4, 5, 6] ∧ (Q2 w25 q26 n27 n28 → ∃ v, Ending.returned (.tuple #[]) = Ending.returned v ∧ v = .tuple #[] ∧ MStep w D b (w25.setCell ⟨b, 0, none⟩ (.slice q26 n27 n28)) (refusedP p o.stp)) := fun hk Q1 Q2 _ => by
    refine (c139 rn ok.now).mono ?_
    rintro v w2 ⟨F2, k2⟩
    obtain ⟨q2, c2, rfl, _⟩ := F2.rd
    have K2 : Kp none_ w w2 := k0.trans (Kp.of_drew k2)
    have h2 := h.kp0 K2
    have z2 := k2.size
    have z2' : W.heap.size ≤ w2.heap.size := z2
    have ka : Kp none_ w2 (w2.alloc (.cells #[.bool true, .slice q2 p.now.length c2] 130)) := (Kp.refl none_ w2).alloc1 _
    have cm2 : w2.cell? ⟨b, 0, none⟩ = some (.slice qm p.may.length cm') := by rw [h2.big.cell]; rfl
    refine ⟨_, _, _, rfl, k2.k0 z0, cm2, ka.cell0 cm2, h2.sm.push true F2 (fun i hl hi hN => ?_) hlen fun q3 n3 c3 w3 s3 k3 k3' => ⟨_, _, _, rfl, kso k3' nob (by rw [alloc_size]; omega), ?_⟩⟩
    · have hN : W.heap.size ≤ i := hN
      have := hD i (by rw [hi]; decide)
      omega
    have h3b := h2.big.kp k3 (fun e => by rw [h.db] at e; cases e)
    obtain ⟨g1, g2, g3⟩ := slot0 (w0 := w) (js := [0, 1, 2, 3, 4, 5, 6]) h3b (i := 0) (by simp) hbg
    refine ⟨g1, g2, g3, fun _ => ⟨_, rfl, rfl, ?_⟩⟩
    have ec : refusedP p o.stp = { p with may := p.may ++ [(true, p.now)] } := by
      unfold refusedP
      rw [if_neg (by show ¬ o.k = 1; omega), if_pos hk]
    rw [ec]
    -- the new set: of 1, or new
    have hK2 : ∀ i, (D i = 1 ∨ W.heap.size ≤ i ∨ fresh w2 i) → D i = 1 ∨ w.heap.size ≤ i := fun i hi => by
      rcases hi with hi | hi | hi
      · exact .inl hi
      · exact .inr (by omega)
      · have hi : w2.heap.size ≤ i := hi
        exact .inr (by omega)
    obtain ⟨m1, m2⟩ := MD.setMay h hD (K2.wide.trans k3) s3 hK2
    exact MStep.upd1 m1 (Nat.le_refl _) m2
  refine bif_eq (fun hk => ?_) (fun hk1 => bif_eq (fun hk => bif_eq (fun _ => ?_) (fun hh => absurd hk hh)) (fun hk12 => bif_eq (fun hk => bif_eq (fun _ => ?_) (fun hh => absurd hk hh)) (fun hk13 => bif_eq (fun hk => ?_) (fun hk14 => ?_))))
  · refine ⟨_, _, _, cellm, h0.sm.push true (FOwn.nil W (fun _ => False)) (fun _ _ _ h => h) hlen fun q3 n3 c3 w3 s3 k3 k3' => ⟨_, _, _, rfl, kso k3' nob (by rw [alloc_size]; omega), ?_⟩⟩
    have h3b := h0.big.kp k3 (fun e => by rw [h.db] at e; cases e)
    obtain ⟨g1, g2, g3⟩ := slot0 (w0 := w) (js := [0, 1, 2, 3, 4, 5, 6]) h3b (i := 0) (by simp) hbg
    refine ⟨g1, g2, g3, fun _ => ⟨_, rfl, rfl, ?_⟩⟩
    have ec : refusedP p o.stp = { p with may := p.may ++ [(true, [])] } := by
      unfold refusedP
      rw [if_pos hk]
    rw [ec]
    obtain ⟨m1, m2⟩ := MD.setMay h hD (k0.wide.trans k3) s3 (fun i hi => by
      rcases hi with hi | hi | hi
      · exact .inl hi
      · exact hi.elim
      · have hi : W.heap.size ≤ i := hi
        exact .inr (by omega))
    exact MStep.upd1 m1 (Nat.le_refl _) m2
  · exact ⟨_, _, _, by rw [hdr.big.cell]; rfl, _, _, _, en, more (.inl hk)⟩
  · exact ⟨_, _, _, by rw [hdr.big.cell]; rfl, _, _, _, en, more (.inr (.inl hk))⟩
  · exact ⟨_, _, _, by rw [hdr.big.cell]; rfl, _, _, _, en, more (.inr (.inr hk))⟩
  · refine fun _ => ⟨_, rfl, rfl, ?_⟩
    have ec : refusedP p o.stp = p := by
      unfold refusedP
      rw [if_neg hk1, if_neg (by show ¬ (o.k = 12 ∨ o.k = 13 ∨ o.k = 14); omega)]
    rw [ec]
    exact MStep.of h0 (fun i hi => .inl hi) k0.wide
end Go.Proofs.YtbpknjldphckgaaDoor
