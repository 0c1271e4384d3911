/- Model: what a step leaves behind that is OK. -/
import Derived.Test.YtbpknjldphckgaaDoorJn
namespace Go.Proofs.YtbpknjldphckgaaDoor
open Go Go.SX Go.Proofs Go.Lib
set_option maxRecDepth 100000
set_option linter.unusedVariables false
set_option linter.unusedSimpArgs false
variable {w w5 : World} {D : Nat → Nat} {b : Nat} {p : MM} {cm cn cd : Value}
theorem slot4 {cs : List Value} {i g g' : Nat} {js js' : List Nat} (h : Big w5 b 185 cs) (hi : i < cs.length) (hg : b ≠ g) (hg' : b ≠ g') : (∃ v, w5.cell? ⟨b, i, none⟩ = some v) ∧ w5.frozen? ⟨b, i, none⟩ = false ∧ Apart ⟨b, i, none⟩ g js ∧ Apart ⟨b, i, none⟩ g' js' := ⟨(Big.slot h hi).1, (Big.slot h hi).2, .inl hg, .inl hg'⟩
theorem c146 (h : MD w D b p cm cn cd) (hD : ∀ i, D i ≠ 0 → i < w.heap.size) (ok : OkP p) (o : Ox) (a : Ax) (ho : OpAt w o) (hol : o.d.length ≤ 1000000) (ha : FIn w (fun i => D i = 0) a.lq a.L.length a.L) (hal : bigL a.L) :
    Rets Tryd.prog 146 #[pt b, opV o, anV a] w fun v w' => v = .tuple #[] ∧ MStep w D b w' (doneP p o.stp a.ans) := by
  refine ent [_, _, _] Tryd.func146 ((vcTryd146 _ _ _ _ _ _ _ _ _ _ _ _ _ _ _ _ _ _ _ _ _ _ _ _ _ w _).mpr ?_)
  unfold VCTryd146
  have hbl := h.big.lt
  obtain ⟨k0, z0⟩ := opKp w o
  have B0 : Big (w.alloc (.cells (opC o) 124)) w.heap.size 124 (opC o).toList := Big.new _ _ 124
  rw [opEq, anEq]
  have hbg : b ≠ w.heap.size := by omega
  generalize w.alloc (.cells (opC o) 124) = W0 at *
  obtain ⟨k1, z1⟩ := anKp W0 a
  have hbg' : b ≠ W0.heap.size := by have := k0.size; omega
  generalize W0.alloc (.cells (anC a) 126) = W at *
  have K := k0.trans k1
  have Kd := K.drew
  have zW : w.heap.size ≤ W.heap.size := K.size
  have h0 := h.kp0 K
  have hdr := h.kp0 Kd
  have hb : ∀ {w5 : World}, W.heap.size ≤ w5.heap.size → ∀ b ∈ [w.heap.size, W0.heap.size], b < w5.heap.size := fun {w5} k b hb => by
    simp only [List.mem_cons, List.not_mem_nil, or_false] at hb
    rcases hb with rfl | rfl <;> omega
  simp only [ptr_some, ad_add, Nat.zero_add, Nat.add_zero]
  obtain ⟨qn, nn, cnn, en, rn⟩ := hdr.rd.now
  obtain ⟨qd, nd, cdd, ed, rd⟩ := hdr.rd.dat
  have en0 : W.cell? ⟨b, 4, none⟩ = some (.slice qn nn cnn) := en
  have e1 : bytesL (ba o.s) = o.s := bytesL_ba _
  have es : p.now = p.now := rfl
  -- the cell of the map set anew
  have setN : ∀ {w5 : World} {v : Value} {L' : List Fil}, Kp none_ w w5 → FOwn w5 (fun i => w.heap.size ≤ i) v L' → MStep w D b (w5.setCell ⟨b, 4, none⟩ v) { p with now := L' } := fun k f => by
    obtain ⟨m1, m2⟩ := MD.setNow h hD k f (fun i hi => hi)
    exact MStep.upd1 m1 (Nat.le_refl _) m2
  -- the states: one, that of the map
  have oneS : ∀ {w5 : World} {v : Value} {L' : List Fil}, Kp none_ w w5 → FOwn w5 (fun i => w.heap.size ≤ i) v L' → MStep w D b ((w5.alloc (.cells #[.bool true, v] 130)).setCell ⟨b, 0, none⟩ (.slice (some ⟨w5.heap.size, 0, none⟩) 1 1)) { p with may := [(true, L')] } := fun {w5 v L'} k f => by
    have ka : Kp none_ w5 (w5.alloc (.cells #[.bool true, v] 130)) := (Kp.refl none_ _).alloc1 _
    obtain ⟨m1, m2⟩ := MD.setMay h hD (k.trans ka).wide (SOwn.one true f) (fun i hi => hi.elim .inr fun hf => .inr (by have hf : w5.heap.size ≤ i := hf; have := k.size; omega))
    exact MStep.upd1 m1 (Nat.le_refl _) m2
  have F : ∀ {w5 : World} {v : Value} {L : List Fil}, FOwn w5 (fun i => W.heap.size ≤ i) v L → FOwn w5 (fun i => w.heap.size ≤ i) v L := fun f => f.mono fun i _ hi => by
    have hi : W.heap.size ≤ i := hi
    omega
  have sync : (o.k = 12 ∨ o.k = 13 ∨ o.k = 14) → ∀ {Q1 : Prop} {Q2 : World → Option Addr → Nat → Nat → Prop}, Q1 → Rets Tryd.prog 139 #[.slice qn nn cnn] W fun v82 w83 => ∃ q84 n85 n86, v82 = .slice q84 n85 n86 ∧ Keeps W w83 [w.heap.size, W0.heap.size] ∧ (∃ v88, (w83.alloc (.cells #[.bool true, .slice q84 n85 n86] 130)).cell? ⟨b, 0, none⟩ = some v88) ∧ (w83.alloc (.cells #[.bool true, .slice q84 n85 n86] 130)).frozen? ⟨b, 0, none⟩ = false ∧ Apart ⟨b, 0, none⟩ w.heap.size [0, 1, 2, 3, 4, 5, 6] ∧ Apart ⟨b, 0, none⟩ W0.heap.size [0, 1, 2, 3, 4, 5, 6] ∧
      (Q2 w83 q84 n85 n86 → ∃ v, Ending.returned (.tuple #[]) = Ending.returned v ∧ v = .tuple #[] ∧ MStep w D b ((w83.alloc (.cells #[.bool true, .slice q84 n85 n86] 130)).setCell ⟨b, 0, none⟩ (.slice (some ⟨w83.heap.size, 0, none⟩) 1 1)) (doneP p o.stp a.ans)) := fun hk Q1 Q2 _ => by
    refine (c139 (w := W) (q := qn) (c := cnn) (n := nn) (L := p.now) (by obtain ⟨q', n', c', e', r'⟩ := h0.rd.now; rw [en0] at e'; cases e'; exact r') ok.now).mono ?_
    rintro v w2 ⟨f2, k2⟩
    obtain ⟨q2, c2, rfl, _⟩ := f2.rd
    have ka : Kp none_ w2 (w2.alloc (.cells #[.bool true, .slice q2 p.now.length c2] 130)) := (Kp.refl none_ _).alloc1 _
    obtain ⟨g1, g2, g3, g4⟩ := slot4 (js := [0, 1, 2, 3, 4, 5, 6]) (js' := [0, 1, 2, 3, 4, 5, 6]) ((h.big.kp (K.trans k2) id).kp ka id) (i := 0) (by simp) hbg hbg'
    refine ⟨_, _, _, rfl, k2.keeps fun b hbm => ⟨hb (Nat.le_refl _) b hbm, id⟩, g1, g2, g3, g4, fun _ => ⟨_, rfl, rfl, ?_⟩⟩
    have ec : doneP p o.stp a.ans = { p with may := [(true, p.now)] } := by
      unfold doneP
      rw [if_neg (by show ¬ o.k = 1; omega), if_neg (by show ¬ o.k = 2; omega), if_neg (by show ¬ o.k = 3; omega), if_neg (by show ¬ o.k = 4; omega), if_neg (by show ¬ o.k = 5; omega), if_neg (by show ¬ o.k = 6; omega), if_neg (by show ¬ o.k = 7; omega), if_neg (by show ¬ o.k = 11; omega), if_pos hk]
    rw [ec]
    exact oneS (K.trans k2) (F f2)
  refine bif_eq (fun hk => ?_) (fun hk1 => bif_eq (fun hk => ?_) (fun hk2 => bif_eq (fun hk => ?_) (fun hk3 => bif_eq (fun hk => ?_) (fun hk4 => bif_eq (fun hk => ?_) (fun hk5 => bif_eq (fun hk => ?_) (fun hk6 => bif_eq (fun hk => ?_) (fun hk7 => bif_eq (fun hk => ?_) (fun hk11 => bif_eq (fun hk => bif_eq (fun _ => ?_) (fun hh => absurd hk hh)) (fun hk12 => bif_eq (fun hk => bif_eq (fun _ => ?_) (fun hh => absurd hk hh)) (fun hk13 => bif_eq (fun hk => ?_) (fun hk14 => ?_)))))))))))
  · -- Create
    have ka : Kp none_ W (W.alloc (.cells #[.bool true, .slice none 0 0] 130)) := (Kp.refl none_ _).alloc1 _
    obtain ⟨g1, g2, g3, g4⟩ := slot4 (js := [0, 1, 2, 3, 4, 5, 6]) (js' := [0, 1, 2, 3, 4, 5, 6]) (h0.big.kp ka id) (i := 0) (by simp) hbg hbg'
    refine ⟨g1, g2, g3, g4, fun _ => ⟨_, rfl, rfl, ?_⟩⟩
    have ec : doneP p o.stp a.ans = { p with may := [(true, [])] } := by unfold doneP; rw [if_pos hk]
    rw [ec]
    exact oneS K ((FOwn.nil W (fun _ => False)).mono fun _ _ h => h.elim)
  · -- Open
    intro _
    refine (c139 (ha.kp0 K).rd hal).mono ?_
    rintro v w3 ⟨f3, k3⟩
    obtain ⟨q3, c3, rfl, _⟩ := f3.rd
    have K3 := K.trans k3
    have h3 := h.kp0 K3
    refine ⟨_, _, _, rfl, k3.keeps fun b hbm => ⟨hb (Nat.le_refl _) b hbm, id⟩, ?_⟩
    obtain ⟨g1, g2, g3, g4⟩ := slot4 (js := [0, 1, 2, 3, 4, 5, 6]) (js' := [0, 1, 2, 3, 4, 5, 6]) h3.big (i := 1) (by simp) hbg hbg'
    refine ⟨g1, g2, g3, g4, ?_⟩
    obtain ⟨m4, kk4⟩ := h3.flag 1 (.bool true) { p with opn := true } rfl rfl rfl rfl
    generalize w3.setCell ⟨b, 1, none⟩ (.bool true) = w4 at *
    have zz4 := kk4.size
    have f4 : FOwn w4 (fun i => w.heap.size ≤ i) (.slice q3 a.L.length c3) a.L := (F f3).kp kk4 fun i hl hi => ⟨fun hd => by have := hD i hd; omega, hi⟩
    obtain ⟨g1, g2, g3, g4⟩ := slot4 (js := [0, 1, 2, 3, 4, 5, 6]) (js' := [0, 1, 2, 3, 4, 5, 6]) m4.big (i := 4) (by simp) hbg hbg'
    refine ⟨g1, g2, g3, g4, ?_⟩
    obtain ⟨m5, kk5⟩ := MD.setNow m4 hD (Kp.refl none_ _) f4 (fun i hi => hi)
    have hz5 : (w4.setCell ⟨b, 4, none⟩ (.slice q3 a.L.length c3)).heap.size = w4.heap.size := by
      have := (Big.setKp (w := w4) (g := b) 4 (.slice q3 a.L.length c3) (S := fun _ => True) trivial).size
      exact Nat.le_antisymm (by simp [World.setCell]) this
    generalize w4.setCell ⟨b, 4, none⟩ (.slice q3 a.L.length c3) = w5 at *
    have zz5 := kk5.size
    have K5 : Kp (fun i => D i ≠ 0) w w5 := (K3.wide.trans kk4).trans kk5
    intro _
    refine (c139 (ha.kp K5 (Q' := fun _ => True) fun i hl hi => ⟨fun hn => hn hi, trivial⟩).rd hal).mono ?_
    rintro v w6 ⟨f6, k6⟩
    obtain ⟨q6, c6, rfl, _⟩ := f6.rd
    have zz3 := k3.size
    refine ⟨_, _, _, rfl, k6.keeps fun b hbm => ⟨hb (by omega) b hbm, id⟩, ?_⟩
    have ka : Kp none_ w6 (w6.alloc (.cells #[.bool true, .slice q6 a.L.length c6] 130)) := (Kp.refl none_ _).alloc1 _
    obtain ⟨g1, g2, g3, g4⟩ := slot4 (js := [0, 1, 2, 3, 4, 5, 6]) (js' := [0, 1, 2, 3, 4, 5, 6]) ((m5.big.kp k6 id).kp ka id) (i := 0) (by simp) hbg hbg'
    refine ⟨g1, g2, g3, g4, fun _ => ⟨_, rfl, rfl, ?_⟩⟩
    have ec : doneP p o.stp a.ans = { p with opn := true, now := a.L, may := [(true, a.L)] } := by unfold doneP; rw [if_neg hk1, if_pos hk]
    rw [ec]
    have hD5 : ∀ i, upd D w.heap.size w4.heap.size 2 i ≠ 0 → i < w5.heap.size := fun i hi => (upd_nz hi).elim (fun h => by omega) fun h => by omega
    obtain ⟨m7, kk7⟩ := MD.setMay m5 hD5 (k6.trans ka).wide (SOwn.one true f6) (fun i hi => hi.elim (fun h => .inr h) fun hf => .inr (by have hf : w6.heap.size ≤ i := hf; have := k6.size; omega))
    refine MStep.trans (D1 := upd D w.heap.size w4.heap.size 2) (fun i hi => (upd_nz hi).elim (fun h => .inl h.2) fun h => .inr h.1) K5 (MStep.upd1 m7 (Nat.le_refl _) kk7)
  · -- Put
    refine ⟨_, _, _, en, fun _ => (c89 rn ok.asc ok.now (ba o.s) ⟨ho.dat.kp0 Kd, rfl, ho.le⟩ (by omega)).mono ?_⟩
    rw [e1]
    rintro v w2 ⟨f2, k2⟩
    have k2' := Kp.of_drew k2
    obtain ⟨q2, c2, rfl, _⟩ := f2.rd
    obtain ⟨g1, g2, g3, g4⟩ := slot4 (js := [0, 1, 2, 3, 4, 5, 6]) (js' := [0, 1, 2, 3, 4, 5, 6]) (h.big.kp (K.trans k2') id) (i := 4) (by simp) hbg hbg'
    refine ⟨_, _, _, rfl, k2.keeps fun b hbm => ⟨hb (Nat.le_refl _) b hbm, id⟩, g1, g2, g3, g4, fun _ => ⟨_, rfl, rfl, ?_⟩⟩
    have ec : doneP p o.stp a.ans = { p with now := withK Prod.fst p.now o.s (o.s, o.d) } := by unfold doneP; rw [if_neg hk1, if_neg hk2, if_pos hk]
    rw [ec]
    exact setN (K.trans k2') (F f2)
  · -- Begin
    obtain ⟨g1, g2, g3, g4⟩ := slot4 (js := [0, 1, 2, 3, 4, 5, 6]) (js' := [0, 1, 2, 3, 4, 5, 6]) hdr.big (i := 3) (by simp) hbg hbg'
    refine ⟨g1, g2, g3, g4, ?_⟩
    have B2 : Big W.drew w.heap.size 124 (opC o).toList := B0.kp k1.drew id
    obtain ⟨m3, kk3⟩ := hdr.flag 3 (.bool true) { p with streaming := true } rfl rfl rfl rfl
    have B3 := B2.kp kk3 (fun hn => by have := hD _ hn; omega)
    generalize W.drew.setCell ⟨b, 3, none⟩ (.bool true) = w3 at *
    refine ⟨by rw [B3.cell]; rfl, ?_⟩
    obtain ⟨g1, g2, g3, g4⟩ := slot4 (js := [0, 1, 2, 3, 4, 5, 6]) (js' := [0, 1, 2, 3, 4, 5, 6]) m3.big (i := 5) (by simp) hbg hbg'
    refine ⟨g1, g2, g3, g4, ?_⟩
    obtain ⟨m4, kk4⟩ := m3.flag 5 (.string (ba o.s)) { p with streaming := true, name := o.s } rfl rfl rfl rfl
    generalize w3.setCell ⟨b, 5, none⟩ (.string (ba o.s)) = w4 at *
    obtain ⟨g1, g2, g3, g4⟩ := slot4 (js := [0, 1, 2, 3, 4, 5, 6]) (js' := [0, 1, 2, 3, 4, 5, 6]) m4.big (i := 6) (by simp) hbg hbg'
    refine ⟨g1, g2, g3, g4, fun _ => ⟨_, rfl, rfl, ?_⟩⟩
    have ec : doneP p o.stp a.ans = { p with streaming := true, name := o.s, data := [] } := by unfold doneP; rw [if_neg hk1, if_neg hk2, if_neg hk3, if_pos hk]
    rw [ec]
    have K4 : Kp (fun i => D i ≠ 0) w w4 := (Kd.wide.trans kk3).trans kk4
    obtain ⟨m5, kk5⟩ := MD.setDat m4 hD (Kp.refl _ _) (N := fun _ => False) (cd' := .slice none 0 0) (d' := []) (OwnRow.nil _ _ _ _) (fun _ h => h.elim)
    exact MStep.upd1 m5 (Nat.le_refl _) (K4.trans kk5)
  · -- Write
    have hdl := ok.dat
    refine ⟨_, _, _, ed, ?_⟩
    obtain ⟨q', c', ecd⟩ := hdr.sd.slice
    have hcd : cd = .slice qd nd cdd := by
      have := hdr.big.cell 6
      rw [ed] at this
      simpa using this.symm
    subst hcd
    refine bytes_app hdr.sd (ho.dat.kp0 Kd) (by omega) fun q2 n2 c2 w2 r2 k2 => ?_
    obtain ⟨g1, g2, g3, g4⟩ := slot4 (js := [0, 1, 2, 3, 4, 5, 6]) (js' := [0, 1, 2, 3, 4, 5, 6]) (hdr.big.kp k2 (fun e => by rw [h.db] at e; cases e)) (i := 6) (by simp) hbg hbg'
    refine ⟨_, _, _, rfl, k2.keeps fun b hbm => ⟨hb (Nat.le_refl _) b hbm, fun e => ?_⟩, g1, g2, g3, g4, fun _ => ⟨_, rfl, rfl, ?_⟩⟩
    · have := hD b (by rw [e]; decide)
      have := k0.size
      simp only [List.mem_cons, List.not_mem_nil, or_false] at hbm
      rcases hbm with rfl | rfl <;> omega
    have ec : doneP p o.stp a.ans = { p with data := p.data ++ o.d } := by unfold doneP; rw [if_neg hk1, if_neg hk2, if_neg hk3, if_neg hk4, if_pos hk]
    rw [ec]
    obtain ⟨m5, kk5⟩ := MD.setDat h hD (Kd.wide.trans k2) r2 (fun i hi => hi.imp id fun hf => by have hf : W.heap.size ≤ i := hf; omega)
    exact MStep.upd1 m5 (Nat.le_refl _) kk5
  · -- Finish
    have hdl := ok.dat
    have enm : W.drew.cell? ⟨b, 5, none⟩ = some (.string (ba p.name)) := hdr.rd.nam
    have hnd := rd.len
    refine ⟨_, _, _, en, _, enm, _, _, _, ed, fun _ => (c89 rn ok.asc ok.now (ba p.name) rd (by omega)).mono ?_⟩
    rw [bytesL_ba]
    rintro v w2 ⟨f2, k2⟩
    have k2' := Kp.of_drew k2
    obtain ⟨q2, c2, rfl, _⟩ := f2.rd
    obtain ⟨g1, g2, g3, g4⟩ := slot4 (js := [0, 1, 2, 3, 4, 5, 6]) (js' := [0, 1, 2, 3, 4, 5, 6]) (h.big.kp (K.trans k2') id) (i := 4) (by simp) hbg hbg'
    refine ⟨_, _, _, rfl, k2.keeps fun b hbm => ⟨hb (Nat.le_refl _) b hbm, id⟩, g1, g2, g3, g4, ?_⟩
    obtain ⟨m3, kk3⟩ := MD.setNow h hD (K.trans k2') (F f2) (fun i hi => hi)
    generalize hE : w2.setCell ⟨b, 4, none⟩ (.slice q2 (withK Prod.fst p.now p.name (p.name, p.data)).length c2) = w3 at *
    obtain ⟨g1, g2, g3, g4⟩ := slot4 (js := [0, 1, 2, 3, 4, 5, 6]) (js' := [0, 1, 2, 3, 4, 5, 6]) m3.big (i := 3) (by simp) hbg hbg'
    refine ⟨g1, g2, g3, g4, fun _ => ⟨_, rfl, rfl, ?_⟩⟩
    have ec : doneP p o.stp a.ans = { p with now := withK Prod.fst p.now p.name (p.name, p.data), streaming := false } := by unfold doneP; rw [if_neg hk1, if_neg hk2, if_neg hk3, if_neg hk4, if_neg hk5, if_pos hk]
    rw [ec]
    obtain ⟨m4, kk4⟩ := m3.flag 3 (.bool false) { p with now := withK Prod.fst p.now p.name (p.name, p.data), streaming := false } rfl rfl rfl rfl
    refine MStep.upd1 m4 (Nat.le_refl _) (kk3.then kk4 fun i hl hi => (upd_nz hi).elim (fun h => h.2) fun h => by omega)
  · -- Abort
    obtain ⟨g1, g2, g3, g4⟩ := slot4 (js := [0, 1, 2, 3, 4, 5, 6]) (js' := [0, 1, 2, 3, 4, 5, 6]) h0.big (i := 3) (by simp) hbg hbg'
    refine ⟨g1, g2, g3, g4, fun _ => ⟨_, rfl, rfl, ?_⟩⟩
    obtain ⟨m3, kk3⟩ := h0.flag 3 (.bool false) { p with streaming := false } rfl rfl rfl rfl
    have ec : doneP p o.stp a.ans = { p with streaming := false } := by unfold doneP; rw [if_neg hk1, if_neg hk2, if_neg hk3, if_neg hk4, if_neg hk5, if_neg hk6, if_pos hk]
    rw [ec]
    exact MStep.of m3 (fun i hi => .inl hi) (K.wide.trans kk3)
  · -- Delete
    refine ⟨_, _, _, en, fun _ => (c90 rn ok.asc ok.now (ba o.s)).mono ?_⟩
    rw [e1]
    rintro v w2 ⟨f2, k2⟩
    have k2' := Kp.of_drew k2
    obtain ⟨q2, c2, rfl, _⟩ := f2.rd
    obtain ⟨g1, g2, g3, g4⟩ := slot4 (js := [0, 1, 2, 3, 4, 5, 6]) (js' := [0, 1, 2, 3, 4, 5, 6]) (h.big.kp (K.trans k2') id) (i := 4) (by simp) hbg hbg'
    refine ⟨_, _, _, rfl, k2.keeps fun b hbm => ⟨hb (Nat.le_refl _) b hbm, id⟩, g1, g2, g3, g4, fun _ => ⟨_, rfl, rfl, ?_⟩⟩
    have ec : doneP p o.stp a.ans = { p with now := withoutK Prod.fst p.now o.s } := by unfold doneP; rw [if_neg hk1, if_neg hk2, if_neg hk3, if_neg hk4, if_neg hk5, if_neg hk6, if_neg hk7, if_pos hk]
    rw [ec]
    exact setN (K.trans k2') (F f2)
  · exact ⟨_, _, _, en0, sync (.inl hk)⟩
  · exact ⟨_, _, _, en0, sync (.inr (.inl hk))⟩
  · exact ⟨_, _, _, en0, sync (.inr (.inr hk))⟩
  · refine fun _ => ⟨_, rfl, rfl, ?_⟩
    have ec : doneP p o.stp a.ans = p := by unfold doneP; rw [if_neg hk1, if_neg hk2, if_neg hk3, if_neg hk4, if_neg hk5, if_neg hk6, if_neg hk7, if_neg hk11, if_neg (by show ¬ (o.k = 12 ∨ o.k = 13 ∨ o.k = 14); omega)]
    rw [ec]
    exact MStep.of h0 (fun i hi => .inl hi) K.wide
end Go.Proofs.YtbpknjldphckgaaDoor
