/- Model: New, Now, a model that isn't there; the law's example. -/
import Derived.Test.YtbpknjldphckgaaDoorJp
import Derived.Test.YtbpknjldphckgaaDoorVme
namespace Go.Proofs.YtbpknjldphckgaaDoor
open Go Go.SX Go.Proofs Go.Lib
set_option maxRecDepth 100000
set_option linter.unusedVariables false
set_option linter.unusedSimpArgs false
variable {w w5 : World} {D : Nat → Nat} {b : Nat} {p : MM} {cm cn cd : Value}
/-- A model at its beginning. -/
def newD (E : Nat) : Nat → Nat := fun i => if i = E then 1 else if i = E + 1 then 4 else 0
theorem c97 (w : World) : Rets Tryd.prog 97 #[] w fun v w' => v = pt (w.heap.size + 1) ∧ (∃ cm cn cd, MD w' (newD w.heap.size) (w.heap.size + 1) newM cm cn cd) ∧ Kp none_ w w' ∧ w'.heap.size = w.heap.size + 2 := by
  refine ent [] Tryd.func97 ((vcTryd97 w _).mpr ?_)
  unfold VCTryd97
  intro _
  have k1 : Kp none_ w (w.alloc (.cells #[.bool false, .slice none 0 0] 130)) := (Kp.refl none_ w).alloc1 _
  have hs1 : (w.alloc (.cells #[.bool false, .slice none 0 0] 130)).heap.size = w.heap.size + 1 := alloc_size _ _
  have S1 := SOwn.one (w := w) false (FOwn.nil w (fun _ => False))
  generalize w.alloc (.cells #[.bool false, .slice none 0 0] 130) = w1 at *
  have k2 : Kp none_ w1 (w1.alloc (.cells #[.slice (some ⟨w.heap.size, 0, none⟩) 1 1, .bool false, .bool false, .bool false, .slice none 0 0, .string { data := #[] }, .slice none 0 0] 185)) := (Kp.refl none_ w1).alloc1 _
  have B2 : Big (w1.alloc (.cells #[.slice (some ⟨w.heap.size, 0, none⟩) 1 1, .bool false, .bool false, .bool false, .slice none 0 0, .string { data := #[] }, .slice none 0 0] 185)) w1.heap.size 185 [.slice (some ⟨w.heap.size, 0, none⟩) 1 1, .bool false, .bool false, .bool false, .slice none 0 0, .string { data := #[] }, .slice none 0 0] := Big.new _ _ 185
  have hs2 : (w1.alloc (.cells #[.slice (some ⟨w.heap.size, 0, none⟩) 1 1, .bool false, .bool false, .bool false, .slice none 0 0, .string { data := #[] }, .slice none 0 0] 185)).heap.size = w1.heap.size + 1 := alloc_size _ _
  generalize w1.alloc (.cells #[.slice (some ⟨w.heap.size, 0, none⟩) 1 1, .bool false, .bool false, .bool false, .slice none 0 0, .string { data := #[] }, .slice none 0 0] 185) = w2 at *
  refine ⟨_, rfl, by rw [hs1]; rfl, ⟨_, _, _, ⟨by rw [← hs1]; exact B2, ?_, ?_, ?_, ?_⟩⟩, k1.trans k2, by omega⟩
  · unfold newD; rw [if_neg (by omega), if_pos rfl]
  · refine S1.kp k2 fun i hl hi => ⟨id, ?_⟩
    show newD w.heap.size i = 1
    have : i = w.heap.size := by
      rcases hi with hi | hi
      · exact hi.elim
      · have hi : w.heap.size ≤ i := hi
        omega
    unfold newD; rw [if_pos this]
  · exact (FOwn.nil w2 (fun _ => False)).mono fun _ _ h => h.elim
  · exact OwnRow.nil _ _ _ _
theorem c101 (h : MRd w b p) (ok : OkP p) : Rets Tryd.prog 101 #[pt b] w fun v w' => ∃ q n c, v = .tuple #[.slice q n c, .bool p.opn] ∧ FRd w' q n (if p.opn = true then p.now else []) ∧ Kp none_ w w' := by
  refine ent [_] Tryd.func101 ((vcTryd101 _ w _).mpr ?_)
  unfold VCTryd101
  refine bif_b (fun hn => by cases hn) (fun _ => ?_)
  simp only [ptr_some, ad_add, Nat.zero_add]
  refine ⟨_, h.opn, bif_not (fun ho => ⟨_, rfl, none, 0, 0, by rw [ho], ?_, Kp.refl _ _⟩) (fun ho => ?_)⟩
  · rw [if_neg (by rw [ho]; decide)]
    exact ⟨[], rfl, rfl, fun i hi => by simp at hi, fun x hx => by cases hx⟩
  · obtain ⟨q, n, c, e, r⟩ := h.now
    refine ⟨_, _, _, e, (c139 r ok.now).mono ?_⟩
    rintro v w1 ⟨f, k1⟩
    obtain ⟨q1, c1, rfl, r1⟩ := f.rd
    exact ⟨_, _, _, rfl, k1.keeps0, _, rfl, _, _, _, by rw [ho], by rw [if_pos ho]; exact r1, k1⟩
theorem c101n (w : World) : Rets Tryd.prog 101 #[.pointer none] w fun v w' => v = .tuple #[.slice none 0 0, .bool false] ∧ w' = w := by
  refine ent [_] Tryd.func101 ((vcTryd101 _ w _).mpr ?_)
  unfold VCTryd101
  exact bif_b (fun _ => ⟨_, rfl, rfl, rfl⟩) (fun h => by cases h)
theorem c94n (o : Ox) (a : Ax) (w : World) : Rets Tryd.prog 94 #[.pointer none, opV o, anV a] w fun v w' => v = .bool false ∧ Kp none_ w w' := by
  refine ent [_, _, _] Tryd.func94 ((vcTryd94 _ _ _ _ _ _ _ _ _ _ _ _ _ _ _ _ _ _ _ _ _ _ _ _ _ w _).mpr ?_)
  unfold VCTryd94
  exact bif_b (fun _ _ => ⟨_, rfl, rfl, ((Kp.refl none_ w).alloc1 _).alloc1 _⟩) (fun h => by cases h)
theorem c95n (S : Stx) (w : World) : Rets Tryd.prog 95 #[.pointer none, stV S] w fun v w' => v = .bool false ∧ Kp none_ w w' := by
  refine ent [_, _] Tryd.func95 ((vcTryd95 _ _ _ _ _ w _).mpr ?_)
  unfold VCTryd95
  exact bif_b (fun _ _ => ⟨_, rfl, rfl, (Kp.refl none_ w).alloc1 _⟩) (fun h => by cases h)
def o2 : Ox := ⟨2, [], [], none, 0, 0, none, 0, 0, 0, 0⟩
def aE (e : Int) : Ax := ⟨e, [], none, 0, 0, [], none, 0, [], none, 0, false, false⟩
theorem bytes0 (w : World) : BytesAt w none (ba []) := fun i hi => absurd hi (by rw [ba_size]; simp)
theorem fin0 (w : World) (Q : Nat → Prop) : FIn w Q none 0 [] := FIn.nil w Q none
theorem anE (w : World) (e : Int) : AnAt w (aE e) := ⟨bytes0 w, ⟨Nat.le_refl _, by show 0 ≤ maxLen; exact Nat.zero_le _⟩, fun i hi => absurd hi (by show ¬ i < 0; omega), (fin0 w (fun _ => True)).rd⟩
theorem opE (w : World) : OpAt w o2 := ⟨bytes0 w, Nat.le_refl _, Nat.zero_le _⟩
theorem bigNil : bigL [] := ⟨by decide, fun x hx => by cases hx⟩
theorem okNew : OkP newM := ⟨trivial, bigNil, fun x hx => by
  have : x = (false, []) := by simpa [newM] using hx
  subst this
  exact bigNil, by decide, by decide, by decide⟩
theorem newD_lt {E i : Nat} (h : newD E i ≠ 0) : E ≤ i ∧ i < E + 2 := by
  unfold newD at h
  split at h
  · omega
  · split at h
    · omega
    · exact absurd rfl h
theorem c83 {w : World} (hml : ML w) (h00 : 0 < w.heap.size) : Rets Tryd.prog 83 #[] w fun v w' => v = .bool true ∧ Kp none_ w w' := by
  refine ent [] Tryd.func83 ((vcTryd83 w _).mpr ?_)
  unfold VCTryd83
  refine (c97 w).mono ?_
  rintro v w1 ⟨rfl, ⟨cm, cn, cd, m1⟩, k1, z1⟩
  refine ⟨_, rfl, k1.keeps0, bif_not (fun _ => ?_) (fun h => by cases h)⟩
  have hD1 : ∀ i, newD w.heap.size i ≠ 0 → i < w1.heap.size := fun i hi => by have := newD_lt hi; omega
  refine (c94 (hml.kp0 k1) m1 hD1 okNew o2 (aE 7) (opE _) (by decide) (by decide) (anE _ _) (by decide) (fin0 _ _) bigNil).mono ?_
  have e1 : mayM newM o2.stp (aE 7).ans = true := by decide
  have e2 : stepP newM o2.stp (aE 7).ans = newM := rfl
  rw [e1, if_pos rfl, e2]
  rintro v w2 ⟨rfl, D2, cm2, cn2, cd2, m2, hD2, k2⟩
  have K2 : Kp none_ w w2 := (k1.wide.then k2 fun i hl hi => by have := (newD_lt hi).1; omega : Kp none_ w w2)
  refine ⟨_, rfl, k2.keeps0, bif_b (fun _ => ?_) (fun h => by cases h)⟩
  have e3 : mayM newM o2.stp (aE 0).ans = false := by decide
  have hD2' : ∀ i, D2 i ≠ 0 → i < w2.heap.size := fun i hi => (hD2 i hi).2
  have hge : ∀ i, D2 i ≠ 0 → w.heap.size ≤ i := fun i hi => by
    rcases (hD2 i hi).1 with h | h
    · exact (newD_lt h).1
    · omega
  refine (c94 (hml.kp0 K2) m2 hD2' okNew o2 (aE 0) (opE _) (by decide) (by decide) (anE _ _) (by decide) (fin0 _ _) bigNil).mono ?_
  rw [e3, if_neg (by decide)]
  rintro v w3 ⟨rfl, D3, cm3, cn3, cd3, m3, hD3, k3⟩
  have K3 : Kp none_ w w3 := (K2.then k3 fun i hl hi => by have := hge i hi; omega : Kp none_ w w3)
  refine ⟨_, rfl, k3.keeps0, bif_not (fun _ => ?_) (fun h => by cases h)⟩
  refine (c95 m3.rd okNew ⟨true, [], none, 0⟩ (fin0 _ (fun _ => True)).rd).mono ?_
  rintro v w4 ⟨rfl, k4⟩
  have e4 : canM newM (true, []) = false := by decide
  exact ⟨_, rfl, k4.keeps0, _, rfl, by rw [show canM newM (Stx.sta ⟨true, [], none, 0⟩) = false from e4]; rfl, K3.trans k4⟩
/-- A model that isn't there. -/
theorem c24 {w : World} (hml : ML w) (h00 : 0 < w.heap.size) (o : Ox) (a : Ax) (S : Stx) : Rets Tryd.prog 24 #[opV o, anV a, stV S] w fun v w' => v = .bool true ∧ Kp none_ w w' := by
  refine ent [_, _, _] Tryd.func24 ((vcTryd24 _ _ _ _ _ _ _ _ _ _ _ _ _ _ _ _ _ _ _ _ _ _ _ _ _ _ _ _ w _).mpr ?_)
  unfold VCTryd24
  obtain ⟨k0, z0⟩ := opKp w o
  rw [opEq, anEq]
  generalize w.alloc (.cells (opC o) 124) = W0 at *
  obtain ⟨k1, z1⟩ := anKp W0 a
  generalize W0.alloc (.cells (anC a) 126) = W1 at *
  have k2 : Kp none_ W1 (W1.alloc (.cells #[.bool S.t, .slice S.q S.L.length S.c] 130)) := (Kp.refl none_ _).alloc1 _
  have z2 : (W1.alloc (.cells #[.bool S.t, .slice S.q S.L.length S.c] 130)).heap.size = W1.heap.size + 1 := alloc_size _ _
  generalize W1.alloc (.cells #[.bool S.t, .slice S.q S.L.length S.c] 130) = W at *
  have K := (k0.trans k1).trans k2
  have ke : ∀ {w5 w6 : World}, Kp none_ W w5 → Kp none_ w5 w6 → Keeps w5 w6 [w.heap.size, W0.heap.size, W1.heap.size] := fun k k' => k'.keeps fun b hb => ⟨by
    have := k.size
    simp only [List.mem_cons, List.not_mem_nil, or_false] at hb
    rcases hb with rfl | rfl | rfl <;> omega, id⟩
  intro _
  refine (c101n W).mono ?_
  rintro v wx ⟨rfl, e⟩
  obtain rfl := e.symm
  refine ⟨_, _, _, _, rfl, ke (Kp.refl _ _) (Kp.refl _ _), fun _ => (c94n o a W).mono ?_⟩
  rintro v w1 ⟨rfl, k3⟩
  refine ⟨_, rfl, ke (Kp.refl _ _) k3, bif_not (fun _ _ => ?_) (fun h => by cases h)⟩
  refine (c95n S w1).mono ?_
  rintro v w2 ⟨rfl, k4⟩
  have K4 := K.trans (k3.trans k4)
  refine ⟨_, rfl, ke k3 k4, bif_not (fun _ => bif_not (fun _ => bif_eq (fun _ _ => ?_) (fun h => absurd rfl h)) (fun h => by cases h)) (fun h => by cases h)⟩
  exact leafB (c83 (hml.kp0 K4) (Nat.lt_of_lt_of_le h00 K4.size)) K4 (fun b hb => by
    have := (k3.trans k4).size
    simp only [List.mem_cons, List.not_mem_nil, or_false] at hb
    rcases hb with rfl | rfl | rfl <;> omega) rfl (P := True) trivial
end Go.Proofs.YtbpknjldphckgaaDoor
