import Derived.Test.YtlgkcbdpaffigaaBi
import Derived.Test.YtlgkcbdpaffigaaSxStr
namespace Go.Proofs.Ytlgkcbdpaffigaa
open Go Go.SX Go.Proofs
set_option maxRecDepth 100000
set_option linter.unusedVariables false
set_option linter.unusedSimpArgs false
section
variable {w w' : World} {col col' : Col} {D : Nat} {s : St} {S : Nat → Prop}
theorem Row0.get {o k : Nat} {e : TypeId} {size n : Nat} {xs : List Value} (h : Row0 w col D o k e size n xs) (hn : 0 < n) : ∃ g c, w.cell? ⟨D, o, none⟩ = some (.slice (some ⟨g, 0, none⟩) n c) ∧ col g = k ∧ ∀ j u, xs[j]? = some u → w.cell? ⟨g, j, none⟩ = some u := by
  obtain ⟨q, c, h1, h2⟩ := h
  obtain ⟨g, cur, rfl, _, hg, _, _, _⟩ := h2.parts hn
  refine ⟨g, c, h1, hg, fun j u hj => ?_⟩
  obtain ⟨a, e, ha⟩ := h2.at hj
  cases e
  rwa [ad_add, Nat.zero_add] at ha
theorem Row0.len {o k : Nat} {e : TypeId} {size n : Nat} {xs : List Value} (h : Row0 w col D o k e size n xs) : ∃ q c, w.cell? ⟨D, o, none⟩ = some (.slice q n c) := by
  obtain ⟨q, c, h1, h2⟩ := h
  exact ⟨q, c, h1⟩
theorem Row0.xlen {o k : Nat} {e : TypeId} {size n : Nat} {xs : List Value} (h : Row0 w col D o k e size n xs) : xs.length = n * size := by
  obtain ⟨q, c, h1, h2⟩ := h
  exact h2.1
theorem setNow_byte {s : St} (h : s.Ok) {f : Int → Int} (hf : ∀ p, isByte (f p)) (i : Nat) : ∀ p, isByte ((setNow s i f).now p) := fun p => by
  show isByte (if _ then _ else _)
  split
  · exact hf _
  · exact h.now p
theorem setSafe_ok {s : St} (h : s.Ok) {f : Int → Int} (hf : ∀ p, isByte (f p)) (i : Nat) : (setSafe s i f).Ok := ⟨h.size, h.now, fun p => by
  show isByte (if _ then _ else _)
  split
  · exact hf _
  · exact h.safe p, h.wait⟩
theorem secAt_str (f : Int → Int) (i : Nat) : strOf (secAt f i) 0 512 = strOf f (512 * i) 512 := strOf_eq fun j _ => by
  unfold secAt
  congr 1
  omega
/-- 'Safe' and 'Has' of one sector are set. -/
theorem RDsk.setSafe (h : RDsk w col D s) {i : Nat} (hi : i < s.size) {f : Int → Int} (hf : ∀ j, isByte (f j)) :
    ∃ g c g' c', w.cell? ⟨D, 1, none⟩ = some (.slice (some ⟨g, 0, none⟩) s.size c) ∧ (∃ u, w.cell? ⟨g, i, none⟩ = some u) ∧ w.frozen? ⟨g, i, none⟩ = false ∧
      (w.setCell ⟨g, i, none⟩ (.string (strOf f 0 512))).cell? ⟨D, 2, none⟩ = some (.slice (some ⟨g', 0, none⟩) s.size c') ∧ (∃ u, (w.setCell ⟨g, i, none⟩ (.string (strOf f 0 512))).cell? ⟨g', i, none⟩ = some u) ∧ (w.setCell ⟨g, i, none⟩ (.string (strOf f 0 512))).frozen? ⟨g', i, none⟩ = false ∧
      Kp (fun i => col i = 3 ∨ col i = 4) w ((w.setCell ⟨g, i, none⟩ (.string (strOf f 0 512))).setCell ⟨g', i, none⟩ (.bool true)) ∧ RDsk ((w.setCell ⟨g, i, none⟩ (.string (strOf f 0 512))).setCell ⟨g', i, none⟩ (.bool true)) col D (Ytlgkcbdpaffigaa.setSafe s i f) := by
  have hd := h.dlt
  obtain ⟨xs, x1, x2⟩ := h.safe
  obtain ⟨g, c, e1, e2, e3, e4, e5⟩ := x1.setAt (by rw [h.colD]; omega) hi
  obtain ⟨r1, k1⟩ := e5 (.string (strOf f 0 512))
  have hx := x1.xlen
  generalize hw1 : w.setCell ⟨g, i, none⟩ (.string (strOf f 0 512)) = w1 at *
  have nD3 : ¬ cl col 3 D := fun hh => by have := h.colD; unfold cl at hh; omega
  have hh1 : Row0 w1 col D 2 4 4 1 s.size (boolL s.has s.size) := h.has.kpc k1 (fun i _ hh => by unfold cl at hh; omega) (fun _ _ => rfl) (fun v hv => k1.cell hv nD3)
  obtain ⟨g', c', y1, y2, y3, y4, y5⟩ := hh1.setAt (by rw [h.colD]; omega) hi
  obtain ⟨r2, k2⟩ := y5 (.bool true)
  have nD4 : ¬ cl col 4 D := fun hh => by have := h.colD; unfold cl at hh; omega
  have kk : Kp (fun i => col i = 3 ∨ col i = 4) w (w1.setCell ⟨g', i, none⟩ (.bool true)) := (k1.mono fun _ _ h => .inl h).trans (k2.mono fun _ _ h => .inr h)
  have nD : ¬ (col D = 3 ∨ col D = 4) := by rw [h.colD]; omega
  have hc : ∀ o v, w.cell? ⟨D, o, none⟩ = some v → (w1.setCell ⟨g', i, none⟩ (.bool true)).cell? ⟨D, o, none⟩ = some v := fun o v hv => kk.cell hv nD
  rw [boolL_set] at r2
  subst hw1
  refine ⟨g, c, g', c', e1, e3, e4, y1, y3, y4, kk, h.colD, fun i hi => Nat.lt_of_lt_of_le (h.lt i hi) kk.size, fun o => (kk.frz ⟨D, o, none⟩ hd).trans (h.frz o), h.now.kpc kk (fun i _ hh => by omega) (fun _ _ => rfl) (hc 0), ⟨_, r1.kpc k2 (fun i _ hh => by unfold cl at hh; omega) (fun _ _ => rfl) (fun v hv => k2.cell hv nD4), fun j hj => ?_⟩, r2, h.wait.kpc kk (fun i _ hh => by omega) (fun _ _ => rfl) (hc 3), setSafe_ok h.ok hf i⟩
  by_cases e : j = i
  · subst e
    have : (xs.set j (.string (strOf f 0 512)))[j]? = some (.string (strOf f 0 512)) := by rw [List.getElem?_set_self]; omega
    refine ⟨⟨_, this⟩, fun _ => ?_⟩
    rw [this]
    congr 2
    refine strOf_eq fun p hp => ?_
    show _ = if _ then _ else _
    rw [if_pos (by omega)]
    congr 1
    omega
  · have : (xs.set i (.string (strOf f 0 512)))[j]? = xs[j]? := List.getElem?_set_ne (fun h => e h.symm)
    rw [this]
    refine ⟨(x2 j hj).1, fun hh => ?_⟩
    have hh' : s.has j = true := by
      have : (if j = i then true else s.has j) = true := hh
      rwa [if_neg e] at this
    rw [(x2 j hj).2 hh']
    congr 2
    refine strOf_eq fun p hp => ?_
    show _ = if _ then _ else _
    rw [if_neg (by omega)]
theorem syncTo0 (s : St) : syncTo s 0 = s := by
  obtain ⟨a, b, c, d, e⟩ := s
  simp only [syncTo, St.mk.injEq, true_and, and_true]
  exact ⟨funext fun j => if_neg (by omega), funext fun p => if_neg (by omega)⟩
theorem c59 (h : RDsk w col D s) : Rets Try.prog 59 #[.pointer (some ⟨D, 0, none⟩)] w fun v w' => v = .tuple #[] ∧ Kp (ownC col) w w' ∧ RDsk w' col D (syncSt s) := by
  refine ent [_] Try.func59 ((vcTry59 _ w _).mpr ?_)
  unfold VCTry59
  have hs := h.ok.size
  simp only [ptr_some, ad_add, Nat.zero_add, Nat.add_zero]
  refine ⟨fun i w' => ∃ k : Nat, i = k ∧ k ≤ s.size ∧ Kp (ownC col) w w' ∧ RDsk w' col D (syncTo s k), fun i _ => (s.size - i).toNat, ⟨0, rfl, by omega, Kp.refl _ _, by rw [syncTo0]; exact h⟩, ?_⟩
  rintro i w1 ⟨k, rfl, hk, k1, h1⟩
  obtain ⟨q, c, l1⟩ := h1.now.len
  refine ⟨_, _, _, l1, bif_dec (fun hlt => ?_) (fun hge => ?_)⟩
  · have hki : k < s.size := by have : (k : Int) < (s.size : Int) := hlt; omega
    obtain ⟨g0, c0, z1, z2, z3⟩ := h1.now.get (show 0 < (syncTo s k).size from (by show 0 < s.size; omega))
    rw [l1] at z1
    cases z1
    obtain ⟨g, c, g', c', e1, e2, e3, e4, e5, e6, e7, e8⟩ := h1.drew.setSafe (i := k) hki (f := secAt s.now k) (fun j => h.ok.now _)
    have hn : w1.cell? ⟨g0, k, none⟩ = some (.string (strOf (secAt s.now k) 0 512)) := by
      rw [secAt_str]
      exact z3 k _ (strL_get _ hki)
    refine ⟨_, _, _, e1, _, _, _, l1, by omega, ?_⟩
    simp only [ptr_some, ad_add, Nat.zero_add, Nat.add_zero, Nat.mul_one, Int.toNat_natCast]
    refine ⟨_, hn, ⟨by omega, hlt⟩, e2, e3, _, _, _, e4, ⟨by omega, hlt⟩, ?_⟩
    simp only [ptr_some, ad_add, Nat.zero_add, Nat.add_zero, Nat.mul_one, Int.toNat_natCast]
    rw [syncTo_next'] at e8
    exact ⟨e5, e6, wr64 (by omega) ⟨⟨k + 1, by omega, by omega, k1.trans ((Kp.refl _ w1).drew.trans (e7.mono fun i _ hi => by show col i ≠ 0; omega)), e8⟩, by first | omega | (dsimp only; omega)⟩⟩
  · have : k = s.size := by have : ¬ (k : Int) < (s.size : Int) := hge; omega
    subst this
    obtain ⟨q3, c3, l3⟩ := h1.wait.len
    have kD : Kp (one_ D) w1 (w1.setCell ⟨D, 3, none⟩ (.slice none 0 0)) := Kp.setCell (S := one_ D) (x := ⟨D, 3, none⟩) (Kp.refl (one_ D) w1) _ (.inl rfl)
    have ne : ∀ i c, one_ D i → c ≠ 1 → col i ≠ c := fun i c hi hc => by have e : i = D := hi; rw [e, h1.colD]; omega
    have cD : ∀ o v, o ≠ 3 → w1.cell? ⟨D, o, none⟩ = some v → (w1.setCell ⟨D, 3, none⟩ (.slice none 0 0)).cell? ⟨D, o, none⟩ = some v := fun o v ho hv => by rw [cell_set_off _ (Ne.symm ho)]; exact hv
    obtain ⟨xs, x1, x2⟩ := h1.safe
    refine ⟨⟨_, l3⟩, h1.frz 3, _, rfl, rfl, k1.trans (kD.mono fun i _ hi => by have e : i = D := hi; show col i ≠ 0; rw [e, h.colD]; omega), h1.colD, fun i hi => by rw [show (w1.setCell ⟨D, 3, none⟩ (.slice none 0 0)).heap.size = w1.heap.size by simp [World.setCell]]; exact h1.lt i hi, fun o => by rw [frozen_set]; exact h1.frz o, h1.now.kpc kD (fun i _ hh => ne i 2 hh (by omega)) (fun _ _ => rfl) (cD 0 · (by omega)), ⟨xs, x1.kpc kD (fun i _ hh => ne i 3 hh (by omega)) (fun _ _ => rfl) (cD 1 · (by omega)), x2⟩, h1.has.kpc kD (fun i _ hh => ne i 4 hh (by omega)) (fun _ _ => rfl) (cD 2 · (by omega)), ⟨none, 0, cell_set_same _ l3, OwnRow.nil _ _ _ _⟩, ⟨h1.ok.size, h1.ok.now, h1.ok.safe, fun e he => by simp [syncSt] at he⟩⟩
end
end Go.Proofs.Ytlgkcbdpaffigaa
