import Derived.Test.YtodgnegbaigdbaaFb
namespace Go.Proofs.Ytodgnegbaigdbaa
open Go Go.SX Go.Proofs
set_option maxRecDepth 100000
set_option linter.unusedVariables false
section
variable {w w' : World} {own own' S : Nat → Prop} {B r : Nat} {q : Option Addr} {n : Nat} {b : Int → Int} {m : Nat}
theorem c50 (w : World) (p : Option Addr) (at_ : Int) : Rets Try.prog 50 #[.pointer p, .int .i64 at_] w fun v w' =>
    ∃ a1 a2 : Addr, v = .func (.func 59) #[] #[.pointer (some a1), .pointer (some a2)] ∧ w'.cell? a1 = some (.pointer p) ∧ w'.cell? a2 = some (.int .i64 at_) ∧ Kp none_ w w' ∧ (w.heap.size ≤ a1.block ∧ w.heap.size ≤ a2.block) := by
  refine ent [_, _] Try.func50 ((vcTry50 _ _ w _).mpr ?_)
  unfold VCTry50
  intro _
  have k1 := (Kp.refl none_ w).alloc #[Value.pointer p] 37
  refine ⟨_, rfl, _, _, rfl, ?_, cell_alloc_new rfl, k1.alloc _ _, by dsimp only; omega, k1.size⟩
  exact cell_alloc _ (cell_alloc_new rfl)
theorem keyAt_alike_len (hr : ∀ i : Int, 0 ≤ i → i < n → 0 ≤ b i ∧ b i < 256) {at_ d : Int} (h0 : 0 ≤ at_ ∧ at_ + 3 ≤ n) (hd : 1 ≤ d ∧ d ≤ 32768 ∧ d ≤ at_) : 3 ≤ lenF b n at_ d ↔ keyAt b (at_ - d) = keyAt b at_ := by
  rw [lenF_three h0 hd, eq_comm (a := keyAt b (at_ - d)), keyAt_alike hr h0 (by omega)]
/-- What stands ahead of a place. -/
theorem kh_spec (b : Int → Int) (p : Nat) (k : Int) : (kh b p k = 0 ∧ ∀ j : Int, 0 ≤ j → j < p → keyAt b j ≠ k) ∨ (∃ x : Int, kh b p k = x + 1 ∧ (0 ≤ x ∧ x < p) ∧ keyAt b x = k ∧ ∀ j : Int, x < j → j < p → keyAt b j ≠ k) := by
  unfold kh
  rcases lastN_spec (fun x => keyAt b x == k) p with ⟨h1, h2⟩ | ⟨x, h1, h2, h3, h4⟩
  · refine .inl ⟨h1, fun j a c e => ?_⟩
    have := h2 j.toNat (by omega)
    rw [show ((j.toNat : Nat) : Int) = j by omega] at this
    simp [e] at this
  · refine .inr ⟨x, h2, by omega, by simpa using h3, fun j a c e => ?_⟩
    have := h4 j.toNat (by omega) (by omega)
    rw [show ((j.toNat : Nat) : Int) = j by omega] at this
    simp [e] at this
/-- A finder's iterator, told to any function value. -/
theorem c59 (hc : Fdr w own B r q n b m) (y : Value) (a1 a2 : Addr) (at_ : Int) (h1 : w.cell? a1 = some (.pointer (some ⟨B, 0, none⟩))) (h2 : w.cell? a2 = some (.int .i64 at_)) (ho1 : ¬ own a1.block) (ho2 : ¬ own a2.block)
    (J : Int → World → Prop) (E : World → Prop)
    (init : ∀ w1 m1, Kp own w w1 → Fdr w1 (fun i => own i ∨ fresh w i) B r q n b m1 → (0 ≤ at_ → at_ + 3 ≤ n → at_ < m1) → J 1 w1)
    (hmem : ∀ d w1, J d w1 → (∃ m1 own1, Fdr w1 own1 B r q n b m1 ∧ (0 ≤ at_ → at_ + 3 ≤ n → at_ < m1)) ∧ w1.cell? a1 = some (.pointer (some ⟨B, 0, none⟩)) ∧ w1.cell? a2 = some (.int .i64 at_))
    (skip : ∀ d w1, 1 ≤ d → lenF b n at_ d < 3 → J d w1 → J (d + 1) w1)
    (step : ∀ d w1, 1 ≤ d → d ≤ at_ → d ≤ 32768 → 3 ≤ lenF b n at_ d → J d w1 → CallsVal Try.prog y #[.int .i64 d] w1 fun v w2 => w1.heap.size ≤ w2.heap.size ∧ ∃ t, v = .bool t ∧ cond t (J (d + 1) w2) (E w2)) :
    Rets Try.prog 59 #[y, .pointer (some a1), .pointer (some a2)] w fun v w' => v = .tuple #[] ∧ ((∃ d, 1 ≤ d ∧ (∀ x, d ≤ x → lenF b n at_ x < 3) ∧ J d w') ∨ E w') := by
  refine ent [_, _, _] Try.func59 ((vcTry59 _ _ _ w _).mpr ?_)
  unfold VCTry59
  refine ⟨_, h1, _, h2, (c60 hc at_).mono ?_⟩
  rintro v w1 ⟨rfl, e⟩
  obtain rfl := e.symm
  refine ⟨_, rfl, (Kp.refl none_ _).keeps0, ?_⟩
  have hn := hc.nb
  refine bif_not (fun h => ?_) (fun h => ?_)
  · have h := of_decide_eq_false h
    refine ⟨_, rfl, rfl, .inl ⟨1, by omega, fun x _ => ?_, init w m (Kp.refl _ _) hc.later (fun a c => absurd ⟨a, by omega⟩ h)⟩⟩
    unfold lenF
    split
    · omega
    · have := runL_le b x (min 258 ((n : Int) - at_)).toNat at_
      omega
  have h := of_decide_eq_true h
  refine ⟨_, h1, _, h2, (c61 hc at_ (by omega)).mono ?_⟩
  rintro v w2 ⟨rfl, kp, hf⟩
  refine ⟨rfl, kp.keeps0, ?_⟩
  have c1 : w2.cell? a1 = _ := kp.cell h1 ho1
  have c2 : w2.cell? a2 = _ := kp.cell h2 ho2
  have skips : ∀ (j : Nat) (d : Int) (w1 : World), 1 ≤ d → (∀ x, d ≤ x → x < d + j → lenF b n at_ x < 3) → J d w1 → J (d + j) w1 := by
    intro j
    induction j with
    | zero => intro d w1 _ _ hJ; simpa using hJ
    | succ j ih =>
      intro d w1 hd hx hJ
      have := ih (d + 1) w1 (by omega) (fun x a c => hx x (by omega) (by omega)) (skip d w1 hd (hx d (by omega) (by omega)) hJ)
      rw [show d + ((j + 1 : Nat) : Int) = d + 1 + (j : Int) by omega]
      exact this
  -- from a place on to the one ahead of it
  have adv : ∀ (p : Int) (w1 : World), 0 ≤ p ∧ p ≤ at_ → keyAt b p = keyAt b at_ → J (at_ - p + 1) w1 →
      ∀ i, i = kh b p.toNat (keyAt b p) - 1 → (-1 ≤ i ∧ i < p ∧ (0 ≤ i → keyAt b i = keyAt b at_) ∧ J (at_ - i) w1) := by
    intro p w1 hp hk hJ i hi
    have no : ∀ x, at_ - p + 1 ≤ x → x < at_ - i → x ≤ at_ → lenF b n at_ x < 3 := by
      intro x x1 x2 x3
      rcases Int.lt_or_le (lenF b n at_ x) 3 with h' | h'
      · exact h'
      exfalso
      have hx : x ≤ 32768 := by
        rcases Int.lt_or_le 32768 x with h'' | h''
        · have : lenF b n at_ x = 0 := if_pos (by omega)
          omega
        · exact h''
      have hkk := (keyAt_alike_len hc.rng (at_ := at_) (d := x) ⟨h.1, by omega⟩ ⟨by omega, hx, x3⟩).1 h'
      rcases kh_spec b p.toNat (keyAt b p) with ⟨e, e2⟩ | ⟨z, e, e2, e3, e4⟩
      · exact e2 (at_ - x) (by omega) (by omega) (hkk.trans hk.symm)
      · exact e4 (at_ - x) (by omega) (by omega) (hkk.trans hk.symm)
    have hr := kh_range b p.toNat (keyAt b p)
    refine ⟨by omega, by omega, fun h0 => ?_, ?_⟩
    · rcases kh_spec b p.toNat (keyAt b p) with ⟨e, e2⟩ | ⟨z, e, e2, e3, e4⟩
      · omega
      · rw [show i = z by omega]; exact e3.trans hk
    · have := skips (p - i - 1).toNat (at_ - p + 1) w1 (by omega) (fun x a c => no x a (by omega) (by omega)) hJ
      rw [show at_ - p + 1 + ((p - i - 1).toNat : Int) = at_ - i by omega] at this
      exact this
  -- reading the place ahead
  have read : ∀ (w1 : World) (p : Int), 0 ≤ p ∧ p ≤ at_ → (∃ m1 own1, Fdr w1 own1 B r q n b m1 ∧ (0 ≤ at_ → at_ + 3 ≤ n → at_ < m1)) → ∃ (q5 : Addr) (n5 c5 : Nat), w1.cell? ⟨B, 2, none⟩ = some (.slice (some q5) n5 c5) ∧ (0 ≤ p ∧ p < (n5 : Int)) ∧
      w1.cell? (q5.add p.toNat) = some (.int .i64 (kh b p.toNat (keyAt b p) - 1)) := by
    rintro w1 p hp ⟨m1, own1, hf, hm1⟩
    obtain ⟨pv, p1, p2⟩ := hf.prev
    obtain ⟨pq, pc, rfl⟩ := p2.slice
    have hm1 := hm1 (by omega) (by omega)
    obtain ⟨a, rfl, ha⟩ := p2.at (kprevL_get b m1 p.toNat (by omega))
    have hA : ((p.toNat : Nat) : Int) = p := by omega
    rw [hA] at ha
    exact ⟨a, _, _, p1, by omega, ha⟩
  obtain ⟨q5, n5, c5, p1, hp, p2⟩ := read w2 at_ (by omega) ⟨_, _, hf, fun _ _ => by omega⟩
  simp only [drew_cell, ptr_some, ad_add, Nat.zero_add, Nat.add_zero, Nat.mul_one]
  refine ⟨_, c1, _, _, _, p1, _, c2, hp, _, p2, ?_⟩
  refine ⟨fun i w' => -1 ≤ i ∧ i < at_ ∧ (0 ≤ i → keyAt b i = keyAt b at_) ∧ J (at_ - i) w', fun i _ => (i + 1).toNat, ?_, ?_⟩
  · exact adv at_ _ (by omega) rfl (by rw [show at_ - at_ + 1 = 1 by omega]; exact init _ _ kp.drew hf.drew (fun _ _ => by omega)) _ rfl
  rintro i w3 ⟨i0, i1, ik, hJ⟩
  obtain ⟨hm3, m1, m2⟩ := hmem _ _ hJ
  refine bif_dec (fun g => ?_) (fun g => ?_)
  rotate_left
  · refine ⟨_, rfl, rfl, .inl ⟨at_ - i, by omega, fun x hx => ?_, hJ⟩⟩
    have : lenF b n at_ x = 0 := if_pos (by omega)
    omega
  refine ⟨_, m2, wr64 (by omega) (bif_dec (fun g2 => ?_) (fun g2 => ?_))⟩
  rotate_left
  · refine ⟨_, rfl, rfl, .inl ⟨at_ - i, by omega, fun x hx => ?_, hJ⟩⟩
    have : lenF b n at_ x = 0 := if_pos (by omega)
    omega
  refine ⟨_, m2, wr64 (by omega) ?_⟩
  have h3 : 3 ≤ lenF b n at_ (at_ - i) := (keyAt_alike_len hc.rng ⟨h.1, by omega⟩ ⟨by omega, by omega, by omega⟩).2 (by rw [show at_ - (at_ - i) = i by omega]; exact ik g)
  refine CallsVal.mono (step (at_ - i) w3 (by omega) (by omega) (by omega) h3 hJ) ?_
  rintro v w4 ⟨hs, t, rfl, ht⟩
  refine ⟨_, rfl, ⟨hs, fun b hb => by cases hb⟩, ?_⟩
  cases t with
  | false => exact ⟨_, rfl, rfl, .inr ht⟩
  | true =>
    simp only [cond_true] at ht
    obtain ⟨hm4, e1, e2⟩ := hmem _ _ ht
    obtain ⟨q6, n6, c6, r1, r2, r3⟩ := read w4 i (by omega) hm4
    refine ⟨_, e1, _, _, _, r1, r2, _, r3, adv i w4 (by omega) (ik g) ht _ rfl |>.imp id (fun h => ⟨by omega, h.2⟩), ?_⟩
    have := kh_range b i.toNat (keyAt b i)
    dsimp only
    omega
end
end Go.Proofs.Ytodgnegbaigdbaa
