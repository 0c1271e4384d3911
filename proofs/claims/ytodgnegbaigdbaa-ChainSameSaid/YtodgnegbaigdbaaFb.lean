import Derived.Test.YtodgnegbaigdbaaFa
namespace Go.Proofs.Ytodgnegbaigdbaa
open Go Go.SX Go.Proofs
set_option maxRecDepth 100000
set_option linter.unusedVariables false
section
variable {w w' : World} {own own' S : Nat → Prop} {B r : Nat} {q : Option Addr} {n : Nat} {b : Int → Int} {m : Nat}
def upto (w : World) (B : Nat) : Int := match w.cell? ⟨B, 3, none⟩ with | some (.int _ k) => k | _ => 0
theorem c61 (hc : Fdr w own B r q n b m) (at_ : Int) (hat : 0 ≤ at_ ∧ at_ + 3 ≤ n) :
    Rets Try.prog 61 #[.pointer (some ⟨B, 0, none⟩), .int .i64 at_] w fun v w' => v = .tuple #[] ∧ Kp own w w' ∧ Fdr w' (fun i => own i ∨ fresh w i) B r q n b (max m (at_.toNat + 1)) := by
  refine ent [_, _] Try.func61 ((vcTry61 _ _ w _).mpr ?_)
  unfold VCTry61
  have hn := hc.nb
  have hmn := hc.mn
  refine ⟨fun w' => ∃ k : Nat, (m ≤ k ∧ k ≤ max m (at_.toNat + 1)) ∧ Kp own w w' ∧ Fdr w' (fun i => own i ∨ fresh w i) B r q n b k, fun w' => (at_ + 1 - upto w' B).toNat, ⟨m, by omega, Kp.refl _ _, hc.later⟩, ?_⟩
  rintro w1 ⟨k, hk, kp, h⟩
  simp only [ptr_some, ad_add, Nat.zero_add, Nat.add_zero, Nat.mul_one]
  have hB1 : B < w1.heap.size := cell_lt h.c1
  have hup : upto w1 B = k := by unfold upto; rw [h.c3]
  refine ⟨_, h.c3, bif_dec (fun hle => ?_) (fun hle => ?_)⟩
  rotate_left
  · refine ⟨_, rfl, rfl, kp, ?_⟩
    have : k = max m (at_.toNat + 1) := by omega
    rw [← this]; exact h
  obtain ⟨cp, hcp, h0⟩ := h.c0
  refine ⟨_, _, _, h0, _, h.c3, (c63 (cp := cp) h.drew.bytes h.rng hn k (by omega)).mono ?_⟩
  rintro v w2 ⟨rfl, rfl⟩
  refine ⟨_, rfl, (Kp.refl none_ _).drew.keeps0, _, h.c1, ?_⟩
  have hlook := h.last.drew.drew.look (P := Try.prog) (mty := 70) (kt := 3) (et := 3) Try.underlying70 Try.underlying3 (k := .int .i64 (keyAt b k)) rfl (zero3 _) true
  refine ⟨_, _, hlook, ?_⟩
  have hr := kh_range b k (keyAt b k)
  -- one round, with the place that was before
  have step : ∀ (i : Int), i = kh b k (keyAt b k) - 1 → ∀ (q2 : Option Addr) (n2 c2 : Nat), w1.cell? ⟨B, 2, none⟩ = some (.slice q2 n2 c2) →
      Runs Try.prog (Builtin.append_ #[26, 26] 26 #[.slice q2 n2 c2, .slice (some ⟨w1.heap.size, 0, none⟩) 1 1]) (w1.drew.drew.alloc (.cells #[.int .i64 i] 3)) fun v w3 =>
        ∃ q3 n3 c3, v = .slice q3 n3 c3 ∧ Keeps (w1.drew.drew.alloc (.cells #[.int .i64 i] 3)) w3 [] ∧ (∃ v, w3.cell? ⟨B, 2, none⟩ = some v) ∧ w3.frozen? ⟨B, 2, none⟩ = false ∧
          ∃ q4, (w3.setCell ⟨B, 2, none⟩ (.slice q3 n3 c3)).drew.cell? ⟨B, 1, none⟩ = some (.map q4) ∧ ∃ i4, (w3.setCell ⟨B, 2, none⟩ (.slice q3 n3 c3)).drew.cell? ⟨B, 3, none⟩ = some (.int .i64 i4) ∧
            Runs Try.prog (Instr.mapUpdate 70 (.map q4) (.int .i64 (keyAt b k)) (.int .i64 i4)) (w3.setCell ⟨B, 2, none⟩ (.slice q3 n3 c3)).drew fun _ w5 =>
              Keeps (w3.setCell ⟨B, 2, none⟩ (.slice q3 n3 c3)).drew w5 [] ∧ ∃ i5, w5.cell? ⟨B, 3, none⟩ = some (.int .i64 i5) ∧ Wr .i64 (i5 + 1) fun i6 =>
                (∃ v, w5.cell? ⟨B, 3, none⟩ = some v) ∧ w5.frozen? ⟨B, 3, none⟩ = false ∧
                  (∃ k' : Nat, (m ≤ k' ∧ k' ≤ max m (at_.toNat + 1)) ∧ Kp own w (w5.setCell ⟨B, 3, none⟩ (.int .i64 i6)) ∧ Fdr (w5.setCell ⟨B, 3, none⟩ (.int .i64 i6)) (fun i => own i ∨ fresh w i) B r q n b k') ∧
                  (at_ + 1 - upto (w5.setCell ⟨B, 3, none⟩ (.int .i64 i6)) B).toNat < (at_ + 1 - upto w1 B).toNat := by
    intro i hi q2 n2 c2 hc2
    obtain ⟨pv0, p1, p2⟩ := h.prev
    rw [p1] at hc2; cases hc2
    have ka : Kp none_ w1 (w1.drew.drew.alloc (.cells #[Value.int .i64 i] 3)) := (Kp.refl none_ w1).drew.drew.alloc _ _
    refine append_own (own := fun i => (own i ∨ fresh w i) ∧ i ≠ B ∧ i ≠ r) (xs := kprevL b k) (news := [Value.int .i64 i]) Try.underlying26 (by kernel_rfl) (by omega) (p2.kp ka fun _ _ _ _ _ => id) (by simp)
      (fun j u hj => by
        cases j with
        | zero => simp at hj; subst hj; simp only [ad_add]; exact cell_alloc_new (w := w1.drew.drew) (by simp)
        | succ j => simp at hj) (by simp [Value.oneCell']) (by omega) (by omega) ?_
    intro v' w3 hrow hk3
    obtain ⟨vq, vc, rfl⟩ := hrow.slice
    have kp3 : Kp (fun i => (own i ∨ fresh w i) ∧ i ≠ B ∧ i ≠ r) w1 w3 := (ka.mono (fun _ _ h => h.elim)).trans hk3
    have hnB : ¬ ((own B ∨ fresh w B) ∧ B ≠ B ∧ B ≠ r) := fun h => h.2.1 rfl
    have hrow' : OwnRow w3 (fun i => ((own i ∨ fresh w i) ∨ fresh w1 i) ∧ i ≠ B ∧ i ≠ r) 3 1 (.slice vq (k + 1) vc) (k + 1) (kprevL b (k + 1)) := by
      rw [kprevL_succ, ← hi]
      refine hrow.mono fun i hi hl => ?_
      rcases hi with hi | hi
      · exact ⟨.inl hi.1, hi.2⟩
      · have h1 := ka.size
        have h2 := h.last.lt
        refine ⟨.inr (Nat.le_trans h1 hi), ?_, ?_⟩ <;> (intro e; subst e; unfold fresh at hi; omega)
    obtain ⟨w5, hrun, e1, e2, e5, e3, e4⟩ := learn1 h (by omega) kp3 hrow'
    have hfz : ∀ o, w3.frozen? ⟨B, o, none⟩ = false := fun o => (kp3.frz ⟨B, o, none⟩ hB1).trans (h.frz o)
    have cellB : ∀ o u, o ≠ 2 → w1.cell? ⟨B, o, none⟩ = some u → (w3.setCell ⟨B, 2, none⟩ (.slice vq (k + 1) vc)).drew.cell? ⟨B, o, none⟩ = some u := fun o u ho hu => by
      show (w3.setCell _ _).cell? _ = _
      rw [cell_set_off _ (Ne.symm ho)]; exact kp3.cell hu hnB
    refine ⟨_, _, _, rfl, hk3.keeps0, ⟨_, kp3.cell p1 hnB⟩, hfz 2, _, cellB 1 _ (by omega) h.c1, _, cellB 3 _ (by omega) h.c3, _, _, hrun, e5.keeps0, _, e1, wr64 (by omega) ⟨⟨_, e1⟩, e2, ⟨k + 1, by omega, ?_, ?_⟩, ?_⟩⟩
    · exact kp.then (e3 _) fun i hi h => by
        rcases h with h | h
        · exact h
        · unfold fresh at h; omega
    · refine e4.mono (fun i _ hi => ?_) hc.qfresh
      rcases hi with hi | hi
      · exact hi
      · exact .inr (Nat.le_trans kp.size hi)
    · rw [hup]
      have : upto (w5.setCell ⟨B, 3, none⟩ (.int .i64 ((k : Int) + 1))) B = k + 1 := by unfold upto; rw [cell_set_same _ e1]
      rw [this]; omega
  have hdrew : ∀ o, w1.drew.drew.cell? ⟨B, o, none⟩ = w1.cell? ⟨B, o, none⟩ := fun _ => rfl
  obtain ⟨pv0, p1, p2⟩ := h.prev
  obtain ⟨pq, pc, rfl⟩ := p2.slice
  by_cases hz : kh b k (keyAt b k) = 0
  · have hm : lastM b k (.int .i64 (keyAt b k)) = none := by simp only [lastM, hz, if_true]
    simp only [hm]
    refine ⟨_, _, rfl, (Kp.refl none_ _).keeps0, ?_⟩
    refine ⟨_, _, _, p1, step (-1) (by omega) _ _ _ p1⟩
  · have hm : lastM b k (.int .i64 (keyAt b k)) = some (.int .i64 (kh b k (keyAt b k) - 1)) := by simp only [lastM, hz, if_false]
    simp only [hm]
    refine ⟨_, _, rfl, (Kp.refl none_ _).keeps0, ?_⟩
    refine ⟨_, _, _, p1, step _ rfl _ _ _ p1⟩
end
end Go.Proofs.Ytodgnegbaigdbaa
