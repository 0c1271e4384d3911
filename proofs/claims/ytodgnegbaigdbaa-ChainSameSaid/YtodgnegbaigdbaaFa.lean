import Derived.Test.YtodgnegbaigdbaaVcb
import Derived.Test.YtodgnegbaigdbaaSxMap
import Derived.Test.YtodgnegbaigdbaaCe
namespace Go.Proofs.Ytodgnegbaigdbaa
open Go Go.SX Go.Proofs
set_option maxRecDepth 100000
set_option linter.unusedVariables false

/-- The three bytes at a place, as a number. -/
def keyAt (b : Int → Int) (p : Int) : Int := b p + 256 * b (p + 1) + 65536 * b (p + 2)
theorem c63 {w : World} {q : Option Addr} {n cp : Nat} {b : Int → Int} (hb : Ints w .u8 q n b) (hr : ∀ i : Int, 0 ≤ i → i < n → 0 ≤ b i ∧ b i < 256) (hn : n ≤ 2147483647) (i : Int) (hi : 0 ≤ i ∧ i + 3 ≤ n) :
    Rets Try.prog 63 #[.slice q n cp, .int .i64 i] w fun v w' => v = .int .i64 (keyAt b i) ∧ w' = w.drew := by
  refine ent [_, _] Try.func63 ((vcTry63 _ _ _ _ w _).mpr ?_)
  unfold VCTry63
  have r0 := hr i (by omega) (by omega)
  have r1 := hr (i + 1) (by omega) (by omega)
  have r2 := hr (i + 2) (by omega) (by omega)
  refine hb.drew.get (by omega) (by omega) fun a1 _ => wr64 (by omega) (wr64 (by omega) (hb.drew.get (by omega) (by omega) fun a2 _ => wr64 (by omega) ⟨by omega, ?_⟩))
  generalize hx : b i = x at *
  generalize hy : b (i + 1) = y at *
  generalize hz : b (i + 2) = z at *
  have hk : keyAt b i = x + 256 * y + 65536 * z := by unfold keyAt; rw [hx, hy, hz]
  obtain ⟨A, rfl⟩ := Int.eq_ofNat_of_zero_le r0.1
  obtain ⟨B, rfl⟩ := Int.eq_ofNat_of_zero_le r1.1
  obtain ⟨C, rfl⟩ := Int.eq_ofNat_of_zero_le r2.1
  have hB : shlI .i64 (B : Int) 8 = ((B <<< 8 : Nat) : Int) := by rw [Nat.shiftLeft_eq]; simp [shlI, IntKind.bits]
  have hC : shlI .i64 (C : Int) 16 = ((C <<< 16 : Nat) : Int) := by rw [Nat.shiftLeft_eq]; simp [shlI, IntKind.bits]
  have bB : B <<< 8 < 2 ^ 16 := by rw [Nat.shiftLeft_eq]; omega
  have bC : C <<< 16 < 2 ^ 24 := by rw [Nat.shiftLeft_eq]; omega
  have e1 : A ||| B <<< 8 = B <<< 8 + A := by rw [Nat.or_comm, Nat.shiftLeft_add_eq_or_of_lt (by omega)]
  have b1 : B <<< 8 + A < 2 ^ 16 := by rw [Nat.shiftLeft_eq]; omega
  have e2 : (B <<< 8 + A) ||| C <<< 16 = C <<< 16 + (B <<< 8 + A) := by rw [Nat.or_comm, Nat.shiftLeft_add_eq_or_of_lt b1]
  rw [hB]
  refine wr64 (by omega) (wr64 (by omega) (hb.drew.get (by omega) (by omega) fun a2 _ => ?_))
  rw [hz]
  refine wr64 (by omega) ⟨by omega, ?_⟩
  rw [hC]
  refine wr64 (by omega) ?_
  refine ⟨_, rfl, ?_, rfl⟩
  have hfin : ((C <<< 16 + (B <<< 8 + A) : Nat) : Int) = (A : Int) + 256 * B + 65536 * C := by simp only [Nat.shiftLeft_eq]; omega
  have h1 : orI .i64 (A : Int) ((B <<< 8 : Nat) : Int) = ((B <<< 8 + A : Nat) : Int) := by simp only [orI_nat (m := A) (n := B <<< 8) (by omega) (by omega), e1]
  have h2 : orI .i64 ((B <<< 8 + A : Nat) : Int) ((C <<< 16 : Nat) : Int) = ((C <<< 16 + (B <<< 8 + A) : Nat) : Int) := by simp only [orI_nat (m := B <<< 8 + A) (n := C <<< 16) (by omega) (by omega), e2]
  simp only [h1, h2, hfin, hk]
theorem keyAt_alike {b : Int → Int} {n : Nat} (hr : ∀ i : Int, 0 ≤ i → i < n → 0 ≤ b i ∧ b i < 256) {x y : Int} (hx : 0 ≤ x ∧ x + 3 ≤ n) (hy : 0 ≤ y ∧ y + 3 ≤ n) : keyAt b x = keyAt b y ↔ alike b x y := by
  have x0 := hr x (by omega) (by omega)
  have x1 := hr (x + 1) (by omega) (by omega)
  have x2 := hr (x + 2) (by omega) (by omega)
  have y0 := hr y (by omega) (by omega)
  have y1 := hr (y + 1) (by omega) (by omega)
  have y2 := hr (y + 2) (by omega) (by omega)
  unfold keyAt alike
  omega

/-- One more than the last place before m with a key, or 0. -/
def kh (b : Int → Int) (m : Nat) (k : Int) : Int := lastN (fun p => keyAt b p == k) m
theorem kh_range (b : Int → Int) (m : Nat) (k : Int) : 0 ≤ kh b m k ∧ kh b m k ≤ m := lastN_range _ _
def lastM (b : Int → Int) (m : Nat) : Value → Option Value
  | .int .i64 k => if kh b m k = 0 then none else some (.int .i64 (kh b m k - 1))
  | _ => none
def kprevL (b : Int → Int) (m : Nat) : List Value := (List.range m).map fun p => .int .i64 (kh b p (keyAt b p) - 1)
theorem kprevL_succ (b : Int → Int) (m : Nat) : kprevL b (m + 1) = kprevL b m ++ [.int .i64 (kh b m (keyAt b m) - 1)] := by
  simp [kprevL, List.range_succ]
theorem kprevL_get (b : Int → Int) (m i : Nat) (h : i < m) : (kprevL b m)[i]? = some (.int .i64 (kh b i (keyAt b i) - 1)) := by
  simp [kprevL, h]
/-- A finder in memory: block B, its map r, of bytes b; m places are learnt. -/
structure Fdr (w : World) (own : Nat → Prop) (B r : Nat) (q : Option Addr) (n : Nat) (b : Int → Int) (m : Nat) : Prop where
  c0 : ∃ cp, n ≤ cp ∧ w.cell? ⟨B, 0, none⟩ = some (.slice q n cp)
  bytes : Ints w .u8 q n b
  rng : ∀ i : Int, 0 ≤ i → i < n → 0 ≤ b i ∧ b i < 256
  c1 : w.cell? ⟨B, 1, none⟩ = some (.map (some r))
  last : MapOf w r (.int .i64) (lastM b m)
  prev : ∃ v, w.cell? ⟨B, 2, none⟩ = some v ∧ OwnRow w (fun i => own i ∧ i ≠ B ∧ i ≠ r) 3 1 v m (kprevL b m)
  c3 : w.cell? ⟨B, 3, none⟩ = some (.int .i64 m)
  frz : ∀ o, w.frozen? ⟨B, o, none⟩ = false
  ownB : own B ∧ own r ∧ B ≠ r
  qown : 0 < n → ∀ a, q = some a → ¬ own a.block
  mn : m = 0 ∨ m + 2 ≤ n
  nb : n ≤ 2147483647
section
variable {w w' : World} {own own' S : Nat → Prop} {B r : Nat} {q : Option Addr} {n : Nat} {b : Int → Int} {m : Nat}
theorem Fdr.drew (h : Fdr w own B r q n b m) : Fdr w.drew own B r q n b m := ⟨h.c0, h.bytes, h.rng, h.c1, h.last, h.prev, h.c3, h.frz, h.ownB, h.qown, h.mn, h.nb⟩
theorem Fdr.mono (h : Fdr w own B r q n b m) (ho : ∀ i, i < w.heap.size → own i → own' i) (hq : 0 < n → ∀ a, q = some a → ¬ own' a.block) : Fdr w own' B r q n b m := by
  refine ⟨h.c0, h.bytes, h.rng, h.c1, h.last, ?_, h.c3, h.frz, ⟨ho B (cell_lt h.c1) h.ownB.1, ho r h.last.lt h.ownB.2.1, h.ownB.2.2⟩, hq, h.mn, h.nb⟩
  obtain ⟨v, h1, h2⟩ := h.prev
  exact ⟨v, h1, h2.mono fun i hi hl => ⟨ho i hl hi.1, hi.2⟩⟩
theorem Fdr.kp (h : Fdr w own B r q n b m) (hk : Kp S w w') (hs : ∀ i, i < w.heap.size → own i → ¬ S i) (hq : 0 < n → ∀ a, q = some a → ¬ S a.block) : Fdr w' own B r q n b m := by
  obtain ⟨cp, hcp, hc⟩ := h.c0
  have hB : ¬ S B := hs B (cell_lt hc) h.ownB.1
  refine ⟨⟨cp, hcp, hk.cell hc hB⟩, h.bytes.kp hk hq, h.rng, hk.cell h.c1 hB, h.last.kp hk (hs r h.last.lt h.ownB.2.1), ?_, hk.cell h.c3 hB, fun o => (hk.frz ⟨B, o, none⟩ (show B < w.heap.size from cell_lt hc)).trans (h.frz o), h.ownB, h.qown, h.mn, h.nb⟩
  obtain ⟨v, h1, h2⟩ := h.prev
  refine ⟨v, hk.cell h1 hB, h2.kp hk fun g n cap e hg => ?_⟩
  rcases h2.2 with ⟨e', _⟩ | ⟨g', cap', cur, e', ho, hg', _⟩
  · rw [e] at e'; cases e'
  · rw [e] at e'; cases e'; exact hs g (Array.getElem?_eq_some_iff.1 hg').1 hg.1
theorem Fdr.qfresh (hc : Fdr w own B r q n b m) : 0 < n → ∀ a, q = some a → ¬ (own a.block ∨ fresh w a.block) := by
  intro hn0 a ha ho
  obtain ⟨a', e, hcl⟩ := hc.bytes 0 (by omega) (by omega)
  rw [ha] at e; cases e
  have := cell_lt hcl
  rw [add_block] at this
  rcases ho with ho | ho
  · exact hc.qown hn0 a ha ho
  · unfold fresh at ho; omega
theorem Fdr.later (h : Fdr w own B r q n b m) : Fdr w (fun i => own i ∨ fresh w i) B r q n b m := h.mono (fun i _ h => .inl h) h.qfresh
theorem c60 (hc : Fdr w own B r q n b m) (at_ : Int) :
    Rets Try.prog 60 #[.pointer (some ⟨B, 0, none⟩), .int .i64 at_] w fun v w' => v = .bool (decide (0 ≤ at_ ∧ at_ ≤ n - 3)) ∧ w' = w := by
  refine ent [_, _] Try.func60 ((vcTry60 _ _ w _).mpr ?_)
  unfold VCTry60
  obtain ⟨cp, _, h0⟩ := hc.c0
  have hn := hc.nb
  refine bif_dec (fun h => ⟨_, _, _, by simp only [ad_add]; exact h0, wr64 (by omega) ⟨_, rfl, ?_, rfl⟩⟩) (fun h => ⟨_, rfl, ?_, rfl⟩)
  · have : (decide (0 ≤ at_ ∧ at_ ≤ n - 3)) = decide (at_ ≤ (n : Int) - 3) := by simp only [decide_eq_decide]; omega
    rw [this]
  · have : (decide (0 ≤ at_ ∧ at_ ≤ (n : Int) - 3)) = false := by simp only [decide_eq_false_iff_not]; omega
    rw [this]
theorem zero3 (w : World) : (zeroValue 3).run Try.prog w = .ok (.int .i64 0) w := by rfl
/-- One place is learnt: the row, the map, the count. -/
theorem learn1 {w1 w2 : World} {k : Nat} (h : Fdr w1 own B r q n b k) (hk3 : k + 3 ≤ n) {vq : Option Addr} {vn vc : Nat}
    (kp : Kp (fun i => own i ∧ i ≠ B ∧ i ≠ r) w1 w2) (hrow : OwnRow w2 (fun i => (own i ∨ fresh w1 i) ∧ i ≠ B ∧ i ≠ r) 3 1 (.slice vq vn vc) (k + 1) (kprevL b (k + 1))) :
    ∃ w3, (Instr.mapUpdate 70 (.map (some r)) (.int .i64 (keyAt b k)) (.int .i64 k)).run Try.prog (w2.setCell ⟨B, 2, none⟩ (.slice vq vn vc)).drew = .ok () w3 ∧
      w3.cell? ⟨B, 3, none⟩ = some (.int .i64 k) ∧ w3.frozen? ⟨B, 3, none⟩ = false ∧ Kp (one_ r) (w2.setCell ⟨B, 2, none⟩ (.slice vq vn vc)).drew w3 ∧
      (∀ u : Value, Kp own w1 (w3.setCell ⟨B, 3, none⟩ u)) ∧ Fdr (w3.setCell ⟨B, 3, none⟩ (.int .i64 (k + 1))) (fun i => own i ∨ fresh w1 i) B r q n b (k + 1) := by
  obtain ⟨cp, hcp, h0⟩ := h.c0
  obtain ⟨pv0, p1, p2⟩ := h.prev
  have hB1 : B < w1.heap.size := cell_lt h0
  have hr1 : r < w1.heap.size := h.last.lt
  have nS : ¬ (own B ∧ B ≠ B ∧ B ≠ r) := fun h => h.2.1 rfl
  have nR : ¬ (own r ∧ r ≠ B ∧ r ≠ r) := fun h => h.2.2 rfl
  have qS : 0 < n → ∀ a, q = some a → ¬ (own a.block ∧ a.block ≠ B ∧ a.block ≠ r) := fun h0 a ha hh => h.qown h0 a ha hh.1
  have l2 : MapOf w2 r (.int .i64) (lastM b k) := h.last.kp kp nR
  have c2 : w2.cell? ⟨B, 2, none⟩ = some pv0 := kp.cell p1 nS
  have l3 := (l2.setCell ⟨B, 2, none⟩ c2 (.slice vq vn vc)).drew
  have hmod : ∀ k', k' ≠ Value.int .i64 (keyAt b k) → lastM b (k + 1) k' = lastM b k k' := by
    intro k' hne
    unfold lastM
    split
    · rename_i x
      have : kh b (k + 1) x = kh b k x := by
        unfold kh; rw [lastN_succ]
        have : (keyAt b k == x) = false := by
          simp only [beq_eq_false_iff_ne, ne_eq]; intro e; exact hne (by rw [e])
        rw [this]; rfl
      rw [this]
    · rfl
  have hnew : lastM b (k + 1) (.int .i64 (keyAt b k)) = some (.int .i64 k) := by
    have : kh b (k + 1) (keyAt b k) = k + 1 := by unfold kh; rw [lastN_succ]; simp
    simp only [lastM, this]
    rw [if_neg (by omega)]
    congr 2; omega
  obtain ⟨w3, hrun, hm3, kp3⟩ := l3.put (g' := lastM b (k + 1)) (P := Try.prog) (mty := 70) (kt := 3) (et := 3) Try.underlying70 Try.underlying3 (k := .int .i64 (keyAt b k)) (v := .int .i64 k) rfl hnew hmod
  have hBr : ¬ one_ r B := fun e => h.ownB.2.2 e
  have cell3 : ∀ o u, o ≠ 2 → w1.cell? ⟨B, o, none⟩ = some u → w3.cell? ⟨B, o, none⟩ = some u := fun o u ho hu => by
    refine kp3.cell ?_ hBr
    show (w2.setCell _ _).cell? _ = _
    rw [cell_set_off _ (Ne.symm ho)]
    exact kp.cell hu nS
  have hB2 : B < w2.heap.size := cell_lt c2
  have hsz : (w2.setCell ⟨B, 2, none⟩ (Value.slice vq vn vc)).drew.heap.size = w2.heap.size := by simp [World.setCell]
  have fz3 : ∀ o, w3.frozen? ⟨B, o, none⟩ = false := fun o => by
    rw [kp3.frz ⟨B, o, none⟩ (by rw [hsz]; exact hB2)]
    show (w2.setCell _ _).frozen? _ = _
    rw [frozen_set]
    exact (kp.frz ⟨B, o, none⟩ hB1).trans (h.frz o)
  have kset : Kp (one_ B) w2 (w2.setCell ⟨B, 2, none⟩ (.slice vq vn vc)).drew := (Kp.setCell (S := one_ B) (x := ⟨B, 2, none⟩) (Kp.refl (one_ B) w2) _ (.inl rfl)).drew
  have k23 : Kp (fun i => i = B ∨ i = r) w2 w3 := (kset.mono fun _ _ h => .inl h).trans (kp3.mono fun _ _ h => .inr h)
  refine ⟨w3, hrun, cell3 3 _ (by omega) h.c3, fz3 3, kp3, fun u => ?_, ?_⟩
  · refine Kp.setCell ?_ _ (.inl h.ownB.1)
    refine (kp.mono (T := own) fun _ _ h => h.1).trans (k23.mono fun i _ hi => ?_)
    rcases hi with rfl | rfl
    · exact h.ownB.1
    · exact h.ownB.2.1
  · have k34 : Kp (one_ B) w3 (w3.setCell ⟨B, 3, none⟩ (.int .i64 (k + 1))) := Kp.setCell (S := one_ B) (x := ⟨B, 3, none⟩) (Kp.refl (one_ B) w3) _ (.inl rfl)
    have k24 : Kp (fun i => i = B ∨ i = r) w2 (w3.setCell ⟨B, 3, none⟩ (.int .i64 (k + 1))) := k23.trans (k34.mono fun _ _ h => .inl h)
    have hqB : 0 < n → ∀ a, q = some a → ¬ (a.block = B ∨ a.block = r) := fun hh a ha e => h.qown hh a ha (by rcases e with e | e <;> rw [e]; exact h.ownB.1; exact h.ownB.2.1)
    have hqf := h.qfresh
    refine ⟨⟨cp, hcp, ?_⟩, (h.bytes.kp kp qS).kp k24 hqB, h.rng, ?_, hm3.setCell ⟨B, 3, none⟩ (cell3 3 _ (by omega) h.c3) _, ⟨.slice vq vn vc, ?_, ?_⟩, ?_, fun o => by rw [frozen_set]; exact fz3 o, ⟨.inl h.ownB.1, .inl h.ownB.2.1, h.ownB.2.2⟩, hqf, .inr (by omega), h.nb⟩
    · rw [cell_set_off _ (by omega)]; exact cell3 0 _ (by omega) h0
    · rw [cell_set_off _ (by omega)]; exact cell3 1 _ (by omega) h.c1
    · rw [cell_set_off _ (by omega)]
      exact kp3.cell (cell_set_same _ c2) hBr
    · refine hrow.kp k24 fun g _ _ _ hg hS => ?_
      rcases hS with hS | hS
      · exact hg.2.1 hS
      · exact hg.2.2 hS
    · rw [show ((k + 1 : Nat) : Int) = (k : Int) + 1 by omega]
      exact cell_set_same _ (cell3 3 _ (by omega) h.c3)
end
end Go.Proofs.Ytodgnegbaigdbaa
