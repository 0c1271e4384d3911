import Derived.Test.YtodgnegbaigdbaaCa
namespace Go.Proofs.Ytodgnegbaigdbaa
open Go Go.SX Go.Proofs
set_option maxRecDepth 100000
set_option linter.unusedVariables false

/-- One more than the last number below m where f holds, or 0. -/
def lastN (f : Int → Bool) : Nat → Int
  | 0 => 0
  | m + 1 => bif f m then m + 1 else lastN f m
theorem lastN_range (f : Int → Bool) : ∀ m, 0 ≤ lastN f m ∧ lastN f m ≤ m
  | 0 => ⟨Int.le_refl _, Int.le_refl _⟩
  | m + 1 => by
    have := lastN_range f m
    unfold lastN
    cases f m <;> simp <;> omega
def hashAt (b : Int → Int) (p : Int) : Int := hashI (b p) (b (p + 1)) (b (p + 2))
theorem hashI_range (a b c : Int) : 0 ≤ hashI a b c ∧ hashI a b c < 4096 := by
  unfold hashI
  have := Nat.mod_lt (hashN a.toNat b.toNat c.toNat) (show 0 < 4096 by omega)
  omega
def headV (b : Int → Int) (m : Nat) (h : Int) : Int := lastN (fun p => hashAt b p == h) m
def prevL (b : Int → Int) (m : Nat) : List Value := (List.range m).map fun p => .int .i64 (headV b p (hashAt b p))
theorem prevL_succ (b : Int → Int) (m : Nat) : prevL b (m + 1) = prevL b m ++ [.int .i64 (headV b m (hashAt b m))] := by
  simp [prevL, List.range_succ]
theorem prevL_get (b : Int → Int) (m i : Nat) (h : i < m) : (prevL b m)[i]? = some (.int .i64 (headV b i (hashAt b i))) := by
  simp [prevL, h]

/-- A chain in memory: block B, of bytes b; m places are learnt. -/
structure Chn (w : World) (own : Nat → Prop) (B : Nat) (q : Option Addr) (n : Nat) (b : Int → Int) (m : Nat) : Prop where
  c0 : ∃ cp, n ≤ cp ∧ w.cell? ⟨B, 0, none⟩ = some (.slice q n cp)
  bytes : Ints w .u8 q n b
  rng : ∀ i : Int, 0 ≤ i → i < n → 0 ≤ b i ∧ b i < 256
  heads : ∀ h : Nat, h < 4096 → w.cell? ⟨B, 1 + h, none⟩ = some (.int .i64 (headV b m h))
  prev : ∃ v, w.cell? ⟨B, 4097, none⟩ = some v ∧ OwnRow w (fun i => own i ∧ i ≠ B) 3 1 v m (prevL b m)
  frz : ∀ o, w.frozen? ⟨B, o, none⟩ = false
  ownB : own B
  qown : 0 < n → ∀ a, q = some a → ¬ own a.block
  mn : m = 0 ∨ m + 2 ≤ n
  nb : n ≤ 2147483647
theorem Chn.drew {w : World} {own : Nat → Prop} {B : Nat} {q : Option Addr} {n : Nat} {b : Int → Int} {m : Nat} (h : Chn w own B q n b m) : Chn w.drew own B q n b m := ⟨h.c0, h.bytes, h.rng, h.heads, h.prev, h.frz, h.ownB, h.qown, h.mn, h.nb⟩
theorem Chn.mono {w : World} {own own' : Nat → Prop} {B : Nat} {q : Option Addr} {n : Nat} {b : Int → Int} {m : Nat} (h : Chn w own B q n b m) (ho : ∀ i, i < w.heap.size → own i → own' i) (hq : 0 < n → ∀ a, q = some a → ¬ own' a.block) : Chn w own' B q n b m := by
  obtain ⟨cp, _, hc⟩ := h.c0
  refine ⟨h.c0, h.bytes, h.rng, h.heads, ?_, h.frz, ho B (cell_lt hc) h.ownB, hq, h.mn, h.nb⟩
  obtain ⟨v, h1, h2⟩ := h.prev
  exact ⟨v, h1, h2.mono fun i hi hl => ⟨ho i hl hi.1, hi.2⟩⟩
theorem Chn.kp {w w' : World} {own S : Nat → Prop} {B : Nat} {q : Option Addr} {n : Nat} {b : Int → Int} {m : Nat} (h : Chn w own B q n b m) (hk : Kp S w w') (hs : ∀ i, i < w.heap.size → own i → ¬ S i) (hq : 0 < n → ∀ a, q = some a → ¬ S a.block) : Chn w' own B q n b m := by
  obtain ⟨cp, hcp, hc⟩ := h.c0
  have hB : ¬ S B := hs B (cell_lt hc) h.ownB
  refine ⟨⟨cp, hcp, hk.cell hc hB⟩, h.bytes.kp hk hq, h.rng, fun k hk' => hk.cell (h.heads k hk') hB, ?_, fun o => (hk.frz ⟨B, o, none⟩ (show B < w.heap.size from cell_lt hc)).trans (h.frz o), h.ownB, h.qown, h.mn, h.nb⟩
  obtain ⟨v, h1, h2⟩ := h.prev
  refine ⟨v, hk.cell h1 hB, h2.kp hk fun g n cap e hg => ?_⟩
  rcases h2.2 with ⟨e', _⟩ | ⟨g', cap', cur, e', ho, hg', _⟩
  · rw [e] at e'; cases e'
  · rw [e] at e'; cases e'; exact hs g (Array.getElem?_eq_some_iff.1 hg').1 hg.1

theorem Chn.qfresh {w : World} {own : Nat → Prop} {B : Nat} {q : Option Addr} {n : Nat} {b : Int → Int} {m : Nat} (hc : Chn w own B q n b m) : 0 < n → ∀ a, q = some a → ¬ (own a.block ∨ fresh w a.block) := by
  intro hn0 a ha ho
  obtain ⟨a', e, hcl⟩ := hc.bytes 0 (by omega) (by omega)
  rw [ha] at e; cases e
  have := cell_lt hcl
  rw [add_block] at this
  rcases ho with ho | ho
  · exact hc.qown hn0 a ha ho
  · unfold fresh at ho; omega
theorem Chn.later {w : World} {own : Nat → Prop} {B : Nat} {q : Option Addr} {n : Nat} {b : Int → Int} {m : Nat} (h : Chn w own B q n b m) : Chn w (fun i => own i ∨ fresh w i) B q n b m := h.mono (fun i _ h => .inl h) h.qfresh
theorem c48 {w : World} {own : Nat → Prop} {B : Nat} {q : Option Addr} {n : Nat} {b : Int → Int} {m : Nat} (hc : Chn w own B q n b m) (at_ : Int) :
    Rets Try.prog 48 #[.pointer (some ⟨B, 0, none⟩), .int .i64 at_] w fun v w' => v = .bool (decide (0 ≤ at_ ∧ at_ ≤ n - 3)) ∧ w' = w := by
  refine ent [_, _] Try.func48 ((vcTry48 _ _ w _).mpr ?_)
  unfold VCTry48
  obtain ⟨cp, _, h0⟩ := hc.c0
  have hn := hc.nb
  refine bif_dec (fun h => ⟨_, _, _, by simp only [ad_add]; exact h0, wr64 (by omega) ⟨_, rfl, ?_, rfl⟩⟩) (fun h => ⟨_, rfl, ?_, rfl⟩)
  · have : (decide (0 ≤ at_ ∧ at_ ≤ n - 3)) = decide (at_ ≤ (n : Int) - 3) := by simp only [decide_eq_decide]; omega
    rw [this]
  · have : (decide (0 ≤ at_ ∧ at_ ≤ (n : Int) - 3)) = false := by simp only [decide_eq_false_iff_not]; omega
    rw [this]
theorem c48n (w : World) (at_ : Int) : Rets Try.prog 48 #[.pointer none, .int .i64 at_] w fun v w' => v = .bool false ∧ w' = w := by
  refine ent [_, _] Try.func48 ((vcTry48 _ _ w _).mpr ?_)
  exact ⟨_, rfl, rfl, rfl⟩

theorem ptr_some (a : Addr) (K : Addr → Prop) : Ptr (some a) K = K a := rfl
theorem lastN_succ (f : Int → Bool) (m : Nat) : lastN f (m + 1) = bif f m then (m : Int) + 1 else lastN f m := rfl
theorem c54 {w : World} {own : Nat → Prop} {B : Nat} {q : Option Addr} {n : Nat} {b : Int → Int} {m : Nat} (hc : Chn w own B q n b m) (at_ : Int) (hat : 0 ≤ at_ ∧ at_ + 3 ≤ n) :
    Rets Try.prog 54 #[.pointer (some ⟨B, 0, none⟩), .int .i64 at_] w fun v w' => v = .tuple #[] ∧ Kp own w w' ∧ Chn w' (fun i => own i ∨ fresh w i) B q n b (max m (at_.toNat + 1)) := by
  refine ent [_, _] Try.func54 ((vcTry54 _ _ w _).mpr ?_)
  unfold VCTry54
  obtain ⟨pv, h1, h2⟩ := hc.prev
  obtain ⟨pq, pc, rfl⟩ := h2.slice
  have hn := hc.nb
  have hmn := hc.mn
  have hq0 := hc.qown
  have hB0 : B < w.heap.size := cell_lt h1
  have hqf := hc.qfresh
  refine ⟨_, _, _, by simp only [ad_add]; exact h1, ?_⟩
  refine ⟨fun i w' => (m ≤ i ∧ i ≤ max m (at_.toNat + 1)) ∧ Kp own w w' ∧ Chn w' (fun i => own i ∨ fresh w i) B q n b i.toNat, fun i _ => (at_ + 1 - i).toNat, ⟨by omega, Kp.refl _ _, ?_⟩, ?_⟩
  · have := hc.mono (own' := fun i => own i ∨ fresh w i) (fun i _ h => .inl h) hqf
    simpa using this
  rintro i w' ⟨hi, hk, hch⟩
  refine bif_dec (fun h => ?_) (fun h => ?_)
  rotate_left
  · refine ⟨_, rfl, rfl, hk, ?_⟩
    have : i.toNat = max m (at_.toNat + 1) := by omega
    rw [← this]; exact hch
  obtain ⟨k, rfl⟩ := Int.eq_ofNat_of_zero_le (show 0 ≤ i by omega)
  simp only [Int.toNat_natCast] at hch
  obtain ⟨cp, hcp, h0⟩ := hch.c0
  have hby := hch.bytes
  refine ⟨_, _, _, by simp only [ad_add]; exact h0, hby.get (by omega) (by omega) fun a1 _ => ?_⟩
  refine ⟨_, _, _, by simp only [ad_add]; exact h0, wr64 (by omega) (hby.get (by omega) (by omega) fun a2 _ => ?_)⟩
  refine ⟨_, _, _, by simp only [ad_add]; exact h0, wr64 (by omega) (hby.get (by omega) (by omega) fun a3 _ => ?_)⟩
  refine (c16 _ _ _ _ (hch.rng _ (by omega) (by omega)) (hch.rng _ (by omega) (by omega)) (hch.rng _ (by omega) (by omega))).mono ?_
  rintro v w2 ⟨rfl, rfl⟩
  refine ⟨_, rfl, (Kp.refl none_ _).keeps0, ?_⟩
  have hH : hashI (b k) (b (k + 1)) (b (k + 2)) = hashAt b k := rfl
  have hr := hashI_range (b k) (b (k + 1)) (b (k + 2))
  rw [hH] at hr ⊢
  obtain ⟨H, hHe⟩ := Int.eq_ofNat_of_zero_le hr.1
  rw [hHe] at hr ⊢
  obtain ⟨pv', p1, p2⟩ := hch.prev
  obtain ⟨pq', pc', rfl⟩ := p2.slice
  refine ⟨_, _, _, by simp only [ad_add]; exact p1, ⟨⟨by omega, by omega⟩, _, by simp only [ad_add, Int.toNat_natCast, Nat.mul_one, Nat.zero_add]; exact hch.heads H (by omega), ?_⟩⟩
  refine ⟨by simp only [ad_add]; exact cell_alloc _ p1, ?_⟩
  have hB1 : B < w'.heap.size := cell_lt p1
  have ka : Kp none_ w' (w'.drew.drew.alloc (.cells #[Value.int .i64 (headV b k H)] 3)) := (Kp.refl none_ w').drew.drew.alloc _ _
  refine append_own (own := fun i => (own i ∨ fresh w i) ∧ i ≠ B) (xs := prevL b k) (news := [Value.int .i64 (headV b k H)]) Try.underlying26 (by kernel_rfl) (by omega) (p2.kp ka fun _ _ _ _ _ => id) (by simp)
    (fun j u hj => by
      cases j with
      | zero => simp at hj; subst hj; simp only [ad_add]; exact cell_alloc_new (by simp)
      | succ j => simp at hj) (by simp [Value.oneCell']) (by omega) (by omega) ?_
  intro v' w3 hrow hk3
  obtain ⟨vq, vc, rfl⟩ := hrow.slice
  refine ⟨_, _, _, rfl, hk3.keeps0, ?_⟩
  simp only [ptr_some, ad_add, Nat.zero_add, Nat.add_zero, Int.toNat_natCast, Nat.mul_one]
  -- what the third world holds
  have hnB : ¬ ((own B ∨ fresh w B) ∧ B ≠ B) := fun h => h.2 rfl
  have k13 : Kp (fun i => (own i ∨ fresh w i) ∧ i ≠ B) w' w3 := (ka.mono (fun _ _ h => h.elim)).trans hk3
  have cellB : ∀ o u, w'.cell? ⟨B, o, none⟩ = some u → w3.cell? ⟨B, o, none⟩ = some u := fun o u h => k13.cell h hnB
  have hfz : ∀ o, w3.frozen? ⟨B, o, none⟩ = false := fun o => (k13.frz ⟨B, o, none⟩ hB1).trans (hch.frz o)
  refine ⟨⟨_, cellB _ _ p1⟩, hfz _, wr64 (by omega) ⟨⟨by omega, by omega⟩, ⟨_, by rw [cell_set_off _ (by omega)]; exact cellB _ _ (hch.heads H (by omega))⟩, by rw [frozen_set]; exact hfz _, wr64 (by omega) ⟨⟨⟨by omega, by omega⟩, ?_, ?_⟩, by first | omega | (dsimp only; omega)⟩⟩⟩
  · -- what is as it was
    have s1 : own (⟨B, 4097, none⟩ : Addr).block ∨ w.heap.size ≤ (⟨B, 4097, none⟩ : Addr).block := .inl hc.ownB
    refine Kp.setCell (Kp.setCell ?_ _ (.inl hc.ownB)) _ (.inl hc.ownB)
    exact hk.then k13 fun i hi h => by
      rcases h.1 with h | h
      · exact h
      · unfold fresh at h; omega
  · have hk1 : ((k : Int) + 1).toNat = k + 1 := by omega
    rw [hk1]
    have hqf' : 0 < n → ∀ a, q = some a → ¬ ((own a.block ∨ fresh w a.block) ∧ a.block ≠ B) := fun h0 a ha h => hch.qown h0 a ha h.1
    have hqB : 0 < n → ∀ a, q = some a → a.block ≠ B := fun h0 a ha e => hch.qown h0 a ha (by rw [e]; exact hch.ownB)
    have kset : Kp (one_ B) w3 ((w3.setCell ⟨B, 4097, none⟩ (.slice vq (k + 1) vc)).setCell ⟨B, 1 + H, none⟩ (.int .i64 ((k : Int) + 1))) :=
      Kp.setCell (S := one_ B) (x := ⟨B, 1 + H, none⟩) (Kp.setCell (S := one_ B) (x := ⟨B, 4097, none⟩) (Kp.refl (one_ B) w3) _ (.inl (by exact rfl))) _ (.inl (by exact rfl))
    refine ⟨⟨cp, hcp, ?_⟩, ?_, hch.rng, fun h hh => ?_, ⟨.slice vq (k + 1) vc, ?_, ?_⟩, fun o => by rw [frozen_set, frozen_set]; exact hfz o, hch.ownB, hch.qown, .inr (by omega), hch.nb⟩
    · rw [cell_set_off _ (by omega), cell_set_off _ (by omega)]; exact cellB _ _ h0
    · exact (hch.bytes.kp k13 hqf').kp kset hqB
    · by_cases e : h = H
      · subst e
        rw [cell_set_same _ (by rw [cell_set_off _ (by omega)]; exact cellB _ _ (hch.heads h hh))]
        have : headV b (k + 1) h = k + 1 := by
          unfold headV; rw [lastN_succ]; simp [hHe]
        rw [this]
      · rw [cell_set_off _ (by omega), cell_set_off _ (by omega), cellB _ _ (hch.heads h hh)]
        have : headV b (k + 1) h = headV b k h := by
          unfold headV; rw [lastN_succ]
          have : (hashAt b k == (h : Int)) = false := by rw [hHe]; simp; omega
          rw [this]; rfl
        rw [this]
    · rw [cell_set_off _ (by omega)]
      exact cell_set_same _ (cellB _ _ p1)
    · rw [prevL_succ, hHe]
      refine (hrow.mono fun i hi hl => ⟨?_, ?_⟩).kp kset fun g n cap e hg => hg.2
      · rcases hi with hi | hi
        · exact hi.1
        · have := ka.size
          have := hk.size
          unfold fresh at hi ⊢
          exact .inr (by omega)
      · rcases hi with hi | hi
        · exact hi.2
        · unfold fresh at hi
          have := ka.size
          omega
end Go.Proofs.Ytodgnegbaigdbaa
