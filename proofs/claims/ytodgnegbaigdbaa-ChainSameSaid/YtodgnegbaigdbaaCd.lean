import Derived.Test.YtodgnegbaigdbaaCc
namespace Go.Proofs.Ytodgnegbaigdbaa
open Go Go.SX Go.Proofs
set_option maxRecDepth 100000
set_option linter.unusedVariables false

/-- The best match among the distances from d on, r of them, by a depth. -/
def scan (L : Int → Int) : Nat → Int → Int → Int → Int → Int × Int
  | 0, _, _, n, e => (n, e)
  | r + 1, d, k, n, e => if k ≤ 0 then (n, e) else if L d < 3 then scan L r (d + 1) k n e else if L d > n then scan L r (d + 1) (k - 1) (L d) d else scan L r (d + 1) (k - 1) n e
/-- From d on to R. -/
def scanR (L : Int → Int) (R d k n e : Int) : Int × Int := scan L (R + 1 - d).toNat d k n e
theorem scanR_end {L : Int → Int} {R d k n e : Int} (h : R < d) : scanR L R d k n e = (n, e) := by
  unfold scanR; rw [show (R + 1 - d).toNat = 0 by omega]; rfl
theorem scanR_step {L : Int → Int} {R d k n e : Int} (h : d ≤ R) : scanR L R d k n e = if k ≤ 0 then (n, e) else if L d < 3 then scanR L R (d + 1) k n e else if L d > n then scanR L R (d + 1) (k - 1) (L d) d else scanR L R (d + 1) (k - 1) n e := by
  have h1 : (R + 1 - d).toNat = (R + 1 - (d + 1)).toNat + 1 := by omega
  unfold scanR; rw [h1]; rfl
theorem scanR_done {L : Int → Int} {R d k n e : Int} (h : k ≤ 0) : scanR L R d k n e = (n, e) := by
  by_cases hd : d ≤ R
  · rw [scanR_step hd, if_pos h]
  · exact scanR_end (by omega)
theorem scanR_skip {L : Int → Int} {R k n e : Int} : ∀ (j : Nat) (d : Int), (∀ x, d ≤ x → x < d + j → x ≤ R → L x < 3) → scanR L R d k n e = scanR L R (d + j) k n e
  | 0, d, _ => by simp
  | j + 1, d, h => by
    by_cases hk : k ≤ 0
    · rw [scanR_done hk, scanR_done hk]
    by_cases hd : d ≤ R
    · rw [scanR_step hd, if_neg hk, if_pos (h d (Int.le_refl _) (by omega) hd), scanR_skip j (d + 1) (fun x h1 h2 h3 => h x (by omega) (by omega) h3)]
      congr 1; omega
    · rw [scanR_end (by omega), scanR_end (by omega)]
theorem scanR_max {L : Int → Int} {R e : Int} (hL : ∀ x, L x ≤ 258) : ∀ (j : Nat) (d k : Int), (R + 1 - d).toNat = j → scanR L R d k 258 e = (258, e)
  | 0, d, k, h => scanR_end (by omega)
  | j + 1, d, k, h => by
    rw [scanR_step (by omega), scanR_max hL j (d + 1) k (by omega), scanR_max hL j (d + 1) (k - 1) (by omega)]
    have := hL d
    split
    · rfl
    · split
      · rfl
      · rw [if_neg (by omega)]
theorem lenF_le (b : Int → Int) (n : Nat) (at_ d : Int) : 0 ≤ lenF b n at_ d ∧ lenF b n at_ d ≤ 258 := by
  unfold lenF
  split
  · omega
  · have := runL_le b d (min 258 ((n : Int) - at_)).toNat at_
    omega
/-- The best match. -/
def findF (b : Int → Int) (n : Nat) (at_ depth : Int) : Int × Int := scanR (lenF b n at_) (min at_ 32768) 1 depth 0 0

theorem c21 {w : World} {q : Option Addr} {n cp : Nat} {b : Int → Int} (hb : Ints w .u8 q n b) (hn : n ≤ 2147483647) (at_ depth : Int) (hd : -9223372036854775808 ≤ depth ∧ depth < 9223372036854775808) :
    Rets Try.prog 21 #[.slice q n cp, .int .i64 at_, .int .i64 depth] w fun v w' => v = .tuple #[.int .i64 (findF b n at_ depth).1, .int .i64 (findF b n at_ depth).2] ∧ Kp none_ w w' := by
  refine ent [_, _, _] Try.func21 ((vcTry21 _ _ _ _ _ w _).mpr ?_)
  unfold VCTry21
  have zero : (at_ < 0 ∨ at_ ≥ n) → findF b n at_ depth = (0, 0) := by
    intro h
    unfold findF
    by_cases h1 : at_ < 0
    · exact scanR_end (by omega)
    · have hz : ∀ x, lenF b n at_ x = 0 := fun x => if_pos (by omega)
      have := scanR_skip (L := lenF b n at_) (R := min at_ 32768) (k := depth) (n := 0) (e := 0) ((min at_ 32768).toNat + 1) 1 (fun x _ _ _ => by rw [hz]; omega)
      rw [this]; exact scanR_end (by omega)
  refine bif_dec (fun h => ⟨_, rfl, by rw [zero (by omega)], Kp.refl _ _⟩) (fun g1 => ?_)
  refine bif_dec (fun h => ⟨_, rfl, by rw [zero (by omega)], Kp.refl _ _⟩) (fun g2 => ?_)
  refine ⟨fun d k nn e w' => (1 ≤ d ∧ d ≤ min at_ 32768 + 1) ∧ k ≤ depth ∧ Kp none_ w w' ∧ scanR (lenF b n at_) (min at_ 32768) d k nn e = findF b n at_ depth, fun d _ _ _ _ => (at_ + 1 - d).toNat, ⟨by omega, by omega, Kp.refl _ _, rfl⟩, ?_⟩
  rintro d k nn e w' ⟨h1, h2, hk, hs⟩
  refine bif_dec (fun h3 => ?_) (fun h3 => ⟨_, rfl, by rw [← hs, scanR_end (by omega)], hk⟩)
  refine bif_dec (fun h4 => ?_) (fun h4 => ⟨_, rfl, by rw [← hs, scanR_end (by omega)], hk⟩)
  refine bif_dec (fun h5 => ?_) (fun h5 => ⟨_, rfl, by rw [← hs, scanR_done (by omega)], hk⟩)
  refine (c24 (hb.kp0 hk) hn at_ d).mono ?_
  rintro v w2 ⟨rfl, hk2⟩
  refine ⟨_, rfl, hk2.keeps0, ?_⟩
  rw [scanR_step (by omega), if_neg (by omega)] at hs
  refine bif_dec (fun h6 => wr64 (by omega) ⟨⟨by omega, by omega, hk.trans hk2, ?_⟩, by first | omega | (dsimp only; omega)⟩) (fun h6 => ?_)
  · rw [if_pos h6] at hs; exact hs
  rw [if_neg h6] at hs
  refine wr64 (by omega) (bif_dec (fun h7 => wr64 (by omega) ⟨⟨by omega, by omega, hk.trans hk2, ?_⟩, by first | omega | (dsimp only; omega)⟩) (fun h7 => wr64 (by omega) ⟨⟨by omega, by omega, hk.trans hk2, ?_⟩, by first | omega | (dsimp only; omega)⟩))
  · rw [if_pos h7] at hs; exact hs
  · rw [if_neg h7] at hs; exact hs

theorem lastN_spec (f : Int → Bool) : ∀ m : Nat, (lastN f m = 0 ∧ ∀ p : Nat, p < m → f p = false) ∨ (∃ p : Nat, p < m ∧ lastN f m = p + 1 ∧ f p = true ∧ ∀ j : Nat, p < j → j < m → f j = false)
  | 0 => .inl ⟨rfl, fun p h => by omega⟩
  | m + 1 => by
    cases hf : f m with
    | true => exact .inr ⟨m, by omega, by simp [lastN, hf], hf, fun j h1 h2 => by omega⟩
    | false =>
      rcases lastN_spec f m with ⟨h1, h2⟩ | ⟨p, h1, h2, h3, h4⟩
      · refine .inl ⟨by simp [lastN, hf, h1], fun p hp => ?_⟩
        by_cases e : p = m
        · subst e; exact hf
        · exact h2 p (by omega)
      · refine .inr ⟨p, by omega, by simp [lastN, hf, h2], h3, fun j a c => ?_⟩
        by_cases e : j = m
        · subst e; exact hf
        · exact h4 j a (by omega)
/-- Three bytes alike. -/
def alike (b : Int → Int) (x y : Int) : Prop := b x = b y ∧ b (x + 1) = b (y + 1) ∧ b (x + 2) = b (y + 2)
theorem lenF_three {b : Int → Int} {n : Nat} {at_ d : Int} (h0 : 0 ≤ at_ ∧ at_ + 3 ≤ n) (hd : 1 ≤ d ∧ d ≤ 32768 ∧ d ≤ at_) : 3 ≤ lenF b n at_ d ↔ alike b at_ (at_ - d) := by
  have hL : lenF b n at_ d = runL b d (min 258 ((n : Int) - at_)).toNat at_ := if_neg (by omega)
  rw [hL]
  obtain ⟨k, hk⟩ : ∃ k, (min 258 ((n : Int) - at_)).toNat = k + 3 := ⟨(min 258 ((n : Int) - at_)).toNat - 3, by omega⟩
  rw [hk]
  unfold alike
  rw [show at_ - d + 1 = at_ + 1 - d by omega, show at_ - d + 2 = at_ + 1 + 1 - d by omega, show at_ + 2 = at_ + 1 + 1 by omega]
  simp only [runL]
  by_cases h1 : b at_ = b (at_ - d)
  · by_cases h2 : b (at_ + 1) = b (at_ + 1 - d)
    · by_cases h3 : b (at_ + 1 + 1) = b (at_ + 1 + 1 - d)
      · simp only [h1, h2, h3, if_true, true_and, iff_true]; omega
      · simp only [h1, h2, h3, if_true, if_false, true_and, iff_false]; omega
    · simp only [h1, h2, if_true, if_false, true_and, false_and, iff_false]; omega
  · simp only [h1, if_false, false_and, iff_false]; omega
theorem alike_hash {b : Int → Int} {x y : Int} (h : alike b x y) : hashAt b x = hashAt b y := by
  unfold hashAt; rw [h.1, h.2.1, h.2.2]
theorem Chn.back {w w1 w2 : World} {own : Nat → Prop} {B : Nat} {q : Option Addr} {n : Nat} {b : Int → Int} {m : Nat} (h : Chn w2 (fun i => (own i ∨ fresh w i) ∨ fresh w1 i) B q n b m) (hs : w.heap.size ≤ w1.heap.size) (hq : 0 < n → ∀ a, q = some a → ¬ (own a.block ∨ fresh w a.block)) : Chn w2 (fun i => own i ∨ fresh w i) B q n b m :=
  h.mono (fun i _ hi => hi.elim id fun hf => .inr (Nat.le_trans hs hf)) hq
/-- Where Find stands at the head of its loop: p, the best so far, the depth left, whether p is there. -/
def FInv (w : World) (own : Nat → Prop) (B : Nat) (q : Option Addr) (n : Nat) (b : Int → Int) (at_ depth : Int) (p e nn k : Int) (ok : Bool) (w' : World) : Prop :=
  Kp own w w' ∧ (∃ m, Chn w' (fun i => own i ∨ fresh w i) B q n b m) ∧ (1 ≤ k ∧ k ≤ depth) ∧
    (ok = true → (0 ≤ p ∧ p < at_) ∧ scanR (lenF b n at_) (min at_ 32768) (at_ - p) k nn e = findF b n at_ depth ∧ hashAt b p = hashAt b at_) ∧
    (ok = false → findF b n at_ depth = (nn, e))
/-- What 'Prev' says, laid out. -/
theorem prevAt_spec {b : Int → Int} {n : Nat} {p : Int} (h : 0 ≤ p ∧ p + 3 ≤ n) :
    (prevAt b n p = 0 ∧ ∀ j : Int, 0 ≤ j → j < p → hashAt b j ≠ hashAt b p) ∨ (∃ x : Int, prevAt b n p = x + 1 ∧ (0 ≤ x ∧ x < p) ∧ hashAt b x = hashAt b p ∧ ∀ j : Int, x < j → j < p → hashAt b j ≠ hashAt b p) := by
  have hp : prevAt b n p = headV b p.toNat (hashAt b p) := if_pos (by omega)
  rw [hp]
  unfold headV
  rcases lastN_spec (fun x => hashAt b x == hashAt b p) p.toNat with ⟨h1, h2⟩ | ⟨x, h1, h2, h3, h4⟩
  · refine .inl ⟨h1, fun j a c e => ?_⟩
    have := h2 j.toNat (by omega)
    rw [show ((j.toNat : Nat) : Int) = j by omega] at this
    simp [e] at this
  · refine .inr ⟨x, h2, by omega, by simpa using h3, fun j a c e => ?_⟩
    have := h4 j.toNat (by omega) (by omega)
    rw [show ((j.toNat : Nat) : Int) = j by omega] at this
    simp [e] at this
theorem c20 {w : World} {own : Nat → Prop} {B : Nat} {q : Option Addr} {n : Nat} {b : Int → Int} {m : Nat} (hc : Chn w own B q n b m) (at_ depth : Int) (hd : -9223372036854775808 ≤ depth ∧ depth < 9223372036854775808) :
    Rets Try.prog 20 #[.pointer (some ⟨B, 0, none⟩), .int .i64 at_, .int .i64 depth] w fun v w' =>
      v = .tuple #[.int .i64 (findF b n at_ depth).1, .int .i64 (findF b n at_ depth).2] ∧ Kp own w w' ∧ ∃ m', Chn w' (fun i => own i ∨ fresh w i) B q n b m' := by
  refine ent [_, _, _] Try.func20 ((vcTry20 _ _ _ w _).mpr ?_)
  unfold VCTry20
  have hn := hc.nb
  have hqf := hc.qfresh
  refine (c48 hc at_).mono ?_
  rintro v w1 ⟨rfl, e⟩
  obtain rfl := e.symm
  refine ⟨_, rfl, (Kp.refl none_ _).keeps0, ?_⟩
  refine bif_not (fun h => ?_) (fun h => ?_)
  · have h := of_decide_eq_false h
    have hz : findF b n at_ depth = (0, 0) := by
      unfold findF
      by_cases h0 : at_ < 0
      · exact scanR_end (by omega)
      · have hl : ∀ x, lenF b n at_ x < 3 := by
          intro x
          unfold lenF
          split
          · omega
          · have := runL_le b x (min 258 ((n : Int) - at_)).toNat at_
            omega
        rw [scanR_skip ((min at_ 32768).toNat + 1) 1 (fun x _ _ _ => hl x)]
        exact scanR_end (by omega)
    exact ⟨_, rfl, by rw [hz], Kp.refl _ _, m, hc.later⟩
  have h := of_decide_eq_true h
  refine bif_dec (fun hd1 => ⟨_, rfl, by rw [show findF b n at_ depth = (0, 0) from scanR_done (by omega)], Kp.refl _ _, m, hc.later⟩) (fun hd1 => ?_)
  -- three facts about distances
  have hsame : ∀ d, (1 ≤ d ∧ d ≤ 32768 ∧ d ≤ at_) → hashAt b (at_ - d) ≠ hashAt b at_ → lenF b n at_ d < 3 := by
    intro d hd' hne
    rcases Int.lt_or_le (lenF b n at_ d) 3 with h' | h'
    · exact h'
    · exact absurd (alike_hash ((lenF_three ⟨h.1, by omega⟩ hd').1 h')).symm hne
  have skipTo : ∀ (x y k nn e : Int), (1 ≤ x ∧ x ≤ y) → (∀ j, x ≤ j → j < y → j ≤ min at_ 32768 → hashAt b (at_ - j) ≠ hashAt b at_) → scanR (lenF b n at_) (min at_ 32768) x k nn e = scanR (lenF b n at_) (min at_ 32768) y k nn e := by
    intro x y k nn e hxy hh
    have := scanR_skip (L := lenF b n at_) (R := min at_ 32768) (k := k) (n := nn) (e := e) (y - x).toNat x (fun j h1 h2 h3 => hsame j (by omega) (hh j (by omega) (by omega) h3))
    rw [this]; congr 1; omega
  -- on to the place ahead of p
  have adv : ∀ (p e nn k : Int) (w' : World), Kp own w w' → (∃ m, Chn w' (fun i => own i ∨ fresh w i) B q n b m) → (1 ≤ k ∧ k ≤ depth) → (0 ≤ p ∧ p ≤ at_) → hashAt b p = hashAt b at_ →
      scanR (lenF b n at_) (min at_ 32768) (at_ - p + 1) k nn e = findF b n at_ depth →
      Rets Try.prog 37 #[.pointer (some ⟨B, 0, none⟩), .int .i64 p] w' fun v w2 => ∃ (i : Int) (t : Bool), v = .tuple #[.int .i64 i, .bool t] ∧ Keeps w' w2 [] ∧ FInv w own B q n b at_ depth i e nn k t w2 ∧ (cond t (i + 1).toNat 0 : Nat) < (p + 1).toNat := by
    intro p e nn k w' hk ⟨m1, hch⟩ hkd hp hh hs
    refine (c37 hch p).mono ?_
    rintro v w2 ⟨rfl, hk2, m2, hch2⟩
    refine ⟨_, _, rfl, hk2.keeps0, ⟨hk.then hk2 ?_, ⟨m2, hch2.back hk.size hqf⟩, hkd, ?_, ?_⟩, ?_⟩
    · intro i hi hT
      rcases hT with hT | hT
      · exact hT
      · unfold fresh at hT; omega
    · intro hok
      have hne := of_decide_eq_true hok
      rw [if_neg hne]
      rcases prevAt_spec (b := b) (n := n) (p := p) (by omega) with ⟨h1, _⟩ | ⟨x, h1, h2, h3, h4⟩
      · exact absurd h1 hne
      · rw [h1, show x + 1 - 1 = x by omega]
        refine ⟨by omega, ?_, h3.trans hh⟩
        rw [← hs]
        refine (skipTo (at_ - p + 1) (at_ - x) k nn e (by omega) fun j j1 j2 j3 hj => ?_).symm
        exact h4 (at_ - j) (by omega) (by omega) (hj.trans hh.symm)
    · intro hok
      have hz : prevAt b n p = 0 := by have := of_decide_eq_false hok; omega
      rcases prevAt_spec (b := b) (n := n) (p := p) (by omega) with ⟨_, h2⟩ | ⟨x, h1, h2, _⟩
      · rw [← hs, skipTo (at_ - p + 1) (at_ + 1) k nn e (by omega) fun j j1 j2 j3 hj => h2 (at_ - j) (by omega) (by omega) (hj.trans hh.symm)]
        exact scanR_end (by omega)
      · omega
    · by_cases hz : prevAt b n p = 0
      · simp only [hz, ne_eq, not_true_eq_false, decide_false, cond_false]; omega
      · have hr : prevAt b n p ≤ p ∧ 0 ≤ prevAt b n p := by
          rcases prevAt_spec (b := b) (n := n) (p := p) (by omega) with ⟨h1, _⟩ | ⟨x, h1, h2, _⟩ <;> omega
        simp only [hz, ne_eq, not_false_eq_true, decide_true, cond_true, if_false]; omega
  refine (adv at_ 0 0 depth w (Kp.refl _ _) ⟨m, hc.later⟩ (by omega) (by omega) rfl (by rw [show at_ - at_ + 1 = 1 by omega]; rfl)).mono ?_
  rintro v w2 ⟨i, t, rfl, hkeep, hI, _⟩
  refine ⟨_, _, rfl, hkeep, fun p e nn k ok w' => FInv w own B q n b at_ depth p e nn k ok w', fun p _ _ _ ok _ => cond ok (p + 1).toNat 0, hI, ?_⟩
  rintro p e nn k ok w' ⟨hk, ⟨m1, hch⟩, hkd, hyes, hno⟩
  refine bif_b (fun ht => ?_) (fun hf => ⟨_, rfl, by rw [hno hf], hk, m1, hch⟩)
  obtain ⟨hp, hs, hh⟩ := hyes ht
  subst ht
  refine wr64 (by omega) (bif_dec (fun hwin => ?_) (fun hwin => ⟨_, rfl, ?_, hk, m1, hch⟩))
  rotate_left
  · rw [← hs, scanR_end (by omega)]
  refine (c49 hch at_ p (by omega) (by omega)).mono ?_
  rintro v w3 ⟨rfl, rfl⟩
  refine ⟨_, rfl, (Kp.drew1 (S := none_)).keeps0, ?_⟩
  have hd2 : 1 ≤ at_ - p ∧ at_ - p ≤ 32768 ∧ at_ - p ≤ at_ := by omega
  have h3 := lenF_three (b := b) (n := n) (at_ := at_) (d := at_ - p) ⟨h.1, by omega⟩ hd2
  rw [show at_ - (at_ - p) = p by omega] at h3
  refine bif_not (fun ha => ?_) (fun ha => ?_)
  · have ha := of_decide_eq_false ha
    rw [scanR_step (by omega), if_neg (by omega), if_pos (by rcases Int.lt_or_le (lenF b n at_ (at_ - p)) 3 with h' | h'; exact h'; exact absurd (h3.1 h') ha)] at hs
    exact adv p e nn k _ hk.drew ⟨m1, hch.drew⟩ hkd (by omega) hh hs
  have ha := of_decide_eq_true ha
  have hl3 : 3 ≤ lenF b n at_ (at_ - p) := h3.2 ha
  rw [scanR_step (by omega), if_neg (by omega), if_neg (by omega)] at hs
  obtain ⟨cp, hcp, h0⟩ := hch.c0
  simp only [ptr_some, ad_add, Nat.zero_add, Nat.add_zero]
  refine ⟨_, _, _, h0, wr64 (by omega) ?_⟩
  refine (c23 (cp := cp) hch.drew.bytes hn at_ (at_ - p)).mono ?_
  rintro v w4 ⟨rfl, hk4⟩
  refine ⟨_, rfl, hk4.keeps0, ?_⟩
  have hk5 : Kp own w w4 := hk.drew.trans (hk4.mono fun _ _ h => h.elim)
  have hch5 : Chn w4 (fun i => own i ∨ fresh w i) B q n b m1 := hch.drew.kp hk4 (fun _ _ _ => id) (fun _ _ _ => id)
  have hle := lenF_le b n at_ (at_ - p)
  have hmax : ∀ x, lenF b n at_ x ≤ 258 := fun x => (lenF_le b n at_ x).2
  refine bif_dec (fun hg => wr64 (by omega) (wr64 (by omega) ?_)) (fun hg => wr64 (by omega) ?_)
  · rw [if_pos hg] at hs
    refine bif_eq (fun hz => ⟨_, rfl, by rw [← hs, scanR_done (by omega)], hk5, m1, hch5⟩) (fun hz => ?_)
    refine bif_eq (fun hz2 => ⟨_, rfl, by rw [← hs, hz2, scanR_max hmax _ _ _ rfl], hk5, m1, hch5⟩) (fun hz2 => ?_)
    exact adv p _ _ _ _ hk5 ⟨m1, hch5⟩ (by omega) (by omega) hh hs
  · rw [if_neg hg] at hs
    refine bif_eq (fun hz => ⟨_, rfl, by rw [← hs, scanR_done (by omega)], hk5, m1, hch5⟩) (fun hz => ?_)
    refine bif_eq (fun hz2 => ⟨_, rfl, by rw [← hs, hz2, scanR_max hmax _ _ _ rfl], hk5, m1, hch5⟩) (fun hz2 => ?_)
    exact adv p _ _ _ _ hk5 ⟨m1, hch5⟩ (by omega) (by omega) hh hs
end Go.Proofs.Ytodgnegbaigdbaa
