import Derived.Test.YtodgnegbaigdbaaGk
namespace Go.Proofs.Ytodgnegbaigdbaa
open Go Go.SX Go.Proofs
set_option maxRecDepth 100000
set_option linter.unusedVariables false
set_option linter.unusedSimpArgs false
/-- The bytes up to a place. -/
def bts (b : Int → Int) (k : Nat) : List Int := (List.range k).map fun i : Nat => b i
theorem bts_len (b : Int → Int) (k : Nat) : (bts b k).length = k := by simp [bts]
theorem bts_succ (b : Int → Int) (k : Nat) : bts b (k + 1) = bts b k ++ [b k] := by simp [bts, List.range_succ]
theorem bts_get (b : Int → Int) {k i : Nat} (h : i < k) : (bts b k).getD i 0 = b i := by
  rw [List.getD_eq_getElem?_getD]; simp [bts, h]
theorem copy_bts (b : Int → Int) (d : Int) : ∀ (k p : Nat), 1 ≤ d → d ≤ p → (∀ j : Int, p ≤ j → j < p + k → b j = b (j - d)) → copyN k d (bts b p) = bts b (p + k)
  | 0, p, _, _, _ => rfl
  | k + 1, p, h1, h2, h3 => by
    unfold copyN
    rw [bts_len, bts_get b (by omega)]
    have e : b (((p : Int) - d).toNat : Nat) = b p := by
      rw [show ((((p : Int) - d).toNat : Nat) : Int) = p - d by omega]
      exact (h3 p (by omega) (by omega)).symm
    rw [e, ← bts_succ, copy_bts b d k (p + 1) h1 (by omega) (fun j a c => h3 j (by omega) (by omega))]
    congr 1
    omega
section
variable {b : Int → Int} {n : Nat} {dep : Int} {lz : Bool}
/-- What the token at a place is. -/
theorem tokAt_is (at_ : Int) (hat : 0 ≤ at_ ∧ at_ < n) : rightT (tokAt b n dep lz at_) = true ∧ (tokAt b n dep lz at_).2.2 ≤ at_ ∧ at_ + max 1 (tokAt b n dep lz at_).2.1 ≤ n ∧
    (if (tokAt b n dep lz at_).2.1 = 0 then bts b at_.toNat ++ [(tokAt b n dep lz at_).1] else copyN (tokAt b n dep lz at_).2.1.toNat (tokAt b n dep lz at_).2.2 (bts b at_.toNat)) = bts b (at_ + max 1 (tokAt b n dep lz at_).2.1).toNat := by
  have lit : tokAt b n dep lz at_ = (b at_, 0, 0) → rightT (tokAt b n dep lz at_) = true ∧ (tokAt b n dep lz at_).2.2 ≤ at_ ∧ at_ + max 1 (tokAt b n dep lz at_).2.1 ≤ n ∧
      (if (tokAt b n dep lz at_).2.1 = 0 then bts b at_.toNat ++ [(tokAt b n dep lz at_).1] else copyN (tokAt b n dep lz at_).2.1.toNat (tokAt b n dep lz at_).2.2 (bts b at_.toNat)) = bts b (at_ + max 1 (tokAt b n dep lz at_).2.1).toNat := by
    intro h
    rw [h]
    refine ⟨rfl, hat.1, by dsimp only; omega, ?_⟩
    rw [if_pos rfl]
    have e : (at_ + max 1 ((b at_, 0, 0) : Tok).2.1).toNat = at_.toNat + 1 := by dsimp only; omega
    rw [e, bts_succ]
    congr 2
    rw [show ((at_.toNat : Nat) : Int) = at_ by omega]
  by_cases hc : (findF b n at_ dep).1 = 0 ∨ (lz = true ∧ (findF b n at_ dep).1 < 258 ∧ (findF b n at_ dep).1 < (findF b n (at_ + 1) dep).1)
  · exact lit (if_pos hc)
  · have ht : tokAt b n dep lz at_ = (0, (findF b n at_ dep).1, (findF b n at_ dep).2) := if_neg hc
    rcases findF_is b n at_ dep with h | ⟨x, d1, d2, d3, d4, d5, d6, d7, he, hall, _⟩
    · exact absurd (.inl (by rw [h])) hc
    · rw [ht, he]
      generalize lenF b n at_ x = L at *
      dsimp only
      refine ⟨?_, d2, by omega, ?_⟩
      · unfold rightT
        rw [if_neg (by dsimp only; omega)]
        exact decide_eq_true ⟨rfl, ⟨d5, d6⟩, d1, d3⟩
      · rw [if_neg (by omega), copy_bts b x L.toNat at_.toNat d1 (by omega) (fun j a c => ?_)]
        · congr 1
          omega
        · have := hall (j - at_) (by omega) (by omega)
          rw [show at_ + (j - at_) = j by omega] at this
          exact this
theorem ex_back (most : Int) (hm : (n : Int) ≤ most) : ∀ (f : Nat) (at_ : Int), 0 ≤ at_ ∧ at_ ≤ n → (n - at_).toNat ≤ f → exF most (toks (tokAt b n dep lz) n at_) (bts b at_.toNat) = (bts b n, 0)
  | 0, at_, h, hf => by
    rw [toks_end (by omega), show at_.toNat = n by omega]
    rfl
  | f + 1, at_, h, hf => by
    by_cases hlt : at_ < n
    · obtain ⟨t1, t2, t3, t4⟩ := tokAt_is (b := b) (n := n) (dep := dep) (lz := lz) at_ ⟨h.1, hlt⟩
      rw [toks_step hlt, exF_cons, if_neg (by rw [t1, bts_len]; simp; omega), if_neg (by rw [bts_len]; omega), t4]
      exact ex_back most hm f _ (by omega) (by omega)
    · rw [toks_end (by omega), show at_.toNat = n by omega]
      rfl
theorem ex_short : ∀ (f : Nat) (at_ : Int), 0 ≤ at_ ∧ at_ < n → (n - at_).toNat ≤ f → exF ((n : Int) - 1) (toks (tokAt b n dep lz) n at_) (bts b at_.toNat) = ([], 5)
  | 0, at_, h, hf => by omega
  | f + 1, at_, h, hf => by
    obtain ⟨t1, t2, t3, t4⟩ := tokAt_is (b := b) (n := n) (dep := dep) (lz := lz) at_ h
    rw [toks_step h.2, exF_cons, if_neg (by rw [t1, bts_len]; simp; omega)]
    by_cases hx : max 1 (tokAt b n dep lz at_).2.1 > (n : Int) - 1 - ((bts b at_.toNat).length : Nat)
    · rw [if_pos hx]
    · rw [if_neg hx, t4]
      rw [bts_len] at hx
      exact ex_short f _ (by omega) (by omega)
theorem toks_right : ∀ (f : Nat) (at_ : Int), 0 ≤ at_ → (n - at_).toNat ≤ f → ∀ t ∈ toks (tokAt b n dep lz) n at_, rightT t = true
  | 0, at_, h, hf => by rw [toks_end (by omega)]; simp
  | f + 1, at_, h, hf => by
    by_cases hlt : at_ < n
    · rw [toks_step hlt]
      intro t ht
      simp only [List.mem_cons] at ht
      rcases ht with rfl | ht
      · exact (tokAt_is at_ ⟨h, hlt⟩).1
      · exact toks_right f _ (by omega) (by omega) t ht
    · rw [toks_end (by omega)]; simp
theorem toks_sum : ∀ (f : Nat) (at_ : Int), 0 ≤ at_ ∧ at_ ≤ n → (n - at_).toNat ≤ f → sumT (toks (tokAt b n dep lz) n at_) = n - at_
  | 0, at_, h, hf => by rw [toks_end (by omega)]; simp [sumT]; omega
  | f + 1, at_, h, hf => by
    by_cases hlt : at_ < n
    · have t3 := (tokAt_is (b := b) (n := n) (dep := dep) (lz := lz) at_ ⟨h.1, hlt⟩).2.2.1
      rw [toks_step hlt]
      show max 1 _ + sumT _ = _
      rw [toks_sum f _ (by omega) (by omega)]
      omega
    · rw [toks_end (by omega)]; simp [sumT]; omega
end
theorem strOf_congr {f g : Int → Int} {k : Nat} (h : ∀ i : Nat, i < k → f i = g i) : strOf f 0 k = strOf g 0 k := by
  unfold strOf
  congr 2
  apply List.map_congr_left
  intro i hi
  have := h i (List.mem_range.1 hi)
  simp only [Int.zero_add]
  rw [this]
section
variable {w w' : World} {q : Option Addr} {n cp : Nat} {b : Int → Int}
theorem ints_bytes (hb : Ints w .u8 q n b) (hr : ∀ i : Int, 0 ≤ i → i < n → 0 ≤ b i ∧ b i < 256) : BytesAt w q (strOf b 0 n) := by
  intro i hi
  have hik : i < n := by rw [strOf_size] at hi; exact hi
  obtain ⟨a, e, hc⟩ := hb i (by omega) (by omega)
  refine ⟨a, e, ?_⟩
  rw [show ((i : Int)).toNat = i by omega] at hc
  rw [hc, strOf_get]
  have hx := hr i (by omega) (by omega)
  congr 2
  rw [UInt8.toNat_ofNat']
  simp only [Int.zero_add]
  omega
theorem bts_range (hr : ∀ i : Int, 0 ≤ i → i < n → 0 ≤ b i ∧ b i < 256) : ∀ x ∈ bts b n, 0 ≤ x ∧ x < 256 := by
  intro x hx
  obtain ⟨i, hi, rfl⟩ := List.mem_map.1 hx
  have := List.mem_range.1 hi
  exact hr i (by omega) (by omega)
theorem exF_toksF (most level : Int) (hm : (n : Int) ≤ most) : exF most (toksF b n level) [] = (bts b n, 0) := ex_back most hm _ 0 (by omega) (Nat.le_refl _)
theorem c14 (hb : Ints w .u8 q n b) (hr : ∀ i : Int, 0 ≤ i → i < n → 0 ≤ b i ∧ b i < 256) (hcp : n ≤ cp) (level : Int) : Rets Try.prog 14 #[.slice q n cp, .int .i64 level] w fun v w' => v = .bool true ∧ Kp none_ w w' := by
  refine ent [_, _] Try.func14 ((vcTry14 _ _ _ _ w _).mpr ?_)
  unfold VCTry14
  refine bif_dec (fun _ => live29 w w (Kp.refl _ _)) (fun g1 => ?_)
  refine (c31 hb hr hcp (by omega) level).mono ?_
  rintro v w1 ⟨q1, c1, rfl, k1, h1⟩
  have hk1 := Toks.of h1
  have hlen : (toksF b n level).length ≤ 3000 := by
    have h1 := toks_len (tokAt b n (depthF level) (decide (level ≥ 2))) n 0
    unfold toksF
    omega
  have hright : ∀ t ∈ toksF b n level, rightT t = true := toks_right _ 0 (by omega) (Nat.le_refl _)
  have hsum : sumT (toksF b n level) = n := by
    have := toks_sum (b := b) (n := n) (dep := depthF level) (lz := decide (level ≥ 2)) _ 0 (by omega) (Nat.le_refl _)
    unfold toksF
    rw [this]; omega
  have hE := exF_toksF (b := b) (n := n) (n : Int) level (Int.le_refl _)
  have hE2 : 0 < n → exF ((n : Int) - 1) (toksF b n level) [] = ([], 5) := fun h => ex_short _ 0 (by omega) (Nat.le_refl _)
  generalize toksF b n level = l at *
  refine ⟨_, _, _, rfl, k1.keeps0, fun i w' => (0 ≤ i ∧ i ≤ l.length) ∧ Kp none_ w1 w', fun i _ => (l.length - i).toNat, ⟨by omega, Kp.refl _ _⟩, ?_⟩
  rintro i w2 ⟨hi, k2⟩
  refine bif_dec (fun hlt => ?_) (fun hge => ?_)
  · obtain ⟨t, ht⟩ : ∃ t, l[i.toNat]? = some t := ⟨l[i.toNat]'(by omega), List.getElem?_eq_getElem _⟩
    obtain ⟨a, rfl, x0, x1, x2⟩ := (hk1.kp0 k2) i.toNat t ht
    simp only [ptr_some, add_add, Nat.add_zero]
    refine ⟨by omega, _, _, _, ⟨x0, x1, x2, trivial⟩, (c45 _ t).mono ?_⟩
    rintro v w3 ⟨rfl, k3⟩
    rw [hright t (List.mem_of_getElem? ht)]
    exact ⟨_, rfl, k3.keeps0, bif_b (fun h => by cases h) (fun _ => wr64 (by omega) ⟨⟨by omega, k2.trans k3⟩, by first | omega | (dsimp only; omega)⟩)⟩
  have hk2 := hk1.kp0 k2
  have kw2 := k1.trans k2
  have hall : l.all rightT = true := List.all_eq_true.2 hright
  refine (c44 hk2 (by omega) (fun i h => ?_)).mono ?_
  · have h1 := (sumT_le h).2
    rw [List.length_take] at h1
    omega
  rintro v w3 ⟨rfl, k3⟩
  rw [hall, if_pos rfl, hsum]
  have kw3 := kw2.trans k3
  refine ⟨_, _, rfl, k3.keeps0, (c42 (hk2.kp0 k3) (by omega) n (by omega)).mono ?_⟩
  rintro v w4 ⟨⟨q4, c4, rfl, r4⟩, k4⟩
  have kw4 := kw3.trans k4
  refine ⟨_, _, _, _, rfl, k4.keeps0, wr64 (by omega) ((c42 ((hk2.kp0 k3).kp0 k4) (by omega) ((n : Int) - 1) (by omega)).mono ?_)⟩
  rintro v w5 ⟨⟨q5, c5, rfl, r5⟩, k5⟩
  have kw5 := kw4.trans k5
  rw [hE] at r4 ⊢
  have hsame : strOf (fun i => (bts b n).getD i.toNat 0) 0 (bts b n).length = strOf b 0 n := by
    rw [bts_len]
    exact strOf_congr fun i hi => by simp only [Int.toNat_natCast]; exact bts_get b hi
  have hby := bytesAt_kp0 (row_bytes r4 (bts_range hr)) k5
  rw [hsame] at hby
  refine ⟨_, _, _, _, rfl, k5.keeps0, bif_b (fun _ => bif_eq (fun _ => bif_eq (fun _ => ⟨strOf b 0 n, by rw [strOf_size, bts_len], hby, strOf b 0 n, strOf_size _ _ _, ints_bytes (hb.kp0 kw5) hr, ?_⟩) (fun h => absurd rfl h)) (fun h => absurd rfl h)) (fun h => by cases h)⟩
  rw [beq_list_self]
  refine bif_b (fun _ => bif_eq (fun h0 => live29 w w5 kw5) (fun h0 => ?_)) (fun h => by cases h)
  rw [hE2 (by omega)]
  exact bif_eq (fun _ => live29 w w5 kw5) (fun h => absurd rfl h)
end
end Go.Proofs.Ytodgnegbaigdbaa
