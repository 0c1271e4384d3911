/- The sum of bytes: plain mathematics. -/
import Derived.Test.YtbpknjldphckgaaDoorSxLib
set_option linter.unusedSimpArgs false
set_option linter.unusedVariables false
namespace Go.SX.Crc
/-! ### The sum of bytes, as plain mathematics -/
abbrev W32 := BitVec 32
def poly : W32 := 0xedb88320#32
def bit (b : Bool) : W32 := if b then 1#32 else 0#32
def turn (n : W32) : W32 := if n.getLsbD 0 then (n >>> 1) ^^^ poly else n >>> 1
def turns : Nat → W32 → W32
  | 0, n => n
  | k + 1, n => turns k (turn n)
theorem turns_succ : ∀ (k : Nat) (n : W32), turns (k + 1) n = turn (turns k n)
  | 0, n => rfl
  | k + 1, n => turns_succ k (turn n)
theorem turns_add : ∀ (j k : Nat) (n : W32), turns (j + k) n = turns k (turns j n)
  | 0, k, n => by rw [Nat.zero_add]; rfl
  | j + 1, k, n => by rw [show j + 1 + k = (j + k) + 1 by omega]; exact turns_add j k (turn n)
theorem turn_xor (a b : W32) : turn (a ^^^ b) = turn a ^^^ turn b := by
  unfold turn
  rw [BitVec.getLsbD_xor, BitVec.ushiftRight_xor_distrib]
  cases ha : a.getLsbD 0 <;> cases hb : b.getLsbD 0 <;> simp
  · rw [← BitVec.xor_assoc]
  · rw [BitVec.xor_assoc (a >>> 1) poly, BitVec.xor_comm poly, BitVec.xor_assoc]
  · rw [BitVec.xor_assoc, BitVec.xor_comm poly, BitVec.xor_assoc, BitVec.xor_self, BitVec.xor_zero]
theorem turn_zero : turn 0#32 = 0#32 := by decide
theorem turns_zero : ∀ k, turns k 0#32 = 0#32
  | 0 => rfl
  | k + 1 => by rw [turns, turn_zero]; exact turns_zero k
theorem turns_xor : ∀ (k : Nat) (a b : W32), turns k (a ^^^ b) = turns k a ^^^ turns k b
  | 0, a, b => rfl
  | k + 1, a, b => by rw [turns, turns, turns, turn_xor]; exact turns_xor k _ _
theorem turn_inj0 {n : W32} (h : turn n = 0#32) : n = 0#32 := by
  unfold turn at h
  split at h
  · exfalso
    have := congrArg (fun x : W32 => x.getLsbD 31) h
    simp [poly] at this
  · rename_i h0
    apply BitVec.eq_of_getLsbD_eq
    intro i hi
    by_cases h1 : i = 0
    · subst h1; simpa using h0
    · have := congrArg (fun x : W32 => x.getLsbD (i - 1)) h
      simp only [BitVec.getLsbD_ushiftRight] at this
      rw [show 1 + (i - 1) = i by omega] at this
      simpa using this
theorem turns_inj0 : ∀ (k : Nat) {n : W32}, turns k n = 0#32 → n = 0#32
  | 0, n, h => h
  | k + 1, n, h => turn_inj0 (turns_inj0 k h)
theorem xor_eq_zero {a b : W32} (h : a ^^^ b = 0#32) : a = b := by
  have := congrArg (· ^^^ b) h
  simpa [BitVec.xor_assoc] using this
theorem turns_inj (k : Nat) {a b : W32} (h : turns k a = turns k b) : a = b := by
  apply xor_eq_zero
  apply turns_inj0 k
  rw [turns_xor, h, BitVec.xor_self]
/-- Bits that are turned out again. -/
theorem turn_shl {x : W32} {k : Nat} (h : x.toNat < 2 ^ (31 - k)) (hk : k < 31) : turn (x <<< (k + 1)) = x <<< k := by
  unfold turn
  have h0 : (x <<< (k + 1)).getLsbD 0 = false := by simp [BitVec.getLsbD_shiftLeft]
  rw [h0]
  apply BitVec.eq_of_getLsbD_eq
  intro i hi
  simp only [Bool.false_eq_true, if_false, BitVec.getLsbD_ushiftRight, BitVec.getLsbD_shiftLeft]
  by_cases h1 : i < k
  · have : 1 + i < k + 1 := by omega
    simp [h1, this]
  · have e : 1 + i - (k + 1) = i - k := by omega
    rw [e]
    by_cases h2 : 1 + i < 32
    · have : ¬ (1 + i < k + 1) := by omega
      simp [h1, h2, hi, this]
    · have hz : x.getLsbD (i - k) = false := by
        rw [BitVec.getLsbD]
        exact Nat.testBit_lt_two_pow (Nat.lt_of_lt_of_le h (Nat.pow_le_pow_right (by omega) (by omega)))
      simp [h2, hz]
theorem turns_shl {x : W32} {j : Nat} : ∀ {k : Nat}, x.toNat < 2 ^ (32 - j - k) → j + k ≤ 31 → turns k (x <<< (j + k)) = x <<< j
  | 0, _, _ => rfl
  | k + 1, h, hk => by
    rw [turns, show j + (k + 1) = (j + k) + 1 by omega, turn_shl (by rw [show 31 - (j + k) = 32 - j - (k + 1) by omega]; exact h) (by omega)]
    exact turns_shl (Nat.lt_of_lt_of_le h (Nat.pow_le_pow_right (by omega) (by omega))) (by omega)
theorem turns_bit (b : Bool) {k : Nat} (hk : k ≤ 31) : turns k (bit b <<< k) = bit b := by
  have h : (bit b).toNat < 2 ^ (32 - 0 - k) := by
    have : (bit b).toNat ≤ 1 := by unfold bit; split <;> simp
    exact Nat.lt_of_le_of_lt this (Nat.one_lt_two_pow (by omega))
  have := turns_shl (x := bit b) (j := 0) (k := k) h (by omega)
  rw [Nat.zero_add] at this
  rw [this]
  simp
/-! ### Bit by bit -/
/-- So many bits are taken in. -/
def rb : Nat → (Nat → Bool) → W32 → W32
  | 0, _, r => r
  | k + 1, f, r => turn (rb k f r ^^^ bit (f k))
/-- Bits as a number. -/
def pn : Nat → (Nat → Bool) → W32
  | 0, _ => 0#32
  | k + 1, f => pn k f ^^^ (bit (f k) <<< k)
theorem rb_congr {f g : Nat → Bool} {r : W32} : ∀ {k : Nat}, (∀ i, i < k → f i = g i) → rb k f r = rb k g r
  | 0, _ => rfl
  | k + 1, h => by rw [rb, rb, rb_congr (fun i hi => h i (by omega)), h k (by omega)]
theorem rb_add (j : Nat) (f : Nat → Bool) (r : W32) : ∀ k, rb (j + k) f r = rb k (fun i => f (j + i)) (rb j f r)
  | 0 => rfl
  | k + 1 => by rw [← Nat.add_assoc, rb, rb, rb_add j f r k]
theorem bit_xor (a b : Bool) : bit (a ^^ b) = bit a ^^^ bit b := by cases a <;> cases b <;> decide
theorem rb_xor (f g : Nat → Bool) (r s : W32) : ∀ k, rb k (fun i => f i ^^ g i) (r ^^^ s) = rb k f r ^^^ rb k g s
  | 0 => rfl
  | k + 1 => by
    rw [rb, rb, rb, rb_xor f g r s k, ← turn_xor, bit_xor]
    congr 1
    rw [BitVec.xor_assoc, BitVec.xor_assoc]
    congr 1
    rw [← BitVec.xor_assoc, ← BitVec.xor_assoc, BitVec.xor_comm (rb k g s)]
theorem rb_none (r : W32) : ∀ k, rb k (fun _ => false) r = turns k r
  | 0 => rfl
  | k + 1 => by
    rw [rb, rb_none r k, turns_succ]
    simp [bit]
theorem rb_pn (f : Nat → Bool) (r : W32) : ∀ k, k ≤ 32 → rb k f r = turns k (r ^^^ pn k f)
  | 0, _ => by simp [rb, turns, pn]
  | k + 1, hk => by
    rw [rb, rb_pn f r k (by omega), turns_succ, pn, ← BitVec.xor_assoc, turns_xor k _ (bit (f k) <<< k), turns_bit _ (by omega)]
theorem pn_bit (f : Nat → Bool) {i : Nat} : ∀ {k : Nat}, k ≤ 32 → i < 32 → (pn k f).getLsbD i = (decide (i < k) && f i)
  | 0, _, _ => by simp [pn]
  | k + 1, hk, hi => by
    rw [pn, BitVec.getLsbD_xor, pn_bit f (by omega) hi, BitVec.getLsbD_shiftLeft]
    have hb : ∀ j, (bit (f k)).getLsbD j = (decide (j = 0) && f k) := by
      intro j
      unfold bit
      cases f k
      · simp
      · by_cases h : j = 0
        · subst h; simp
        · simp [h]
    rw [hb]
    by_cases h1 : i < k
    · have h2 : i < k + 1 := by omega
      simp [h1, h2]
    · by_cases h2 : i = k
      · subst h2; simp [hi]
      · have h3 : ¬ i < k + 1 := by omega
        have h4 : ¬ (i - k = 0) := by omega
        simp [h1, h3, h4]
/-- A burst is seen. -/
theorem rb_burst {f : Nat → Bool} {a n : Nat} (ho : ∀ i, i < n → (i < a ∨ a + 32 ≤ i) → f i = false) (h : rb n f 0#32 = 0#32) : ∀ i, i < n → f i = false := by
  by_cases ha : n ≤ a
  · exact fun i hi => ho i hi (.inl (by omega))
  have e1 : rb a f 0#32 = 0#32 := by rw [rb_congr (g := fun _ => false) (fun i hi => ho i (by omega) (.inl hi)), rb_none, turns_zero]
  obtain ⟨m, rfl⟩ : ∃ m, n = a + m := ⟨n - a, by omega⟩
  rw [rb_add, e1] at h
  have key : ∀ i, i < min m 32 → f (a + i) = false := by
    have e2 : rb (min m 32) (fun i => f (a + i)) 0#32 = 0#32 := by
      by_cases hm : m ≤ 32
      · rw [show min m 32 = m by omega]; exact h
      · obtain ⟨t, rfl⟩ : ∃ t, m = 32 + t := ⟨m - 32, by omega⟩
        rw [rb_add, rb_congr (g := fun _ => false) (fun i hi => ho _ (by omega) (.inr (by omega))), rb_none] at h
        rw [show min (32 + t) 32 = 32 by omega]
        exact turns_inj0 _ h
    rw [rb_pn _ _ _ (by omega)] at e2
    have e3 := turns_inj0 _ e2
    intro i hi
    have := congrArg (fun x : W32 => x.getLsbD i) e3
    simp only [BitVec.getLsbD_xor, BitVec.getLsbD_zero, Bool.false_xor] at this
    rw [pn_bit _ (by omega) (by omega)] at this
    simpa [hi] using this
  intro i hi
  by_cases c : i < a ∨ a + 32 ≤ i
  · exact ho i hi c
  · have := key (i - a) (by omega)
    rwa [show a + (i - a) = i by omega] at this
/-! ### Bytes -/
def by32 (c : UInt8) : W32 := BitVec.ofNat 32 c.toNat
def goB (n : W32) (c : UInt8) : W32 := turns 8 (n ^^^ by32 c)
def goL (n : W32) (l : List UInt8) : W32 := l.foldl goB n
/-- The sum. -/
def sumL (l : List UInt8) : W32 := goL (BitVec.allOnes 32) l ^^^ BitVec.allOnes 32
/-- The bit at a place. -/
def bitL (l : List UInt8) (i : Nat) : Bool := (l.getD (i / 8) 0).toNat.testBit (i % 8)
theorem by32_bit (c : UInt8) (i : Nat) (h : i < 32) : (by32 c).getLsbD i = c.toNat.testBit i := by
  unfold by32
  rw [BitVec.getLsbD_ofNat]
  simp [h]
theorem goB_rb (n : W32) (c : UInt8) : goB n c = rb 8 (fun i => c.toNat.testBit i) n := by
  rw [rb_pn _ _ _ (by omega)]
  unfold goB
  congr 2
  apply BitVec.eq_of_getLsbD_eq
  intro i hi
  rw [by32_bit c i hi, pn_bit _ (by omega) hi]
  by_cases h : i < 8
  · simp [h]
  · have : c.toNat < 2 ^ i := Nat.lt_of_lt_of_le c.toNat_lt (Nat.pow_le_pow_right (by omega) (by omega) : 2 ^ 8 ≤ 2 ^ i)
    simp [h, Nat.testBit_lt_two_pow this]
theorem bitL_cons (c : UInt8) (l : List UInt8) (i : Nat) : bitL (c :: l) (8 + i) = bitL l i := by
  unfold bitL
  rw [show (8 + i) / 8 = i / 8 + 1 by omega, show (8 + i) % 8 = i % 8 by omega]
  rfl
theorem goL_rb : ∀ (l : List UInt8) (n : W32), goL n l = rb (8 * l.length) (bitL l) n
  | [], n => rfl
  | c :: l, n => by
    show goL (goB n c) l = _
    rw [goL_rb l, List.length_cons, show 8 * (l.length + 1) = 8 + 8 * l.length by omega, rb_add]
    rw [goB_rb]
    congr 1
    funext i; rw [bitL_cons]
theorem getD_at {l : List UInt8} {j : Nat} (h : j < l.length) : l.getD j 0 = l[j] := by simp [List.getD, h]
theorem goL_append (n : W32) (a b : List UInt8) : goL n (a ++ b) = goL (goL n a) b := List.foldl_append
/-- Two rows of bytes, as long, that are alike but within 32 bits, and have the same register behind them: they are one. -/
theorem burst_eq {l m : List UInt8} {a : Nat} {r : W32} (hl : l.length = m.length) (ho : ∀ i, i < 8 * l.length → (i < a ∨ a + 32 ≤ i) → bitL l i = bitL m i) (h : goL r l = goL r m) : l = m := by
  rw [goL_rb, goL_rb, ← hl] at h
  have h2 : rb (8 * l.length) (fun i => bitL l i ^^ bitL m i) (r ^^^ r) = 0#32 := by rw [rb_xor, h, BitVec.xor_self]
  rw [BitVec.xor_self] at h2
  have h3 := rb_burst (a := a) (fun i hi hc => by rw [ho i hi hc]; simp) h2
  apply List.ext_getElem hl
  intro j h4 h5
  apply UInt8.eq_of_toBitVec_eq
  apply BitVec.eq_of_getLsbD_eq
  intro k hk
  have := h3 (8 * j + k) (by omega)
  unfold bitL at this
  rw [show (8 * j + k) / 8 = j by omega, show (8 * j + k) % 8 = k by omega, getD_at h4, getD_at h5] at this
  have e : ∀ c : UInt8, c.toBitVec.getLsbD k = c.toNat.testBit k := fun c => rfl
  rw [e, e]
  revert this
  cases l[j].toNat.testBit k <;> cases m[j].toNat.testBit k <;> simp
/-- A number's four bytes, the least first. -/
def le4 (x : W32) : List UInt8 := [UInt8.ofNat (x.toNat % 256), UInt8.ofNat (x.toNat / 256 % 256), UInt8.ofNat (x.toNat / 65536 % 256), UInt8.ofNat (x.toNat / 16777216 % 256)]
theorem bitL_le4 (x : W32) {i : Nat} (hi : i < 32) : bitL (le4 x) i = x.getLsbD i := by
  unfold bitL le4
  rw [BitVec.getLsbD]
  have hb : ∀ (n k : Nat), (UInt8.ofNat (n % 256)).toNat.testBit k = (decide (k < 8) && n.testBit k) := by
    intro n k
    rw [UInt8.toNat_ofNat', show (256 : Nat) = 2 ^ 8 by rfl, Nat.mod_mod_of_dvd _ (by decide), Nat.testBit_mod_two_pow]
  have hd : ∀ (n m k : Nat), (n / 2 ^ m).testBit k = n.testBit (m + k) := fun n m k => by rw [Nat.testBit_div_two_pow, Nat.add_comm]
  have hk : i / 8 = 0 ∨ i / 8 = 1 ∨ i / 8 = 2 ∨ i / 8 = 3 := by omega
  rcases hk with h | h | h | h <;> rw [h]
  · simp only [List.getD_cons_zero, hb]
    rw [show i % 8 = i by omega]
    simp [show i < 8 by omega]
  · simp only [List.getD_cons_succ, List.getD_cons_zero, hb]
    rw [show (256 : Nat) = 2 ^ 8 by rfl, hd, show 8 + i % 8 = i by omega]
    simp [show i % 8 < 8 by omega]
  · simp only [List.getD_cons_succ, List.getD_cons_zero, hb]
    rw [show (65536 : Nat) = 2 ^ 16 by rfl, hd, show 16 + i % 8 = i by omega]
    simp [show i % 8 < 8 by omega]
  · simp only [List.getD_cons_succ, List.getD_cons_zero, hb]
    rw [show (16777216 : Nat) = 2 ^ 24 by rfl, hd, show 24 + i % 8 = i by omega]
    simp [show i % 8 < 8 by omega]
theorem goL_le4 (r x : W32) : goL r (le4 x) = turns 32 (r ^^^ x) := by
  rw [goL_rb, show 8 * (le4 x).length = 32 by rfl, rb_pn _ _ _ (by omega)]
  congr 2
  apply BitVec.eq_of_getLsbD_eq
  intro i hi
  rw [pn_bit _ (by omega) hi, bitL_le4 x hi]
  simp [hi]
/-- Bytes with their sum behind them have one register. -/
theorem goL_summed (l : List UInt8) : goL (BitVec.allOnes 32) (l ++ le4 (sumL l)) = turns 32 (BitVec.allOnes 32) := by
  rw [goL_append, goL_le4, sumL, ← BitVec.xor_assoc, BitVec.xor_self, BitVec.zero_xor]
theorem le4_inj {x y : W32} (h : le4 x = le4 y) : x = y := by
  apply BitVec.eq_of_getLsbD_eq
  intro i hi
  rw [← bitL_le4 x hi, ← bitL_le4 y hi, h]
/-- The number that four bytes are. -/
def of4 (a b c d : UInt8) : W32 := BitVec.ofNat 32 (a.toNat + 256 * b.toNat + 65536 * c.toNat + 16777216 * d.toNat)
theorem of4_toNat (a b c d : UInt8) : (of4 a b c d).toNat = a.toNat + 256 * b.toNat + 65536 * c.toNat + 16777216 * d.toNat := by
  unfold of4
  have := a.toNat_lt; have := b.toNat_lt; have := c.toNat_lt; have := d.toNat_lt
  rw [BitVec.toNat_ofNat, Nat.mod_eq_of_lt (by omega)]
theorem le4_of4 (a b c d : UInt8) : le4 (of4 a b c d) = [a, b, c, d] := by
  unfold le4
  rw [of4_toNat]
  have ha := a.toNat_lt; have hb := b.toNat_lt; have hc := c.toNat_lt; have hd := d.toNat_lt
  have e : ∀ (x : UInt8) (n : Nat), n = x.toNat → UInt8.ofNat n = x := fun x n h => by rw [h]; exact UInt8.ofNat_toNat
  rw [e a _ (by omega), e b _ (by omega), e c _ (by omega), e d _ (by omega)]
theorem of4_le4 (x : W32) : of4 (UInt8.ofNat (x.toNat % 256)) (UInt8.ofNat (x.toNat / 256 % 256)) (UInt8.ofNat (x.toNat / 65536 % 256)) (UInt8.ofNat (x.toNat / 16777216 % 256)) = x := by
  apply le4_inj
  rw [le4_of4]
  rfl
/-- Two rows of bytes, each with its sum behind it, as long, alike but within 32 bits: they are one. -/
theorem summed_eq {l m : List UInt8} {a : Nat} (hl : l.length = m.length) (ho : ∀ i, i < 8 * (l.length + 4) → (i < a ∨ a + 32 ≤ i) → bitL (l ++ le4 (sumL l)) i = bitL (m ++ le4 (sumL m)) i) : l ++ le4 (sumL l) = m ++ le4 (sumL m) := by
  refine burst_eq (a := a) (r := BitVec.allOnes 32) (by simp [hl, le4]) (fun i hi hc => ho i ?_ hc) (by rw [goL_summed, goL_summed])
  simpa [le4] using hi
/-! ### The table -/
def tab (i : Nat) : W32 := turns 8 (BitVec.ofNat 32 i)
theorem goB_tab (n : W32) (c : UInt8) : goB n c = tab ((n.toNat % 256) ^^^ c.toNat) ^^^ (n >>> 8) := by
  have hn : n ^^^ by32 c = BitVec.ofNat 32 ((n.toNat % 256) ^^^ c.toNat) ^^^ ((n >>> 8) <<< 8) := by
    apply BitVec.eq_of_getLsbD_eq
    intro i hi
    rw [BitVec.getLsbD_xor, by32_bit c i hi, BitVec.getLsbD_xor, BitVec.getLsbD_ofNat, BitVec.getLsbD_shiftLeft, BitVec.getLsbD_ushiftRight, Nat.testBit_xor, show (256 : Nat) = 2 ^ 8 by rfl, Nat.testBit_mod_two_pow]
    have e : n.toNat.testBit i = n.getLsbD i := rfl
    by_cases h : i < 8
    · simp [hi, h, e]
    · have hc : c.toNat.testBit i = false := Nat.testBit_lt_two_pow (Nat.lt_of_lt_of_le c.toNat_lt (Nat.pow_le_pow_right (by omega) (by omega) : 2 ^ 8 ≤ 2 ^ i))
      simp [hi, h, hc, show 8 + (i - 8) = i by omega]
  unfold goB tab
  rw [hn, turns_xor]
  congr 1
  have := turns_shl (x := n >>> 8) (j := 0) (k := 8) (by
    rw [BitVec.toNat_ushiftRight, Nat.shiftRight_eq_div_pow]
    have := n.isLt
    omega) (by omega)
  rw [Nat.zero_add] at this
  rw [this]
  simp
end Go.SX.Crc
