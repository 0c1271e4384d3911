import Derived.Test.YtodgnegbaigdbaaVca
namespace Go.Proofs.Ytodgnegbaigdbaa
open Go Go.SX Go.Proofs
set_option maxRecDepth 100000
set_option linter.unusedVariables false

theorem noNGp : noNG Try.prog := by
  have h : (Try.prog.funcs.toList.all (fun fn => !(fn.name == "runtime.NumGoroutine"))) = true := by kernel_rfl
  exact h
theorem mixed : Try.prog.follows .mixedOrders = true := by kernel_rfl
theorem ent {k : FuncId} {fn : Func} {ann : List (Nat × LoopAnn)} {w : World} {R : Value → World → Prop} (args : List Value) (hf : Try.prog.funcs[k]? = some fn)
    (h : vcFn Try.prog ann fn (args.map SV.v) [] w (fun e w' => ∃ v, e = .returned v ∧ R v w')) : Rets Try.prog k args.toArray w R := by
  have := vcFn_sound noNGp mixed hf Sat.plain h
  simp only [List.map_map] at this
  have e : args.map (SV.val ∘ SV.v) = args := by
    rw [show (SV.val ∘ SV.v) = id from rfl]; simp
  rw [e] at this
  exact this

/-! ### Hashes -/
theorem pow2_le {k n : Nat} (h : k ≤ n) : 2 ^ k ≤ 2 ^ n := Nat.pow_le_pow_right (by omega) h
theorem c47 (p k : Int) (w : World) (hp : 0 ≤ p ∧ p < 256) (hk : 0 ≤ k ∧ k < 100) : Rets Try.prog 47 #[.int .u8 p, .int .i64 k] w fun v w' => v = .int .i64 (p / 2 ^ k.toNat % 2) ∧ w' = w := by
  refine ent [_, _] Try.func47 ((vcTry47 p k w _).mpr ?_)
  unfold VCTry47
  refine wr64 (by omega) ?_
  refine ⟨fun i n w' => (0 ≤ i ∧ i ≤ k) ∧ n = p / 2 ^ i.toNat ∧ w' = w, fun i _ _ => (k - i).toNat, ⟨by omega, by simp, rfl⟩, ?_⟩
  rintro i n w' ⟨hi, rfl, rfl⟩
  have hq : 0 ≤ p / 2 ^ i.toNat := Int.ediv_nonneg hp.1 (Int.le_of_lt (Int.pow_pos (by omega)))
  refine bif_dec (fun h => ⟨by omega, ?_⟩) (fun h => ⟨by omega, ?_⟩)
  · have h2 : p / 2 ^ i.toNat ≤ p := Int.ediv_le_self _ hp.1
    have h3 : (p / 2 ^ i.toNat).tdiv 2 = p / 2 ^ (i + 1).toNat := by
      rw [Int.tdiv_eq_ediv_of_nonneg hq, show (i + 1).toNat = i.toNat + 1 by omega, Int.pow_succ, Int.ediv_ediv_of_nonneg (Int.le_of_lt (Int.pow_pos (by omega)))]
    rw [h3]
    refine wr64 ?_ (wr64 (by omega) ⟨⟨by omega, rfl, rfl⟩, by dsimp only; omega⟩)
    have := Int.ediv_nonneg (b := 2 ^ (i + 1).toNat) hp.1 (Int.le_of_lt (Int.pow_pos (by omega)))
    have := Int.ediv_le_self (2 ^ (i + 1).toNat) hp.1
    omega
  · have : i = k := by omega
    subst this
    exact ⟨_, rfl, by rw [Int.tmod_eq_emod_of_nonneg hq], rfl⟩

def hashN (a b c : Nat) : Nat := (a <<< 10) ^^^ (b <<< 5) ^^^ c
/-- The hash of three bytes. -/
def hashI (a b c : Int) : Int := (hashN a.toNat b.toNat c.toNat % 4096 : Nat)
theorem bit_mod (n k : Nat) : n % 2 ^ (k + 1) = n % 2 ^ k + 2 ^ k * (n / 2 ^ k % 2) := Nat.mod_pow_succ
theorem hash_bit (a b c k : Nat) (hc : c < 256) :
    ((if 10 ≤ k then a / 2 ^ (k - 10) % 2 else 0) + (if 5 ≤ k then b / 2 ^ (k - 5) % 2 else 0) + (if k < 8 then c / 2 ^ k % 2 else 0)) % 2 = hashN a b c / 2 ^ k % 2 := by
  have h3 : (if k < 8 then c / 2 ^ k % 2 else 0) = c / 2 ^ k % 2 := by
    split
    · rfl
    · have : c < 2 ^ k := Nat.lt_of_lt_of_le hc (by have := pow2_le (show 8 ≤ k by omega); simpa using this)
      rw [Nat.div_eq_of_lt this]
  rw [h3]
  simp only [← Nat.toNat_testBit]
  have h1 : (if 10 ≤ k then (a.testBit (k - 10)).toNat else 0) = ((a <<< 10).testBit k).toNat := by
    rw [Nat.testBit_shiftLeft]
    split
    · rename_i h; simp [h]
    · rename_i h; simp [h]
  have h2 : (if 5 ≤ k then (b.testBit (k - 5)).toNat else 0) = ((b <<< 5).testBit k).toNat := by
    rw [Nat.testBit_shiftLeft]
    split
    · rename_i h; simp [h]
    · rename_i h; simp [h]
  rw [h1, h2, hashN, Nat.testBit_xor, Nat.testBit_xor]
  generalize (a <<< 10).testBit k = x
  generalize (b <<< 5).testBit k = y
  generalize c.testBit k = z
  cases x <;> cases y <;> cases z <;> rfl
theorem c17 (a b c : Int) (w : World) (ha : 0 ≤ a ∧ a < 256) (hb : 0 ≤ b ∧ b < 256) (hc : 0 ≤ c ∧ c < 256) : Rets Try.prog 17 #[.int .u8 a, .int .u8 b, .int .u8 c] w fun v w' => v = .int .i64 (hashI a b c) ∧ w' = w := by
  refine ent [_, _, _] Try.func17 ((vcTry17 a b c w _).mpr ?_)
  unfold VCTry17
  obtain ⟨A, rfl⟩ := Int.eq_ofNat_of_zero_le ha.1
  obtain ⟨B, rfl⟩ := Int.eq_ofNat_of_zero_le hb.1
  obtain ⟨C, rfl⟩ := Int.eq_ofNat_of_zero_le hc.1
  refine ⟨fun i p o w' => (0 ≤ i ∧ i ≤ 12) ∧ p = (2 ^ i.toNat : Nat) ∧ o = (hashN A B C % 2 ^ i.toNat : Nat) ∧ w' = w, fun i _ _ _ => (12 - i).toNat, ⟨by omega, by simp, by simp [Nat.mod_one], rfl⟩, ?_⟩
  rintro i p o w' ⟨hi, rfl, rfl, rfl⟩
  refine bif_dec (fun h12 => ?_) (fun h12 => ?_)
  rotate_left
  · have : i = 12 := by omega
    subst this
    exact ⟨_, rfl, rfl, rfl⟩
  obtain ⟨k, rfl⟩ := Int.eq_ofNat_of_zero_le hi.1
  simp only [Int.toNat_natCast]
  have hk : k < 12 := by omega
  have hp : 2 ^ k ≤ 2 ^ 12 := pow2_le (by omega)
  have ho : hashN A B C % 2 ^ k < 2 ^ k := Nat.mod_lt _ (Nat.two_pow_pos k)
  have hbit := hash_bit A B C k (by omega)
  have leaf : ∀ n : Int, (0 ≤ n ∧ n ≤ 3) → n % 2 = ((hashN A B C / 2 ^ k % 2 : Nat) : Int) → ∀ K : Int → Int → Int → Prop, K (k + 1) ((2 ^ (k + 1) : Nat) : Int) ((hashN A B C % 2 ^ (k + 1) : Nat) : Int) →
      ((2 : Int) ≠ 0 ∧ Wr .i64 (((2 ^ k : Nat) : Int) * n.tmod 2) fun x => Wr .i64 (((hashN A B C % 2 ^ k : Nat) : Int) + x) fun y => Wr .i64 (2 * ((2 ^ k : Nat) : Int)) fun z => Wr .i64 ((k : Int) + 1) fun u => K u z y) := by
    intro n hn hm K hK
    refine ⟨by omega, ?_⟩
    rw [Int.tmod_eq_emod_of_nonneg hn.1, hm]
    have h2 : hashN A B C / 2 ^ k % 2 < 2 := Nat.mod_lt _ (by omega)
    have h3 : ((2 ^ k : Nat) : Int) * ((hashN A B C / 2 ^ k % 2 : Nat) : Int) = ((2 ^ k * (hashN A B C / 2 ^ k % 2) : Nat) : Int) := by simp
    rw [h3]
    have h4 : 2 ^ k * (hashN A B C / 2 ^ k % 2) ≤ 2 ^ k * 1 := Nat.mul_le_mul_left _ (by omega)
    have h5 := bit_mod (hashN A B C) k
    refine wr64 (by omega) (wr64 (by omega) (wr64 (by omega) (wr64 (by omega) ?_)))
    have h7 : ((hashN A B C % 2 ^ k : Nat) : Int) + ((2 ^ k * (hashN A B C / 2 ^ k % 2) : Nat) : Int) = ((hashN A B C % 2 ^ (k + 1) : Nat) : Int) := by rw [h5]; simp
    have h6 : (2 : Int) * ((2 ^ k : Nat) : Int) = ((2 ^ (k + 1) : Nat) : Int) := by rw [Nat.pow_succ]; omega
    rw [h6, h7]
    exact hK
  have call : ∀ (p q : Int) (K : Int → World → Prop), (0 ≤ p ∧ p < 256) → (0 ≤ q ∧ q < 100) → K (p / 2 ^ q.toNat % 2) w' → Rets Try.prog 47 #[.int .u8 p, .int .i64 q] w' fun v w'' => ∃ i, v = .int .i64 i ∧ Keeps w' w'' [] ∧ K i w'' := by
    intro p q K hp hq hK
    refine (c47 p q w' hp hq).mono ?_
    rintro v w'' ⟨rfl, rfl⟩
    exact ⟨_, rfl, (Kp.refl none_ _).keeps0, hK⟩
  have cast : ∀ (X j : Nat) (z : Int), z.toNat = j → (X : Int) / 2 ^ z.toNat % 2 = ((X / 2 ^ j % 2 : Nat) : Int) := by
    intro X j z h; rw [h]; simp
  have b1 : (if 10 ≤ k then A / 2 ^ (k - 10) % 2 else 0) < 2 := by split <;> omega
  have b2 : (if 5 ≤ k then B / 2 ^ (k - 5) % 2 else 0) < 2 := by split <;> omega
  have b3 : (if k < 8 then C / 2 ^ k % 2 else 0) < 2 := by split <;> omega
  have f1 : 10 ≤ k → (A : Int) / 2 ^ ((k : Int) - 10).toNat % 2 = ((if 10 ≤ k then A / 2 ^ (k - 10) % 2 else 0 : Nat) : Int) := fun h => by rw [if_pos h, cast A (k - 10) _ (by omega)]
  have f2 : 5 ≤ k → (B : Int) / 2 ^ ((k : Int) - 5).toNat % 2 = ((if 5 ≤ k then B / 2 ^ (k - 5) % 2 else 0 : Nat) : Int) := fun h => by rw [if_pos h, cast B (k - 5) _ (by omega)]
  have f3 : k < 8 → (C : Int) / 2 ^ ((k : Int)).toNat % 2 = ((if k < 8 then C / 2 ^ k % 2 else 0 : Nat) : Int) := fun h => by rw [if_pos h, cast C k _ (by omega)]
  have g1 : ¬ 10 ≤ k → (if 10 ≤ k then A / 2 ^ (k - 10) % 2 else 0) = 0 := fun h => if_neg h
  have g2 : ¬ 5 ≤ k → (if 5 ≤ k then B / 2 ^ (k - 5) % 2 else 0) = 0 := fun h => if_neg h
  have g3 : ¬ k < 8 → (if k < 8 then C / 2 ^ k % 2 else 0) = 0 := fun h => if_neg h
  generalize (if 10 ≤ k then A / 2 ^ (k - 10) % 2 else 0) = x1 at *
  generalize (if 5 ≤ k then B / 2 ^ (k - 5) % 2 else 0) = x2 at *
  generalize (if k < 8 then C / 2 ^ k % 2 else 0) = x3 at *
  have hk1 : ((k : Int) + 1).toNat = k + 1 := by omega
  have fin : (fun (i p o : Int) (w'_1 : World) => (0 ≤ i ∧ i ≤ 12) ∧ p = ((2 ^ i.toNat : Nat) : Int) ∧ o = ((hashN A B C % 2 ^ i.toNat : Nat) : Int) ∧ w'_1 = w') (k + 1) ((2 ^ (k + 1) : Nat) : Int) ((hashN A B C % 2 ^ (k + 1) : Nat) : Int) w' := by
    exact ⟨by omega, by rw [hk1], by rw [hk1], rfl⟩
  refine bif_dec (fun h10 => ?_) (fun h10 => ?_) <;> refine (if hh : 10 ≤ k then ?_ else ?_) <;> first
    | (exfalso; omega)
    | skip
  · have e1 := f1 hh
    refine wr64 (by omega) (call _ _ _ (by omega) (by omega) (wr64 (by omega) ?_))
    refine bif_dec (fun h5 => wr64 (by omega) (call _ _ _ (by omega) (by omega) (wr64 (by omega) ?_))) (fun h5 => by exfalso; omega)
    have e2 := f2 (by omega)
    refine bif_dec (fun h8 => by exfalso; omega) (fun h8 => ?_)
    exact leaf _ (by omega) (by omega) _ ⟨fin, by first | (dsimp only; omega) | omega⟩
  · refine bif_dec (fun h5 => wr64 (by omega) (call _ _ _ (by omega) (by omega) (wr64 (by omega) ?_))) (fun h5 => ?_)
    · have e2 := f2 (by omega)
      refine bif_dec (fun h8 => call _ _ _ (by omega) (by omega) (wr64 (by omega) ?_)) (fun h8 => ?_)
      · have e3 := f3 (by omega)
        exact leaf _ (by omega) (by omega) _ ⟨fin, by first | (dsimp only; omega) | omega⟩
      · exact leaf _ (by omega) (by omega) _ ⟨fin, by first | (dsimp only; omega) | omega⟩
    · refine bif_dec (fun h8 => call _ _ _ (by omega) (by omega) (wr64 (by omega) ?_)) (fun h8 => by exfalso; omega)
      have e3 := f3 (by omega)
      exact leaf _ (by omega) (by omega) _ ⟨fin, by first | (dsimp only; omega) | omega⟩
theorem c16 (a b c : Int) (w : World) (ha : 0 ≤ a ∧ a < 256) (hb : 0 ≤ b ∧ b < 256) (hc : 0 ≤ c ∧ c < 256) : Rets Try.prog 16 #[.int .u8 a, .int .u8 b, .int .u8 c] w fun v w' => v = .int .i64 (hashI a b c) ∧ w' = w := by
  refine ent [_, _, _] Try.func16 ((vcTry16 a b c w _).mpr ?_)
  unfold VCTry16
  obtain ⟨A, rfl⟩ := Int.eq_ofNat_of_zero_le ha.1
  obtain ⟨B, rfl⟩ := Int.eq_ofNat_of_zero_le hb.1
  obtain ⟨C, rfl⟩ := Int.eq_ofNat_of_zero_le hc.1
  have hA : shlI .i64 (A : Int) 10 = ((A <<< 10 : Nat) : Int) := by rw [Nat.shiftLeft_eq]; simp [shlI, IntKind.bits]
  have hB : shlI .i64 (B : Int) 5 = ((B <<< 5 : Nat) : Int) := by rw [Nat.shiftLeft_eq]; simp [shlI, IntKind.bits]
  have bA : A <<< 10 < 2 ^ 18 := by rw [Nat.shiftLeft_eq]; omega
  have bB : B <<< 5 < 2 ^ 18 := by rw [Nat.shiftLeft_eq]; omega
  have bAB : A <<< 10 ^^^ B <<< 5 < 2 ^ 18 := Nat.xor_lt_two_pow bA bB
  refine wr64 (by omega) ⟨by omega, ?_⟩
  rw [hA]
  refine wr64 (by omega) (wr64 (by omega) ⟨by omega, ?_⟩)
  rw [hB]
  refine wr64 (by omega) (wr64 (by omega) ?_)
  refine ⟨_, rfl, ?_, rfl⟩
  have bH : hashN A B C < 2 ^ 18 := Nat.xor_lt_two_pow bAB (by omega)
  rw [xorI_nat (by omega) (by omega), xorI_nat (by omega) (by omega), show (4095 : Int) = ((4095 : Nat) : Int) from rfl]
  rw [show (A <<< 10 ^^^ B <<< 5) ^^^ C = hashN A B C from rfl, andI_nat (by omega) (by omega)]
  rw [show (4095 : Nat) = 2 ^ 12 - 1 from rfl, Nat.and_two_pow_sub_one_eq_mod]
  rfl
end Go.Proofs.Ytodgnegbaigdbaa
