import Derived.Test.YtodgnegbaigdbaaCb
namespace Go.Proofs.Ytodgnegbaigdbaa
open Go Go.SX Go.Proofs
set_option maxRecDepth 100000
set_option linter.unusedVariables false

/-- One more than the place ahead in the chain, or 0. -/
def prevAt (b : Int → Int) (n : Nat) (at_ : Int) : Int := if 0 ≤ at_ ∧ at_ ≤ n - 3 then headV b at_.toNat (hashAt b at_) else 0
theorem headV_range (b : Int → Int) (m : Nat) (h : Int) : 0 ≤ headV b m h ∧ headV b m h ≤ m := lastN_range _ _
theorem c37 {w : World} {own : Nat → Prop} {B : Nat} {q : Option Addr} {n : Nat} {b : Int → Int} {m : Nat} (hc : Chn w own B q n b m) (at_ : Int) :
    Rets Try.prog 37 #[.pointer (some ⟨B, 0, none⟩), .int .i64 at_] w fun v w' =>
      v = .tuple #[.int .i64 (if prevAt b n at_ = 0 then 0 else prevAt b n at_ - 1), .bool (decide (prevAt b n at_ ≠ 0))] ∧ Kp own w w' ∧ ∃ m', Chn w' (fun i => own i ∨ fresh w i) B q n b m' := by
  refine ent [_, _] Try.func37 ((vcTry37 _ _ w _).mpr ?_)
  unfold VCTry37
  have hn := hc.nb
  refine (c48 hc at_).mono ?_
  rintro v w1 ⟨rfl, rfl⟩
  refine ⟨_, rfl, (Kp.refl none_ _).keeps0, ?_⟩
  refine bif_not (fun h => ?_) (fun h => ?_)
  · have h := of_decide_eq_false h
    have hp : prevAt b n at_ = 0 := if_neg h
    exact ⟨_, rfl, by rw [hp]; rfl, Kp.refl _ _, m, hc.later⟩
  have h := of_decide_eq_true h
  have hp : prevAt b n at_ = headV b at_.toNat (hashAt b at_) := if_pos h
  refine (c54 hc at_ (by omega)).mono ?_
  rintro v w2 ⟨rfl, hk, hch⟩
  refine ⟨rfl, hk.keeps0, ?_⟩
  obtain ⟨pv, p1, p2⟩ := hch.prev
  obtain ⟨pq, pc, rfl⟩ := p2.slice
  obtain ⟨a, rfl, ha⟩ := p2.at (prevL_get b (max m (at_.toNat + 1)) at_.toNat (by omega))
  have hA : ((at_.toNat : Nat) : Int) = at_ := by omega
  rw [hA] at ha
  have hr := headV_range b at_.toNat (hashAt b at_)
  simp only [ptr_some, ad_add, Nat.zero_add, Nat.add_zero, Nat.mul_one]
  refine ⟨_, _, _, p1, ⟨by omega, by omega⟩, _, ha, ?_⟩
  refine bif_eq (fun e => ?_) (fun e => ?_)
  · exact ⟨_, rfl, by rw [hp, e]; rfl, hk, _, hch⟩
  · refine ⟨_, _, _, p1, ⟨by omega, by omega⟩, _, ha, wr64 (by omega) ⟨_, rfl, ?_, hk, _, hch⟩⟩
    rw [hp, if_neg e]
    simp [e]

theorem c49 {w : World} {own : Nat → Prop} {B : Nat} {q : Option Addr} {n : Nat} {b : Int → Int} {m : Nat} (hc : Chn w own B q n b m) (at_ to : Int) (h1 : 0 ≤ at_ ∧ at_ + 3 ≤ n) (h2 : 0 ≤ to ∧ to + 3 ≤ n) :
    Rets Try.prog 49 #[.pointer (some ⟨B, 0, none⟩), .int .i64 at_, .int .i64 to] w fun v w' => v = .bool (decide (b at_ = b to ∧ b (at_ + 1) = b (to + 1) ∧ b (at_ + 2) = b (to + 2))) ∧ w' = w.drew := by
  refine ent [_, _, _] Try.func49 ((vcTry49 _ _ _ w _).mpr ?_)
  unfold VCTry49
  obtain ⟨cp, hcp, h0⟩ := hc.c0
  have hn := hc.nb
  obtain ⟨A, rfl⟩ := Int.eq_ofNat_of_zero_le h1.1
  obtain ⟨T, rfl⟩ := Int.eq_ofNat_of_zero_le h2.1
  simp only [ptr_some, ad_add, Nat.zero_add, Nat.add_zero]
  have e1 : ((A : Int) + 3).toNat - ((A : Int)).toNat = 3 := by omega
  have e2 : ((T : Int) + 3).toNat - ((T : Int)).toNat = 3 := by omega
  refine ⟨_, _, _, h0, wr64 (by omega) ⟨by omega, by omega, strOf b A 3, by rw [strOf_size, e1], hc.bytes.str hc.rng cp A 3 (by omega) hcp, ?_⟩⟩
  refine ⟨_, _, _, h0, wr64 (by omega) ⟨by omega, by omega, strOf b T 3, by rw [strOf_size, e2], hc.bytes.str hc.rng cp T 3 (by omega) hcp, ?_⟩⟩
  refine ⟨_, rfl, ?_, trivial⟩
  congr 1
  rw [Bool.eq_iff_iff, strOf_beq b A T 3 (fun i hi => hc.rng _ (by omega) (by omega)) (fun i hi => hc.rng _ (by omega) (by omega)), decide_eq_true_iff]
  constructor
  · intro h
    have a0 := h 0 (by omega)
    have a1 := h 1 (by omega)
    have a2 := h 2 (by omega)
    simp at a0 a1 a2
    exact ⟨a0, a1, a2⟩
  · rintro ⟨a0, a1, a2⟩ i hi
    match i, hi with
    | 0, _ => simpa using a0
    | 1, _ => simpa using a1
    | 2, _ => simpa using a2

/-- How many bytes from i on are as d places before, up to k. -/
def runL (b : Int → Int) (d : Int) : Nat → Int → Nat
  | 0, _ => 0
  | k + 1, i => if b i = b (i - d) then runL b d k (i + 1) + 1 else 0
theorem runL_le (b : Int → Int) (d : Int) : ∀ k i, runL b d k i ≤ k
  | 0, _ => Nat.le_refl _
  | k + 1, i => by have := runL_le b d k (i + 1); unfold runL; split <;> omega
/-- The length of a match. -/
def lenF (b : Int → Int) (n : Nat) (at_ d : Int) : Int :=
  if at_ < 0 ∨ at_ ≥ n ∨ d < 1 ∨ d > 32768 ∨ d > at_ then 0 else runL b d (min 258 (n - at_)).toNat at_
theorem runL_step {b : Int → Int} {d : Int} {k : Nat} {i : Int} (hk : 0 < k) (h : b i = b (i - d)) : runL b d k i = runL b d (k - 1) (i + 1) + 1 := by
  obtain ⟨j, rfl⟩ : ∃ j, k = j + 1 := ⟨k - 1, by omega⟩
  simp [runL, h]
theorem runL_stop {b : Int → Int} {d : Int} {k : Nat} {i : Int} (h : b i ≠ b (i - d)) : runL b d k i = 0 := by
  cases k <;> simp [runL, h]
theorem c23 {w : World} {q : Option Addr} {n cp : Nat} {b : Int → Int} (hb : Ints w .u8 q n b) (hn : n ≤ 2147483647) (at_ d : Int) :
    Rets Try.prog 23 #[.slice q n cp, .int .i64 at_, .int .i64 d] w fun v w' => v = .int .i64 (lenF b n at_ d) ∧ Kp none_ w w' := by
  refine ent [_, _, _] Try.func23 ((vcTry23 _ _ _ _ _ w _).mpr ?_)
  unfold VCTry23
  have z : ∀ h : (at_ < 0 ∨ at_ ≥ n ∨ d < 1 ∨ d > 32768 ∨ d > at_), lenF b n at_ d = 0 := fun h => if_pos h
  refine bif_dec (fun h => ⟨_, rfl, by rw [z (by omega)], Kp.refl _ _⟩) (fun g1 => ?_)
  refine bif_dec (fun h => ⟨_, rfl, by rw [z (by omega)], Kp.refl _ _⟩) (fun g2 => ?_)
  refine bif_dec (fun h => ⟨_, rfl, by rw [z (by omega)], Kp.refl _ _⟩) (fun g3 => ?_)
  refine bif_dec (fun h => ⟨_, rfl, by rw [z (by omega)], Kp.refl _ _⟩) (fun g4 => ?_)
  refine bif_dec (fun h => ⟨_, rfl, by rw [z (by omega)], Kp.refl _ _⟩) (fun g5 => ?_)
  have hL : lenF b n at_ d = runL b d (min 258 (n - at_)).toNat at_ := if_neg (by omega)
  rw [hL]
  refine ⟨fun i w' => 0 ≤ i ∧ i ≤ min 258 (n - at_) ∧ Kp none_ w w' ∧ (runL b d (min 258 (n - at_)).toNat at_ : Int) = i + runL b d (min 258 (n - at_) - i).toNat (at_ + i), fun i _ => (258 - i).toNat,
    ⟨by omega, by omega, Kp.refl _ _, by simp⟩, ?_⟩
  rintro i w' ⟨i0, i1, hk, hi⟩
  have hb' := hb.kp0 hk
  have stop : (min 258 ((n : Int) - at_) - i).toNat = 0 → (runL b d (min 258 (n - at_)).toNat at_ : Int) = i := fun h => by rw [hi, h]; simp [runL]
  refine bif_dec (fun h1 => ?_) (fun h1 => ⟨_, rfl, by rw [stop (by omega)], hk.drew⟩)
  refine wr64 (by omega) (bif_dec (fun h2 => ?_) (fun h2 => ⟨_, rfl, by rw [stop (by omega)], hk.drew⟩))
  refine wr64 (by omega) (hb'.get (by omega) (by omega) fun a1 _ => wr64 (by omega) (wr64 (by omega) (hb'.get (by omega) (by omega) fun a2 _ => ?_)))
  refine bif_eq (fun e => wr64 (by omega) ⟨⟨by omega, by omega, hk.drew, ?_⟩, by first | omega | (dsimp only; omega)⟩) (fun e => ⟨_, rfl, ?_, hk.drew⟩)
  · rw [hi, runL_step (by omega) e, show at_ + i + 1 = at_ + (i + 1) by omega, show (min 258 ((n : Int) - at_) - i).toNat - 1 = (min 258 ((n : Int) - at_) - (i + 1)).toNat by omega]
    omega
  · rw [hi, runL_stop e]; simp
theorem c24 {w : World} {q : Option Addr} {n cp : Nat} {b : Int → Int} (hb : Ints w .u8 q n b) (hn : n ≤ 2147483647) (at_ d : Int) :
    Rets Try.prog 24 #[.slice q n cp, .int .i64 at_, .int .i64 d] w fun v w' => v = .int .i64 (lenF b n at_ d) ∧ Kp none_ w w' := by
  refine ent [_, _, _] Try.func24 ((vcTry24 _ _ _ _ _ w _).mpr ?_)
  unfold VCTry24
  have z : ∀ h : (at_ < 0 ∨ at_ ≥ n ∨ d < 1 ∨ d > 32768 ∨ d > at_), lenF b n at_ d = 0 := fun h => if_pos h
  refine bif_dec (fun h => ⟨_, rfl, by rw [z (by omega)], Kp.refl _ _⟩) (fun g1 => ?_)
  refine bif_dec (fun h => ⟨_, rfl, by rw [z (by omega)], Kp.refl _ _⟩) (fun g2 => ?_)
  refine bif_dec (fun h => ⟨_, rfl, by rw [z (by omega)], Kp.refl _ _⟩) (fun g3 => ?_)
  refine bif_dec (fun h => ⟨_, rfl, by rw [z (by omega)], Kp.refl _ _⟩) (fun g4 => ?_)
  refine bif_dec (fun h => ⟨_, rfl, by rw [z (by omega)], Kp.refl _ _⟩) (fun g5 => ?_)
  have hL : lenF b n at_ d = runL b d (min 258 (n - at_)).toNat at_ := if_neg (by omega)
  rw [hL]
  refine ⟨fun i j w' => 0 ≤ i ∧ i ≤ min 258 (n - at_) ∧ j = at_ + i ∧ Kp none_ w w' ∧ (runL b d (min 258 (n - at_)).toNat at_ : Int) = i + runL b d (min 258 (n - at_) - i).toNat (at_ + i), fun i _ _ => (258 - i).toNat,
    ⟨by omega, by omega, by omega, Kp.refl _ _, by simp⟩, ?_⟩
  rintro i j w' ⟨i0, i1, rfl, hk, hi⟩
  have hb' := hb.kp0 hk
  have stop : (min 258 ((n : Int) - at_) - i).toNat = 0 → (runL b d (min 258 (n - at_)).toNat at_ : Int) = i := fun h => by rw [hi, h]; simp [runL]
  refine bif_dec (fun h1 => ?_) (fun h1 => ⟨_, rfl, by rw [stop (by omega)], hk⟩)
  refine bif_dec (fun h2 => ?_) (fun h2 => ⟨_, rfl, by rw [stop (by omega)], hk⟩)
  refine hb'.get (by omega) (by omega) fun a1 _ => wr64 (by omega) (hb'.get (by omega) (by omega) fun a2 _ => ?_)
  refine bif_ne (fun e => ⟨_, rfl, ?_, hk.drew⟩) (fun e => wr64 (by omega) (wr64 (by omega) ⟨⟨by omega, by omega, by omega, hk.drew, ?_⟩, by first | omega | (dsimp only; omega)⟩))
  · rw [hi, runL_stop e]; simp
  · rw [hi, runL_step (by omega) e, show at_ + i + 1 = at_ + (i + 1) by omega, show (min 258 ((n : Int) - at_) - i).toNat - 1 = (min 258 ((n : Int) - at_) - (i + 1)).toNat by omega]
    omega
end Go.Proofs.Ytodgnegbaigdbaa
