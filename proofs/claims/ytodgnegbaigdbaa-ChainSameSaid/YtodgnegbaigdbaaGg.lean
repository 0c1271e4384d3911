import Derived.Test.YtodgnegbaigdbaaGf
import Derived.Test.YtodgnegbaigdbaaVcf
namespace Go.Proofs.Ytodgnegbaigdbaa
open Go Go.SX Go.Proofs
set_option maxRecDepth 100000
set_option linter.unusedVariables false
set_option linter.unusedSimpArgs false
section
variable {w w' : World} {q : Option Addr} {n cp : Nat} {b : Int → Int}
def atF (b : Int → Int) (n : Nat) (p : Int) : Int := if 0 ≤ p ∧ p + 3 ≤ n then hashAt b p else -1
theorem c55 (hb : Ints w .u8 q n b) (hr : ∀ i : Int, 0 ≤ i → i < n → 0 ≤ b i ∧ b i < 256) (hn : n ≤ 2147483647) (p : Int) :
    Rets Try.prog 55 #[.slice q n cp, .int .i64 p] w fun v w' => v = .int .i64 (atF b n p) ∧ Kp none_ w w' := by
  refine ent [_, _] Try.func55 ((vcTry55 _ _ _ _ w _).mpr ?_)
  unfold VCTry55
  have z : ¬ (0 ≤ p ∧ p + 3 ≤ n) → atF b n p = -1 := fun h => if_neg h
  refine bif_dec (fun h => ⟨_, rfl, by rw [z (by omega)], Kp.refl _ _⟩) (fun h1 => bif_dec (fun h => ⟨_, rfl, by rw [z (by omega)], Kp.refl _ _⟩) (fun h2 => wr64 (by omega) (bif_dec (fun h => ⟨_, rfl, by rw [z (by omega)], Kp.refl _ _⟩) (fun h3 => ?_))))
  refine hb.drew.get (by omega) (by omega) fun a1 _ => wr64 (by omega) (hb.drew.get (by omega) (by omega) fun a2 _ => wr64 (by omega) (hb.drew.get (by omega) (by omega) fun a3 _ => ?_))
  refine (c17 _ _ _ _ (hr _ (by omega) (by omega)) (hr _ (by omega) (by omega)) (hr _ (by omega) (by omega))).mono ?_
  rintro v w2 ⟨rfl, rfl⟩
  exact ⟨_, rfl, (Kp.refl none_ _).keeps0, _, rfl, by rw [show atF b n p = hashAt b p from if_pos (by omega)]; rfl, (Kp.refl none_ _).drew⟩
theorem hashAt_range (b : Int → Int) (p : Int) : 0 ≤ hashAt b p ∧ hashAt b p < 4096 := hashI_range _ _ _
theorem c38 (hb : Ints w .u8 q n b) (hr : ∀ i : Int, 0 ≤ i → i < n → 0 ≤ b i ∧ b i < 256) (hn : n ≤ 2147483647) (at_ : Int) :
    Rets Try.prog 38 #[.slice q n cp, .int .i64 at_] w fun v w' => v = .int .i64 (prevAt b n at_ - 1) ∧ Kp none_ w w' := by
  refine ent [_, _] Try.func38 ((vcTry38 _ _ _ _ w _).mpr ?_)
  unfold VCTry38
  refine (c55 hb hr hn at_).mono ?_
  rintro v w1 ⟨rfl, k1⟩
  refine ⟨_, rfl, k1.keeps0, ?_⟩
  by_cases hat : 0 ≤ at_ ∧ at_ + 3 ≤ n
  rotate_left
  · rw [show atF b n at_ = -1 from if_neg hat]
    refine bif_dec (fun _ => ⟨_, rfl, ?_, k1⟩) (fun h => absurd (by decide) h)
    rw [show prevAt b n at_ = 0 from if_neg (by omega)]
    rfl
  rw [show atF b n at_ = hashAt b at_ from if_pos hat]
  have hh := hashAt_range b at_
  refine bif_dec (fun h => by omega) (fun _ => wr64 (by omega) ?_)
  have spec := prevAt_spec (b := b) hat
  refine ⟨fun p w' => (-1 ≤ p ∧ p < at_) ∧ (∀ j, p < j → j < at_ → hashAt b j ≠ hashAt b at_) ∧ Kp none_ w w', fun p _ => (p + 1).toNat, ⟨by omega, fun j h1 h2 => by omega, k1⟩, ?_⟩
  rintro p w2 ⟨hp, hno, k2⟩
  refine bif_dec (fun h => (c55 (hb.kp0 k2) hr hn p).mono ?_) (fun h => ⟨_, rfl, ?_, k2⟩)
  · rintro v w3 ⟨rfl, k3⟩
    rw [show atF b n p = hashAt b p from if_pos (by omega)]
    refine ⟨_, rfl, k3.keeps0, bif_eq (fun e => ⟨_, rfl, ?_, k2.trans k3⟩) (fun e => wr64 (by omega) ⟨⟨by omega, fun j h1 h2 => ?_, k2.trans k3⟩, by first | omega | (dsimp only; omega)⟩)⟩
    · rcases spec with ⟨h1, h2⟩ | ⟨x, h1, h2, h3, h4⟩
      · exact absurd e (h2 p (by omega) (by omega))
      · have : x = p := by
          rcases Int.lt_trichotomy x p with h' | h' | h'
          · exact absurd e (h4 p h' (by omega))
          · exact h'
          · exact absurd h3 (hno x h' (by omega))
        rw [h1, this]
        congr 1
        omega
    · by_cases ej : j = p
      · rw [ej]; exact e
      · exact hno j (by omega) h2
  · rcases spec with ⟨h1, h2⟩ | ⟨x, h1, h2, h3, h4⟩
    · rw [h1]; rfl
    · exact absurd h3 (hno x (by omega) (by omega))
theorem c37n (w : World) (at_ : Int) : Rets Try.prog 37 #[.pointer none, .int .i64 at_] w fun v w' => v = .tuple #[.int .i64 0, .bool false] ∧ w' = w := by
  refine ent [_, _] Try.func37 ((vcTry37 _ _ w _).mpr ?_)
  unfold VCTry37
  refine (c48n w at_).mono ?_
  rintro v w1 ⟨rfl, rfl⟩
  exact ⟨_, rfl, (Kp.refl none_ _).keeps0, _, rfl, rfl, rfl⟩
theorem c20n (w : World) (at_ d : Int) : Rets Try.prog 20 #[.pointer none, .int .i64 at_, .int .i64 d] w fun v w' => v = .tuple #[.int .i64 0, .int .i64 0] ∧ w' = w := by
  refine ent [_, _, _] Try.func20 ((vcTry20 _ _ _ w _).mpr ?_)
  unfold VCTry20
  refine (c48n w at_).mono ?_
  rintro v w1 ⟨rfl, rfl⟩
  exact ⟨_, rfl, (Kp.refl none_ _).keeps0, _, rfl, rfl, rfl⟩
theorem live18 (w w1 : World) (k : Kp none_ w w1) : Rets Try.prog 18 #[] w1 fun v w2 => ∃ t : Bool, v = .bool t ∧ Keeps w1 w2 [] ∧ ∃ v', Ending.returned (.bool t) = .returned v' ∧ v' = .bool true ∧ Kp none_ w w2 :=
  (c18 w1).mono fun v w2 ⟨e, k2⟩ => ⟨true, e, k2.keeps0, _, rfl, rfl, k.trans k2⟩
theorem c11 {q2 : Option Addr} {n2 k2 : Nat} {at_ : Int → Int} (hb : Ints w .u8 q n b) (hr : ∀ i : Int, 0 ≤ i → i < n → 0 ≤ b i ∧ b i < 256) (hcp : n ≤ cp) (ha : Ints w .i64 q2 n2 at_) :
    Rets Try.prog 11 #[.slice q n cp, .slice q2 n2 k2] w fun v w' => v = .bool true ∧ Kp none_ w w' := by
  refine ent [_, _] Try.func11 ((vcTry11 _ _ _ _ _ _ w _).mpr ?_)
  unfold VCTry11
  refine bif_dec (fun _ => live18 w w (Kp.refl _ _)) (fun g1 => ?_)
  refine bif_dec (fun _ => live18 w w (Kp.refl _ _)) (fun g2 => ?_)
  have hn : n ≤ 2147483647 := by omega
  refine (c19 hb hr hcp hn).mono ?_
  rintro v w7 ⟨rfl, k7, h7⟩
  refine ⟨_, rfl, k7.keeps0, fun i w' => (0 ≤ i ∧ i ≤ n2) ∧ Kp none_ w w' ∧ ∃ m, Chn w' (fresh w) w.heap.size q n b m, fun i _ => (n2 - i).toNat, ⟨by omega, k7, 0, h7⟩, ?_⟩
  rintro i w' ⟨hi, k, m, hc⟩
  refine bif_dec (fun h => ?_) (fun h => live18 w w' k)
  refine (ha.kp0 k).get (by omega) (by omega) fun a1 _ => (c37 hc (at_ i)).mono ?_
  rintro v w2 ⟨rfl, k2, m2, hc2⟩
  have kw : Kp none_ w w2 := k.then k2 (fresh_none (Nat.le_refl _))
  have h2 : Chn w2 (fresh w) w.heap.size q n b m2 := hc2.mono (fun j _ hj => hj.elim id fun hf => Nat.le_trans k.size hf) hc.qown
  refine ⟨_, _, rfl, k2.keeps0, (ha.kp0 kw).get (by omega) (by omega) fun a2 _ => (c38 (cp := cp) (hb.kp0 kw) hr hn (at_ i)).mono ?_⟩
  rintro v w3 ⟨rfl, k3⟩
  have kw3 := kw.trans k3
  have h3 := h2.kp k3 (fun _ _ _ => id) (fun _ _ _ => id)
  have hpr : 0 ≤ prevAt b n (at_ i) := by
    unfold prevAt
    split
    · exact (headV_range _ _ _).1
    · omega
  -- the rest of a round: chains that aren't there
  have rest : ∀ (hz : True), ((0 : Int) ≤ i ∧ i < (n2 : Int)) ∧ Ptr q2 fun a24 => ∃ i25, w3.cell? (a24.add (i.toNat * 1)) = some (.int .i64 i25) ∧
      Rets Try.prog 37 #[.pointer none, .int .i64 i25] w3 fun v26 w27 => ∃ (i28 : Int) (t29 : Bool), v26 = .tuple #[.int .i64 i28, .bool t29] ∧ Keeps w3 w27 [] ∧ ((0 : Int) ≤ i ∧ i < (n2 : Int)) ∧ Ptr q2 fun a30 => ∃ i31, w27.cell? (a30.add (i.toNat * 1)) = some (.int .i64 i31) ∧
        Rets Try.prog 20 #[.pointer none, .int .i64 i31, .int .i64 1] w27 fun v32 w33 => ∃ (i34 i35 : Int), v32 = .tuple #[.int .i64 i34, .int .i64 i35] ∧ Keeps w27 w33 [] ∧
          bif i28 != 0 then ∃ v', Ending.returned (.bool false) = .returned v' ∧ v' = .bool true ∧ Kp none_ w w33 else
          bif t29 then ∃ v', Ending.returned (.bool false) = .returned v' ∧ v' = .bool true ∧ Kp none_ w w33 else
          bif i34 != 0 then ∃ v', Ending.returned (.bool false) = .returned v' ∧ v' = .bool true ∧ Kp none_ w w33 else
          bif i35 != 0 then ∃ v', Ending.returned (.bool false) = .returned v' ∧ v' = .bool true ∧ Kp none_ w w33 else
          Rets Try.prog 39 #[.pointer none, .int .i64 1] w33 fun v36 w37 => ∃ q38 n39 n40, v36 = .slice q38 n39 n40 ∧ Keeps w33 w37 [] ∧
            bif (n39 : Int) != 0 then ∃ v', Ending.returned (.bool false) = .returned v' ∧ v' = .bool true ∧ Kp none_ w w37 else
            Wr .i64 (i + 1) fun i41 => ((0 ≤ i41 ∧ i41 ≤ n2) ∧ Kp none_ w w37 ∧ ∃ m, Chn w37 (fresh w) w.heap.size q n b m) ∧ (n2 - i41).toNat < (n2 - i).toNat := by
    intro _
    refine (ha.kp0 kw3).get (by omega) (by omega) fun a4 _ => (c37n w3 (at_ i)).mono ?_
    rintro v wx ⟨rfl, e⟩
    obtain rfl := e.symm
    refine ⟨_, _, rfl, (Kp.refl none_ _).keeps0, (ha.kp0 kw3).get (by omega) (by omega) fun a5 _ => (c20n w3 (at_ i) 1).mono ?_⟩
    rintro v wx ⟨rfl, e⟩
    obtain rfl := e.symm
    refine ⟨_, _, rfl, (Kp.refl none_ _).keeps0, bif_ne (fun h => absurd rfl h) (fun _ => bif_b (fun h => by cases h) (fun _ => bif_ne (fun h => absurd rfl h) (fun _ => bif_ne (fun h => absurd rfl h) (fun _ => (c39n w3 1).mono ?_))))⟩
    rintro v w4 ⟨⟨q', c', rfl⟩, k4⟩
    refine ⟨_, _, _, rfl, k4.keeps0, bif_ne (fun h => absurd rfl h) (fun _ => wr64 (by omega) ⟨⟨by omega, kw3.trans k4, m2, h3.kp k4 (fun _ _ _ => id) (fun _ _ _ => id)⟩, by omega⟩)⟩
  refine ⟨_, rfl, k3.keeps0, ?_⟩
  by_cases hz : prevAt b n (at_ i) = 0
  · rw [hz]
    exact rest trivial
  · have e1 : decide (prevAt b n (at_ i) ≠ 0) = true := decide_eq_true hz
    have e2 : decide (prevAt b n (at_ i) - 1 ≥ 0) = true := decide_eq_true (by omega)
    rw [e1, e2, if_neg hz]
    show bif prevAt b n (at_ i) - 1 != prevAt b n (at_ i) - 1 then _ else _
    exact bif_ne (fun h => absurd rfl h) (fun _ => rest trivial)
end
end Go.Proofs.Ytodgnegbaigdbaa
