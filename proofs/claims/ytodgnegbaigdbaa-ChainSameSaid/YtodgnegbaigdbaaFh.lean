import Derived.Test.YtodgnegbaigdbaaFg
import Derived.Test.YtodgnegbaigdbaaVcc
namespace Go.Proofs.Ytodgnegbaigdbaa
open Go Go.SX Go.Proofs
set_option maxRecDepth 100000
set_option linter.unusedVariables false
set_option linter.unusedSimpArgs false
theorem scan_low (L : Int → Int) : ∀ (r : Nat) (d k n e : Int), n ≤ (scan L r d k n e).1
  | 0, _, _, n, e => Int.le_refl _
  | r + 1, d, k, n, e => by
    unfold scan
    split
    · exact Int.le_refl _
    split
    · exact scan_low L r _ _ _ _
    split
    · exact Int.le_trans (by omega) (scan_low L r _ _ _ _)
    · exact scan_low L r _ _ _ _
theorem scan_mono (L : Int → Int) : ∀ (r : Nat) (d k k' n n' e e' : Int), k ≤ k' → n ≤ n' → (scan L r d k n e).1 ≤ (scan L r d k' n' e').1
  | 0, _, _, _, n, n', e, e', _, h => h
  | r + 1, d, k, k', n, n', e, e', hk, hn => by
    by_cases h0 : k ≤ 0
    · have : (scan L (r + 1) d k n e).1 = n := by unfold scan; rw [if_pos h0]
      rw [this]
      exact Int.le_trans hn (scan_low L _ _ _ _ _)
    unfold scan
    rw [if_neg h0, if_neg (show ¬ k' ≤ 0 by omega)]
    by_cases h1 : L d < 3
    · rw [if_pos h1, if_pos h1]; exact scan_mono L r _ _ _ _ _ _ _ hk hn
    rw [if_neg h1, if_neg h1]
    by_cases h2 : L d > n
    · rw [if_pos h2]
      by_cases h3 : L d > n'
      · rw [if_pos h3]; exact scan_mono L r _ _ _ _ _ _ _ (by omega) (Int.le_refl _)
      · rw [if_neg h3]; exact scan_mono L r _ _ _ _ _ _ _ (by omega) (by omega)
    · rw [if_neg h2]
      by_cases h3 : L d > n'
      · rw [if_pos h3]; exact scan_mono L r _ _ _ _ _ _ _ (by omega) (by omega)
      · rw [if_neg h3]; exact scan_mono L r _ _ _ _ _ _ _ (by omega) hn
theorem scan_is (L : Int → Int) : ∀ (r : Nat) (d k n e : Int), scan L r d k n e = (n, e) ∨ ∃ x, d ≤ x ∧ x < d + r ∧ 3 ≤ L x ∧ scan L r d k n e = (L x, x)
  | 0, _, _, n, e => .inl rfl
  | r + 1, d, k, n, e => by
    have lift : ∀ k' n' e', (∃ x, d + 1 ≤ x ∧ x < d + 1 + r ∧ 3 ≤ L x ∧ scan L r (d + 1) k' n' e' = (L x, x)) → ∃ x, d ≤ x ∧ x < d + (r + 1 : Nat) ∧ 3 ≤ L x ∧ scan L r (d + 1) k' n' e' = (L x, x) :=
      fun k' n' e' ⟨x, h1, h2, h3⟩ => ⟨x, by omega, by omega, h3⟩
    unfold scan
    split
    · exact .inl rfl
    split
    · exact (scan_is L r (d + 1) k n e).imp id (lift _ _ _)
    split
    · rcases scan_is L r (d + 1) (k - 1) (L d) d with h | h
      · exact .inr ⟨d, by omega, by omega, by omega, h⟩
      · exact .inr (lift _ _ _ h)
    · exact (scan_is L r (d + 1) (k - 1) n e).imp id (lift _ _ _)
theorem runL_all (b : Int → Int) (d : Int) : ∀ (k : Nat) (i : Int) (j : Nat), j < runL b d k i → b (i + j) = b (i + j - d)
  | 0, _, _, h => by simp [runL] at h
  | k + 1, i, j, h => by
    unfold runL at h
    split at h
    · rename_i e
      cases j with
      | zero => simpa using e
      | succ j =>
        have := runL_all b d k (i + 1) j (by omega)
        rw [show i + ((j + 1 : Nat) : Int) = i + 1 + j by omega]; exact this
    · omega
theorem runL_end (b : Int → Int) (d : Int) : ∀ (k : Nat) (i : Int), runL b d k i < k → b (i + runL b d k i) ≠ b (i + runL b d k i - d)
  | 0, _, h => by omega
  | k + 1, i, h => by
    unfold runL at h ⊢
    split
    · rename_i e
      rw [if_pos e] at h
      have := runL_end b d k (i + 1) (by omega)
      rw [show i + ((runL b d k (i + 1) + 1 : Nat) : Int) = i + 1 + runL b d k (i + 1) by omega]; exact this
    · rename_i e
      simpa using e
theorem findF_is (b : Int → Int) (n : Nat) (at_ dep : Int) : findF b n at_ dep = (0, 0) ∨ ∃ x, 1 ≤ x ∧ x ≤ at_ ∧ x ≤ 32768 ∧ at_ < n ∧ 3 ≤ lenF b n at_ x ∧ lenF b n at_ x ≤ 258 ∧ lenF b n at_ x ≤ n - at_ ∧ findF b n at_ dep = (lenF b n at_ x, x) ∧
    (∀ j : Int, 0 ≤ j → j < lenF b n at_ x → b (at_ + j) = b (at_ + j - x)) ∧ (lenF b n at_ x = 258 ∨ at_ + lenF b n at_ x = n ∨ b (at_ + lenF b n at_ x) ≠ b (at_ + lenF b n at_ x - x)) := by
  unfold findF scanR
  rcases scan_is (lenF b n at_) (min at_ 32768 + 1 - 1).toNat 1 dep 0 0 with h | ⟨x, h1, h2, h3, h4⟩
  · exact .inl h
  · have hr : ¬ (at_ < 0 ∨ at_ ≥ n ∨ x < 1 ∨ x > 32768 ∨ x > at_) := fun hh => by
      have : lenF b n at_ x = 0 := if_pos hh
      omega
    have hl : lenF b n at_ x = runL b x (min 258 (n - at_)).toNat at_ := if_neg hr
    have hle := runL_le b x (min 258 ((n : Int) - at_)).toNat at_
    refine .inr ⟨x, h1, by omega, by omega, by omega, h3, by omega, by omega, h4, fun j j0 j1 => ?_, ?_⟩
    · have := runL_all b x (min 258 ((n : Int) - at_)).toNat at_ j.toNat (by omega)
      rwa [show ((j.toNat : Nat) : Int) = j by omega] at this
    · rcases Nat.lt_or_ge (runL b x (min 258 ((n : Int) - at_)).toNat at_) (min 258 ((n : Int) - at_)).toNat with h' | h'
      · have := runL_end b x _ at_ h'
        rw [← hl] at this
        exact .inr (.inr this)
      · omega
theorem findF_mono (b : Int → Int) (n : Nat) (at_ : Int) {x y : Int} (h : x ≤ y) : (findF b n at_ x).1 ≤ (findF b n at_ y).1 := scan_mono _ _ _ _ _ _ _ _ _ h (Int.le_refl _)
/-- Two cells, as they were. -/
def Two (w : World) (N : Nat) (x y : Int) : Prop := (w.cell? ⟨N, 0, none⟩ = some (.int .i64 x) ∧ w.frozen? ⟨N, 0, none⟩ = false) ∧ (w.cell? ⟨N, 1, none⟩ = some (.int .i64 y) ∧ w.frozen? ⟨N, 1, none⟩ = false)
theorem Two.kp {w w' : World} {N : Nat} {x y : Int} (h : Two w N x y) (k : Kp none_ w w') : Two w' N x y := by
  have hl := cell_lt h.1.1
  exact ⟨⟨k.cell0 h.1.1, (k.frz ⟨N, 0, none⟩ hl).trans h.1.2⟩, ⟨k.cell0 h.2.1, (k.frz ⟨N, 1, none⟩ hl).trans h.2.2⟩⟩
theorem c6 {w : World} {q : Option Addr} {n cp : Nat} {b : Int → Int} (hb : Ints w .u8 q n b) (hr : ∀ i : Int, 0 ≤ i → i < n → 0 ≤ b i ∧ b i < 256) (hcp : n ≤ cp) (at_ x y : Int)
    (hx : -9223372036854775808 ≤ x ∧ x < 9223372036854775808) (hy : -9223372036854775808 ≤ y ∧ y < 9223372036854775808) :
    Rets Try.prog 6 #[.slice q n cp, .int .i64 at_, .agg #[.int .i64 x, .int .i64 y]] w fun v w' => v = .bool true ∧ Kp none_ w w' := by
  refine ent [_, _, _] Try.func6 ((vcTry6 _ _ _ _ _ _ w _).mpr ?_)
  unfold VCTry6
  have k1 := (Kp.refl none_ w).alloc1 (.cells #[Value.int .i64 x, Value.int .i64 y] 35)
  have t1 : Two (w.alloc (.cells #[Value.int .i64 x, Value.int .i64 y] 35)) w.heap.size x y := by
    refine ⟨⟨cell_alloc_new rfl, ?_⟩, ⟨cell_alloc_new rfl, ?_⟩⟩ <;> (unfold World.frozen?; rw [alloc_get, if_pos rfl]; simp)
  generalize w.alloc (.cells #[Value.int .i64 x, Value.int .i64 y] 35) = w1 at *
  generalize hN : w.heap.size = N at *
  have hsz : N < w1.heap.size := cell_lt t1.1.1
  -- the chapter's example, at the end
  have live : ∀ w2, Kp none_ w w2 → Two w2 N x y → Rets Try.prog 22 #[] w2 fun v w3 => ∃ t : Bool, v = .bool t ∧ Keeps w2 w3 [] ∧ ∃ i : Int, w3.cell? ⟨N, 0, none⟩ = some (.int .i64 i) ∧ w3.frozen? ⟨N, 0, none⟩ = false ∧ ∃ j : Int, w3.cell? ⟨N, 1, none⟩ = some (.int .i64 j) ∧ w3.frozen? ⟨N, 1, none⟩ = false ∧
      (Known w3 [(N, [(0, .int .i64 i), (1, .int .i64 j)])] → ∃ v', Ending.returned (.bool t) = .returned v' ∧ v' = .bool true ∧ Kp none_ w w3) := fun w2 k t => (c22 w2).mono fun v w3 ⟨e, k3⟩ =>
    ⟨true, e, k3.keeps0, _, (t.kp k3).1.1, (t.kp k3).1.2, _, (t.kp k3).2.1, (t.kp k3).2.2, fun _ => ⟨_, rfl, rfl, k.trans k3⟩⟩
  refine bif_dec (fun g _ => (c22 w1).mono ?_) (fun g1 => ⟨rfl, rfl, bif_dec (fun g _ => live w1 k1 t1) (fun g2 => ⟨rfl, bif_dec (fun g _ => live w1 k1 t1) (fun g3 => ⟨rfl, fun _ => ?_⟩)⟩)⟩)
  · rintro v w2 ⟨e, k2⟩
    exact ⟨true, e, k2.keeps (fun b hb => ⟨by simp at hb; omega, id⟩), fun _ => ⟨_, rfl, rfl, k1.trans k2⟩⟩
  have hn : n ≤ 2147483647 := by omega
  refine (c25 (hb.kp0 k1) hr hcp hn at_ x hx).mono ?_
  rintro v w2 ⟨rfl, k2⟩
  have t2 := t1.kp k2
  refine ⟨_, _, rfl, k2.keeps0, _, t2.1.1, t2.1.2, _, t2.2.1, t2.2.2, rfl, fun _ => (c25 (hb.kp0 (k1.trans k2)) hr hcp hn at_ y hy).mono ?_⟩
  rintro v w3 ⟨rfl, k3⟩
  have t3 := t2.kp k3
  have kw := (k1.trans k2).trans k3
  refine ⟨_, _, rfl, k3.keeps0, _, t3.1.1, t3.1.2, _, t3.2.1, t3.2.2, bif_dec (fun g => ?_) (fun g => ?_)⟩
  · have := findF_mono b n at_ (x := x) (y := y) (by omega)
    omega
  rcases findF_is b n at_ x with hz | ⟨d, d1, d2, d3, d4, d5, d6, d7, he, hall, hend⟩
  · rw [hz]
    refine bif_ne (fun h => absurd rfl h) (fun _ => ?_)
    refine ⟨fun i w' => i = 0 ∧ Kp none_ w w' ∧ Two w' N x y, fun i _ => 0, ⟨rfl, kw, t3⟩, ?_⟩
    rintro i w4 ⟨rfl, k4, t4⟩
    refine fun _ => bif_dec (fun h => by omega) (fun _ => bif_eq (fun _ => ?_) (fun h => absurd rfl h))
    exact fun _ => live w4.drew k4.drew t4
  · rw [he]
    generalize lenF b n at_ d = l at *
    dsimp only
    refine bif_ne (fun _ => ?_) (fun h => by omega)
    refine bif_dec (fun h => by omega) (fun _ => bif_dec (fun h => by omega) (fun _ => bif_dec (fun h => by omega) (fun _ => bif_dec (fun h => by omega) (fun _ => bif_dec (fun h => by omega) (fun _ => bif_dec (fun h => by omega) (fun _ => wr64 (by omega) (bif_dec (fun h => by omega) (fun _ => ?_))))))))
    refine ⟨fun i w' => (0 ≤ i ∧ i ≤ l) ∧ Kp none_ w w' ∧ Two w' N x y, fun i _ => (l - i).toNat, ⟨by omega, kw, t3⟩, ?_⟩
    rintro i w4 ⟨hi, k4, t4⟩
    have hb4 := hb.kp0 k4.drew
    refine fun _ => bif_dec (fun h => ?_) (fun h => ?_)
    · refine wr64 (by omega) (hb4.get (by omega) (by omega) fun a1 _ => wr64 (by omega) (wr64 (by omega) (hb4.get (by omega) (by omega) fun a2 _ => ?_)))
      exact bif_ne (fun h => absurd (hall i (by omega) (by omega)) h) (fun _ => wr64 (by omega) ⟨rfl, ⟨by omega, k4.drew, t4⟩, by first | omega | (dsimp only; omega)⟩)
    · have hpos : (decide (l > 0) == decide (d > 0)) = true := by
        rw [decide_eq_true (show l > 0 by omega), decide_eq_true (show d > 0 by omega)]; rfl
      rw [hpos]
      have e0 : (l == 0) = false := by simp; omega
      rw [e0]
      show bif l == 258 then _ else _
      refine bif_eq (fun _ _ => live w4.drew k4.drew t4) (fun h1 => wr64 (by omega) (bif_eq (fun _ _ => live w4.drew k4.drew t4) (fun h2 => wr64 (by omega) (hb4.get (by omega) (by omega) fun a1 _ => wr64 (by omega) (wr64 (by omega) (hb4.get (by omega) (by omega) fun a2 _ => bif_ne (fun _ _ => live w4.drew k4.drew t4) (fun h3 => ?_)))))))
      rcases hend with h | h | h
      · exact absurd h h1
      · exact absurd h h2
      · exact absurd h3 h
end Go.Proofs.Ytodgnegbaigdbaa
