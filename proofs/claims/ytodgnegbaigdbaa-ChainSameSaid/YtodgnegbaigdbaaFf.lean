import Derived.Test.YtodgnegbaigdbaaFe
namespace Go.Proofs.Ytodgnegbaigdbaa
open Go Go.SX Go.Proofs
set_option maxRecDepth 100000
set_option linter.unusedVariables false
set_option linter.unusedSimpArgs false
theorem lastM0 (b : Int → Int) : lastM b 0 = fun _ => none := by
  funext k
  unfold lastM
  split
  · rfl
  · rfl
theorem c26 {w : World} {q : Option Addr} {n cp : Nat} {b : Int → Int} (hb : Ints w .u8 q n b) (hr : ∀ i : Int, 0 ≤ i → i < n → 0 ≤ b i ∧ b i < 256) (hcp : n ≤ cp) (hn : n ≤ 2147483647) :
    Rets Try.prog 26 #[.slice q n cp] w fun v w' => ∃ B r, v = .pointer (some ⟨B, 0, none⟩) ∧ Kp none_ w w' ∧ Fdr w' (fresh w) B r q n b 0 := by
  refine ent [_] Try.func26 ((vcTry26 _ _ _ w _).mpr ?_)
  unfold VCTry26
  intro _
  have k1 : Kp none_ w (w.alloc (.map #[] 0)) := (Kp.refl none_ w).alloc_map
  have m1 := MapOf.nil w (.int .i64)
  generalize e1 : w.alloc (.map #[] 0) = w1 at *
  have s1 : w1.heap.size = w.heap.size + 1 := by rw [← e1, alloc_size]
  let cs : Array Value := #[Value.slice q n cp, Value.map (some w.heap.size), Value.slice none 0 0, Value.int .i64 0]
  have k2 : Kp none_ w1 (w1.alloc (.cells cs 72)) := (Kp.refl none_ w1).alloc _ _
  have k := k1.trans k2
  refine ⟨_, rfl, _, w.heap.size, rfl, k, ?_⟩
  have cell : ∀ j v, cs[j]? = some v → (w1.alloc (.cells cs 72)).cell? ⟨w1.heap.size, j, none⟩ = some v := fun j v h => cell_alloc_new h
  refine ⟨⟨cp, hcp, cell 0 _ rfl⟩, hb.kp0 k, hr, cell 1 _ rfl, ?_, ⟨.slice none 0 0, cell 2 _ rfl, OwnRow.nil _ _ _ _⟩, cell 3 _ rfl, fun o => ?_, ⟨by unfold fresh; omega, by unfold fresh; omega, by omega⟩, fun h0 a ha hf => ?_, .inl rfl, hn⟩
  · rw [lastM0]; exact m1.kp k2 id
  · simp only [World.frozen?, alloc_get]
    simp
  · obtain ⟨a', e, hcl⟩ := hb 0 (by omega) (by omega)
    rw [ha] at e; cases e
    have := cell_lt hcl
    rw [add_block] at this
    unfold fresh at hf; omega
theorem c25 {w : World} {q : Option Addr} {n cp : Nat} {b : Int → Int} (hb : Ints w .u8 q n b) (hr : ∀ i : Int, 0 ≤ i → i < n → 0 ≤ b i ∧ b i < 256) (hcp : n ≤ cp) (hn : n ≤ 2147483647) (at_ depth : Int) (hd : -9223372036854775808 ≤ depth ∧ depth < 9223372036854775808) :
    Rets Try.prog 25 #[.slice q n cp, .int .i64 at_, .int .i64 depth] w fun v w' => v = .tuple #[.int .i64 (findF b n at_ depth).1, .int .i64 (findF b n at_ depth).2] ∧ Kp none_ w w' := by
  refine ent [_, _, _] Try.func25 ((vcTry25 _ _ _ _ _ w _).mpr ?_)
  unfold VCTry25
  refine (c26 hb hr hcp hn).mono ?_
  rintro v w1 ⟨B, r, rfl, k1, hf⟩
  refine ⟨_, rfl, k1.keeps0, (c27 hf at_ depth hd).mono ?_⟩
  rintro v w2 ⟨rfl, k2, _⟩
  exact ⟨_, _, rfl, k2.keeps0, _, rfl, rfl, k1.then k2 (fun i hi hf => by unfold fresh at hf; omega)⟩
theorem c22 (w : World) : Rets Try.prog 22 #[] w fun v w' => v = .bool true ∧ Kp none_ w w' := by
  refine ent [] Try.func22 ((vcTry22 w _).mpr ?_)
  unfold VCTry22
  refine ⟨_, _, conv_abc w, _, _, _, rfl, ⟨by rw [alloc_size, alloc_size]; exact Nat.le_refl _, fun b hb => by cases hb⟩, ?_⟩
  have k1 : Kp none_ w (w.alloc (.cells abcL 5 (6, 7))) := (Kp.refl none_ w).alloc1 _
  refine (c25 (cp := 6) (abc_ints w (6, 7)) abc_range (by omega) (by omega) 3 1 (by omega)).mono ?_
  rintro v w2 ⟨rfl, k2⟩
  refine ⟨_, _, rfl, k2.keeps0, ?_⟩
  rw [find_abc]
  exact ⟨_, rfl, rfl, k1.trans k2⟩
theorem live22 (w w1 : World) (k : Kp none_ w w1) : Rets Try.prog 22 #[] w1 fun v w2 => ∃ t : Bool, v = .bool t ∧ Keeps w1 w2 [] ∧ ∃ v', Ending.returned (.bool t) = .returned v' ∧ v' = .bool true ∧ Kp none_ w w2 :=
  (c22 w1).mono fun v w2 ⟨e, k2⟩ => ⟨true, e, k2.keeps0, _, rfl, rfl, k.trans k2⟩
theorem c5 {w : World} {q : Option Addr} {n cp : Nat} {b : Int → Int} (hb : Ints w .u8 q n b) (hr : ∀ i : Int, 0 ≤ i → i < n → 0 ≤ b i ∧ b i < 256) (at_ d : Int) :
    Rets Try.prog 5 #[.slice q n cp, .int .i64 at_, .int .i64 d] w fun v w' => v = .bool true ∧ Kp none_ w w' := by
  refine ent [_, _, _] Try.func5 ((vcTry5 _ _ _ _ _ w _).mpr ?_)
  unfold VCTry5
  refine bif_dec (fun _ => live22 w w (Kp.refl _ _)) (fun g1 => ?_)
  refine (c23 hb (by omega) at_ d).mono ?_
  rintro v w1 ⟨rfl, k1⟩
  refine ⟨_, rfl, k1.keeps0, (c24 (hb.kp0 k1) (by omega) at_ d).mono ?_⟩
  rintro v w2 ⟨rfl, k2⟩
  exact ⟨_, rfl, k2.keeps0, bif_eq (fun _ => live22 w w2 (k1.trans k2)) (fun h => absurd rfl h)⟩
theorem c28n (w : World) (at_ : Int) : Rets Try.prog 28 #[.pointer none, .int .i64 at_] w fun v w' => v = .slice none 0 0 ∧ w' = w := by
  refine ent [_, _] Try.func28 ((vcTry28 _ _ w _).mpr ?_)
  unfold VCTry28
  exact ⟨_, rfl, rfl, rfl⟩
theorem c7 {w : World} {q1 q2 : Option Addr} {n1 n2 k1 k2 : Nat} {b at_ : Int → Int} (hb : Ints w .u8 q1 n1 b) (hr : ∀ i : Int, 0 ≤ i → i < n1 → 0 ≤ b i ∧ b i < 256) (hcp : n1 ≤ k1) (ha : Ints w .i64 q2 n2 at_)
    (depth : Int) (hd : -9223372036854775808 ≤ depth ∧ depth < 9223372036854775808) :
    Rets Try.prog 7 #[.slice q1 n1 k1, .slice q2 n2 k2, .int .i64 depth] w fun v w' => v = .bool true ∧ Kp none_ w w' := by
  refine ent [_, _, _] Try.func7 ((vcTry7 _ _ _ _ _ _ _ w _).mpr ?_)
  unfold VCTry7
  refine bif_dec (fun _ => live22 w w (Kp.refl _ _)) (fun g1 => ?_)
  refine bif_dec (fun _ => live22 w w (Kp.refl _ _)) (fun g2 => ?_)
  have hn : n1 ≤ 2147483647 := by omega
  refine (c26 hb hr hcp hn).mono ?_
  rintro v w7 ⟨B, r, rfl, k7, h7⟩
  refine ⟨_, rfl, k7.keeps0, fun i w' => (0 ≤ i ∧ i ≤ n2) ∧ Kp none_ w w' ∧ ∃ m, Fdr w' (fresh w) B r q1 n1 b m, fun i _ => (n2 - i).toNat, ⟨by omega, k7, 0, h7⟩, ?_⟩
  rintro i w' ⟨hi, k, m, hc⟩
  refine bif_dec (fun h => ?_) (fun h => live22 w w' k)
  refine (ha.kp0 k).get (by omega) (by omega) fun a1 _ => (c27 hc (at_ i) depth hd).mono ?_
  rintro v w2 ⟨rfl, k2, m2, hc2⟩
  have kw : Kp none_ w w2 := k.then k2 (fresh_none (Nat.le_refl _))
  have h2 : Fdr w2 (fresh w) B r q1 n1 b m2 := hc2.mono (fun j _ hj => hj.elim id fun hf => Nat.le_trans k.size hf) hc.qown
  refine ⟨_, _, rfl, k2.keeps0, (ha.kp0 kw).get (by omega) (by omega) fun a2 _ => (c25 (cp := k1) (hb.kp0 kw) hr hcp hn (at_ i) depth hd).mono ?_⟩
  rintro v w3 ⟨rfl, k3⟩
  have kw3 := kw.trans k3
  refine ⟨_, _, rfl, k3.keeps0, (ha.kp0 kw3).get (by omega) (by omega) fun a3 _ => (c21 (hb.kp0 kw3) hn (at_ i) depth hd).mono ?_⟩
  rintro v w4 ⟨rfl, k4⟩
  have kw4 := kw3.trans k4
  refine ⟨_, _, rfl, k4.keeps0, (ha.kp0 kw4).get (by omega) (by omega) fun a4 _ => (c27n w4 (at_ i) depth).mono ?_⟩
  rintro v w5 ⟨rfl, k5⟩
  have kw5 := kw4.trans k5
  refine ⟨_, _, rfl, k5.keeps0, ?_⟩
  refine bif_ne (fun h => absurd rfl h) (fun _ => bif_ne (fun h => absurd rfl h) (fun _ => bif_ne (fun h => absurd rfl h) (fun _ => bif_ne (fun h => absurd rfl h) (fun _ => bif_ne (fun h => absurd rfl h) (fun _ => bif_ne (fun h => absurd rfl h) (fun _ => ?_))))))
  refine (ha.kp0 kw5).get (by omega) (by omega) fun a6 _ => (c28n w5 (at_ i)).mono ?_
  rintro v w6 ⟨rfl, rfl⟩
  refine ⟨_, _, _, rfl, (Kp.refl none_ _).keeps0, bif_ne (fun h => absurd rfl h) (fun _ => wr64 (by omega) ⟨⟨by omega, kw5, m2, ?_⟩, by first | omega | (dsimp only; omega)⟩)⟩
  exact ((h2.kp k3 (fun _ _ _ => id) (fun _ _ _ => id)).kp k4 (fun _ _ _ => id) (fun _ _ _ => id)).kp k5 (fun _ _ _ => id) (fun _ _ _ => id)
end Go.Proofs.Ytodgnegbaigdbaa
