import Derived.Test.YtodgnegbaigdbaaGa
namespace Go.Proofs.Ytodgnegbaigdbaa
open Go Go.SX Go.Proofs
set_option maxRecDepth 100000
set_option linter.unusedVariables false
set_option linter.unusedSimpArgs false
section
variable {w w' : World} {own : Nat → Prop} {B r : Nat} {q : Option Addr} {n : Nat} {b : Int → Int} {m : Nat}
theorem c33 (w : World) (l : Int) : Rets Try.prog 33 #[.int .i64 l] w fun v w' => v = .int .i64 (depthF l) ∧ w' = w := by
  refine ent [_] Try.func33 ((vcTry33 _ w _).mpr ?_)
  unfold VCTry33 depthF maxI minI
  refine bif_eq (fun h => ⟨_, rfl, ?_, rfl⟩) (fun h => bif_eq (fun h2 => ⟨_, rfl, ?_, rfl⟩) (fun h2 => bif_eq (fun h3 => ⟨_, rfl, ?_, rfl⟩) (fun h3 => ⟨_, rfl, ?_, rfl⟩)))
  · rw [if_pos (by split at h <;> split at h <;> omega)]
  · rw [if_neg (by split at h2 <;> split at h2 <;> omega), if_pos (by split at h2 <;> split at h2 <;> omega)]
  · rw [if_neg (by split at h3 <;> split at h3 <;> omega), if_neg (by split at h3 <;> split at h3 <;> omega), if_pos (by split at h3 <;> split at h3 <;> omega)]
  · rw [if_neg (by split at h <;> split at h <;> omega), if_neg (by split at h2 <;> split at h2 <;> omega), if_neg (by split at h3 <;> split at h3 <;> omega)]
theorem c34 (w : World) (l : Int) : Rets Try.prog 34 #[.int .i64 l] w fun v w' => v = .int .i64 (depthF l) ∧ w' = w := by
  refine ent [_] Try.func34 ((vcTry34 _ w _).mpr ?_)
  unfold VCTry34 depthF
  refine bif_dec (fun h => ⟨_, rfl, ?_, rfl⟩) (fun h => bif_eq (fun h2 => ⟨_, rfl, ?_, rfl⟩) (fun h2 => bif_eq (fun h3 => ⟨_, rfl, ?_, rfl⟩) (fun h3 => ⟨_, rfl, ?_, rfl⟩)))
  · rw [if_pos (by omega)]
  · rw [if_neg (by omega), if_pos (by omega)]
  · rw [if_neg (by omega), if_neg (by omega), if_pos (by omega)]
  · rw [if_neg (by omega), if_neg (by omega), if_neg (by omega)]
theorem c51 {fv : Value} {l : List Tok} {Q : Nat → Prop} (hi : IterSpec Try.prog fv (l.map tokV) Q (fun _ => False) (fun _ _ => True) w) (hQ : ∀ i, Q i → i < w.heap.size) (hl : l.length ≤ 2147483647) :
    Rets Try.prog 51 #[fv] w fun v w' => ∃ q c, v = .slice q l.length c ∧ Kp none_ w w' ∧ OwnRow w' (fresh w) 49 3 v l.length (tokR l) := by
  refine ent [_] Try.func51 ((vcTry51 _ w _).mpr ?_)
  unfold VCTry51
  refine (c62 hi hQ hl).mono ?_
  rintro v w1 ⟨q, c, rfl, k, h⟩
  exact ⟨_, _, _, rfl, k.keeps0, _, rfl, _, _, rfl, k, h⟩
theorem c53 (hc0 : Fdr w own B r q n b m) {S cp : Nat} {depth : Int} {lz : Bool} (hS : ¬ own S) (s0 : w.cell? ⟨S, 0, none⟩ = some (.slice q n cp)) (s1 : w.cell? ⟨S, 1, none⟩ = some (.pointer (some ⟨B, 0, none⟩)))
    (s2 : w.cell? ⟨S, 2, none⟩ = some (.int .i64 depth)) (s3 : w.cell? ⟨S, 3, none⟩ = some (.bool lz)) (hd : 1 ≤ depth ∧ depth ≤ 256) (at_ : Int) (hat : 0 ≤ at_ ∧ at_ < n) :
    Rets Try.prog 53 #[.pointer (some ⟨S, 0, none⟩), .int .i64 at_] w fun v w' => v = tokV (tokAt b n depth lz at_) ∧ Kp own w w' ∧ ∃ m', Fdr w' (fun i => own i ∨ fresh w i) B r q n b m' := by
  refine ent [_, _] Try.func53 ((vcTry53 _ _ w _).mpr ?_)
  unfold VCTry53
  have hn := hc0.nb
  have hqf := hc0.qfresh
  have hc : Fdr w (fun i => own i ∧ i < w.heap.size) B r q n b m := hc0.mono (fun i hi h => ⟨h, hi⟩) (fun h0 a ha h => hc0.qown h0 a ha h.1)
  have kA : Kp none_ w (w.alloc (.cells #[Value.int .u8 0, .int .i64 0, .int .i64 0] 49)).drew := ((Kp.refl none_ w).alloc1 _).drew
  have cT : ∀ j v, (#[Value.int .u8 0, .int .i64 0, .int .i64 0] : Array Value)[j]? = some v → (w.alloc (.cells #[Value.int .u8 0, .int .i64 0, .int .i64 0] 49)).drew.cell? ⟨w.heap.size, j, none⟩ = some v := fun j v h => cell_alloc_new h
  have sA : (w.alloc (.cells #[Value.int .u8 0, .int .i64 0, .int .i64 0] 49)).drew.heap.size = w.heap.size + 1 := alloc_size _ _
  generalize (w.alloc (.cells #[Value.int .u8 0, .int .i64 0, .int .i64 0] 49)).drew = WA at *
  generalize hN : w.heap.size = N at *
  have hcA := hc.kp kA (fun _ _ _ => id) (fun _ _ _ => id)
  have lS : S < N := by rw [← hN]; exact cell_lt s0
  simp only [ptr_some, ad_add, Nat.zero_add, Nat.add_zero, Nat.mul_one]
  -- the token is laid, and returned
  have fin : ∀ (w5 : World) (own5 : Nat → Prop) (m5 : Nat) (v0 v1 v2 : Value), Kp (fun i => own i ∧ i < N) WA w5 → Fdr w5 own5 B r q n b m5 → (∀ i, own5 i → (own i ∧ i < N) ∨ N < i) → .agg #[v0, v1, v2] = tokV (tokAt b n depth lz at_) →
      ∃ v, Ending.returned (.agg #[v0, v1, v2]) = .returned v ∧ v = tokV (tokAt b n depth lz at_) ∧ Kp own w (((w5.setCell ⟨N, 0, none⟩ v0).setCell ⟨N, 1, none⟩ v1).setCell ⟨N, 2, none⟩ v2) ∧
        ∃ m', Fdr (((w5.setCell ⟨N, 0, none⟩ v0).setCell ⟨N, 1, none⟩ v1).setCell ⟨N, 2, none⟩ v2) (fun i => own i ∨ fresh w i) B r q n b m' := by
    intro w5 own5 m5 v0 v1 v2 k5 h5 ho hv
    refine ⟨_, rfl, hv, ?_, m5, ?_⟩
    · refine Kp.setCell (Kp.setCell (Kp.setCell ?_ _ (.inr (by dsimp only; omega))) _ (.inr (by dsimp only; omega))) _ (.inr (by dsimp only; omega))
      exact (kA.mono fun _ _ h => h.elim).trans (k5.mono fun i _ h => h.1)
    · have kT : Kp (one_ N) w5 (((w5.setCell ⟨N, 0, none⟩ v0).setCell ⟨N, 1, none⟩ v1).setCell ⟨N, 2, none⟩ v2) :=
        Kp.setCell (S := one_ N) (x := ⟨N, 2, none⟩) (Kp.setCell (S := one_ N) (x := ⟨N, 1, none⟩) (Kp.setCell (S := one_ N) (x := ⟨N, 0, none⟩) (Kp.refl (one_ N) w5) _ (.inl rfl)) _ (.inl rfl)) _ (.inl rfl)
      refine (h5.kp kT (fun i _ hi hs => ?_) (fun h0 a ha hs => ?_)).mono (fun i _ hi => ?_) hqf
      · have e : i = N := hs
        have := ho i hi
        omega
      · have e : a.block = N := hs
        have := hqf h0 a ha
        exact this (.inr (by unfold fresh; omega))
      · rcases ho i hi with h | h
        · exact .inl h.1
        · exact .inr (by unfold fresh; omega)
  have rd : ∀ (w5 : World) (own5 : Nat → Prop) (m5 : Nat), Fdr w5 own5 B r q n b m5 → (∃ a, q = some a ∧ w5.cell? (a.add at_.toNat) = some (.int .u8 (b at_))) := by
    intro w5 own5 m5 h5
    exact h5.bytes at_ hat.1 hat.2
  refine ⟨_, kA.cell0 s1, _, kA.cell0 s2, fun _ => (c27 hcA at_ depth (by omega)).mono ?_⟩
  rintro v w5 ⟨rfl, k5, m5, h5⟩
  have sS : ¬ (own S ∧ S < N) := fun h => hS h.1
  have z5 := k5.size
  have o5 : ∀ i, ((own i ∧ i < N) ∨ fresh WA i) → (own i ∧ i < N) ∨ N < i := fun i h => h.imp id fun h => by unfold fresh at h; omega
  refine ⟨_, _, rfl, k5.keeps (fun i hi => by simp at hi; omega), bif_eq (fun h => ?_) (fun h => ?_)⟩
  · obtain ⟨a, rfl, ha⟩ := rd _ _ _ h5
    refine ⟨_, _, _, k5.cell (kA.cell0 s0) sS, hat, ?_⟩
    simp only [ptr_some]
    exact ⟨_, ha, fun _ => fin _ _ _ _ _ _ k5 h5 o5 (by unfold tokAt; rw [if_pos (.inl h)]; rfl)⟩
  refine ⟨_, k5.cell (kA.cell0 s3) sS, ?_⟩
  have notlit : (¬ (lz = true ∧ (findF b n at_ depth).1 < 258 ∧ (findF b n at_ depth).1 < (findF b n (at_ + 1) depth).1)) → Value.agg #[.int .u8 0, .int .i64 (findF b n at_ depth).1, .int .i64 (findF b n at_ depth).2] = tokV (tokAt b n depth lz at_) := by
    intro hh
    unfold tokAt
    rw [if_neg (fun h' => h'.elim h hh)]
    rfl
  refine bif_b (fun hl => bif_dec (fun h2 => ?_) (fun h2 => fun _ => fin _ _ _ _ _ _ k5 h5 o5 (notlit (fun h => h2 h.2.1)))) (fun hl => fun _ => fin _ _ _ _ _ _ k5 h5 o5 (notlit (fun h => by rw [hl] at h; cases h.1)))
  refine ⟨_, k5.drew.cell (kA.cell0 s1) sS, wr64 (by omega) ⟨_, k5.drew.cell (kA.cell0 s2) sS, fun _ => (c27 h5.drew (at_ + 1) depth (by omega)).mono ?_⟩⟩
  rintro v w6 ⟨rfl, k6, m6, h6⟩
  have k56 : Kp (fun i => own i ∧ i < N) WA w6 := k5.drew.then k6 fun i hi h => by
    rcases h with h | h
    · exact h
    · unfold fresh at h; omega
  have o6 : ∀ i, (((own i ∧ i < N) ∨ fresh WA i) ∨ fresh w5.drew i) → (own i ∧ i < N) ∨ N < i := fun i h => by
    rcases h with h | h
    · exact o5 i h
    · have h : w5.heap.size ≤ i := h
      omega
  refine ⟨_, _, rfl, k6.keeps (fun i hi => ?_), bif_dec (fun h3 => ?_) (fun h3 => fun _ => fin _ _ _ _ _ _ k56 h6 o6 (notlit (fun h => h3 h.2.2)))⟩
  · simp at hi
    refine ⟨by show i < w5.heap.size; omega, fun h => ?_⟩
    rcases h with h | h
    · omega
    · unfold fresh at h; omega
  · obtain ⟨a, rfl, ha⟩ := rd _ _ _ h6
    refine ⟨_, _, _, k56.cell (kA.cell0 s0) sS, hat, ?_⟩
    simp only [ptr_some]
    exact ⟨_, ha, fun _ => fin _ _ _ _ _ _ k56 h6 o6 (by unfold tokAt; rw [if_pos (.inr ⟨hl, h2, h3⟩)]; rfl)⟩
end
end Go.Proofs.Ytodgnegbaigdbaa
