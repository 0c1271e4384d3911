import Derived.Test.YtodgnegbaigdbaaGb
import Derived.Test.YtodgnegbaigdbaaFh
namespace Go.Proofs.Ytodgnegbaigdbaa
open Go Go.SX Go.Proofs
set_option maxRecDepth 100000
set_option linter.unusedVariables false
set_option linter.unusedSimpArgs false
theorem findF_range (b : Int → Int) (n : Nat) (at_ dep : Int) : 0 ≤ (findF b n at_ dep).1 ∧ (findF b n at_ dep).1 ≤ 258 := by
  rcases findF_is b n at_ dep with h | ⟨x, _, _, _, _, h3, h4, _, h, _⟩
  · rw [h]; omega
  · rw [h]; dsimp only; omega
theorem tokAt_len (b : Int → Int) (n : Nat) (dep : Int) (lz : Bool) (at_ : Int) : 0 ≤ (tokAt b n dep lz at_).2.1 ∧ (tokAt b n dep lz at_).2.1 ≤ 258 := by
  have := findF_range b n at_ dep
  unfold tokAt
  split
  · dsimp only; omega
  · exact this
theorem maxI_max (a b : Int) : maxI a b = max a b := by unfold maxI; split <;> omega
theorem isGo52 : isGo Try.prog 52 = true := by kernel_rfl
section
variable {w w' : World} {q : Option Addr} {n cp : Nat} {b : Int → Int}
/-- Four cells of a block of one's own. -/
def Four (w : World) (S : Nat) (v0 v1 v2 v3 : Value) : Prop :=
  (w.cell? ⟨S, 0, none⟩ = some v0 ∧ w.frozen? ⟨S, 0, none⟩ = false) ∧ (w.cell? ⟨S, 1, none⟩ = some v1 ∧ w.frozen? ⟨S, 1, none⟩ = false) ∧ (w.cell? ⟨S, 2, none⟩ = some v2 ∧ w.frozen? ⟨S, 2, none⟩ = false) ∧ (w.cell? ⟨S, 3, none⟩ = some v3 ∧ w.frozen? ⟨S, 3, none⟩ = false)
theorem Four.kp {T : Nat → Prop} {S : Nat} {v0 v1 v2 v3 : Value} (h : Four w S v0 v1 v2 v3) (k : Kp T w w') (hs : ¬ T S) : Four w' S v0 v1 v2 v3 := by
  have hl := cell_lt h.1.1
  exact ⟨⟨k.cell h.1.1 hs, (k.frz ⟨S, 0, none⟩ hl).trans h.1.2⟩, ⟨k.cell h.2.1.1 hs, (k.frz ⟨S, 1, none⟩ hl).trans h.2.1.2⟩, ⟨k.cell h.2.2.1.1 hs, (k.frz ⟨S, 2, none⟩ hl).trans h.2.2.1.2⟩, ⟨k.cell h.2.2.2.1 hs, (k.frz ⟨S, 3, none⟩ hl).trans h.2.2.2.2⟩⟩
theorem iter52 (hb : Ints w .u8 q n b) (hr : ∀ i : Int, 0 ≤ i → i < n → 0 ≤ b i ∧ b i < 256) (hcp : n ≤ cp) (hn : n ≤ 2147483647) {a1 a2 : Addr} {level : Int} (h1 : w.cell? a1 = some (.slice q n cp)) (h2 : w.cell? a2 = some (.int .i64 level)) :
    IterSpec Try.prog (.func (.func 52) #[] #[.pointer (some a1), .pointer (some a2)]) ((toksF b n level).map tokV) (fun i => i = a1.block ∨ i = a2.block ∨ (0 < n ∧ ∃ a, q = some a ∧ i = a.block)) (fun _ => False) (fun _ _ => True) w := by
  refine ⟨⟨_, _, _, rfl⟩, fun w0 hk y J E init stab step => ⟨isGo52, ?_⟩⟩
  refine ent [_, _, _] Try.func52 ((vcTry52 _ _ _ w0 _).mpr ?_)
  unfold VCTry52
  have x1 : w0.cell? a1 = some (.slice q n cp) := hk.cell h1 (fun h => h.1 (.inl rfl))
  have x2 : w0.cell? a2 = some (.int .i64 level) := hk.cell h2 (fun h => h.1 (.inr (.inl rfl)))
  have hb0 : Ints w0 .u8 q n b := hb.kp hk fun h0 a ha h => h.1 (.inr (.inr ⟨h0, a, ha, rfl⟩))
  have l1 := cell_lt x1
  have l2 := cell_lt x2
  have lq : 0 < n → ∀ a, q = some a → a.block < w0.heap.size := fun h0 a ha => by
    obtain ⟨a', e, hcl⟩ := hb0 0 (by omega) (by omega)
    rw [ha] at e; cases e
    have := cell_lt hcl
    rwa [add_block] at this
  refine ⟨_, _, _, x1, _, _, _, x1, _, x2, _, x2, (c26 hb0.drew hr hcp hn).mono ?_⟩
  rintro v w9 ⟨B, r, rfl, k9, f9⟩
  have k09 : Kp none_ w0 w9 := (Kp.refl none_ w0).drew.trans k9
  refine ⟨_, rfl, k9.keeps0, k09.cell0 x2, k09.cell0 x2, k09.cell0 x1, (c33 w9 level).mono ?_⟩
  rintro v wx ⟨rfl, e⟩
  obtain rfl := e.symm
  refine ⟨_, rfl, (Kp.refl none_ _).keeps0, k09.cell0 x2, k09.cell0 x1, ?_⟩
  have z9 := k09.size
  have fS : Four (w9.alloc (.cells #[Value.slice q n cp, .pointer (some ⟨B, 0, none⟩), .int .i64 (depthF level), .bool (decide (level ≥ 2))] 79)) w9.heap.size (.slice q n cp) (.pointer (some ⟨B, 0, none⟩)) (.int .i64 (depthF level)) (.bool (decide (level ≥ 2))) := by
    refine ⟨⟨cell_alloc_new rfl, ?_⟩, ⟨cell_alloc_new rfl, ?_⟩, ⟨cell_alloc_new rfl, ?_⟩, ⟨cell_alloc_new rfl, ?_⟩⟩ <;> (unfold World.frozen?; rw [alloc_get, if_pos rfl]; simp)
  have kS : Kp none_ w9 (w9.alloc (.cells #[Value.slice q n cp, .pointer (some ⟨B, 0, none⟩), .int .i64 (depthF level), .bool (decide (level ≥ 2))] 79)) := (Kp.refl none_ w9).alloc1 _
  have sS : (w9.alloc (.cells #[Value.slice q n cp, .pointer (some ⟨B, 0, none⟩), .int .i64 (depthF level), .bool (decide (level ≥ 2))] 79)).heap.size = w9.heap.size + 1 := alloc_size _ _
  generalize w9.alloc (.cells #[Value.slice q n cp, .pointer (some ⟨B, 0, none⟩), .int .i64 (depthF level), .bool (decide (level ≥ 2))] 79) = WS at *
  generalize hSn : w9.heap.size = S at *
  have k0S : Kp none_ w0 WS := k09.trans kS
  have hdr := depthF_range level
  let T := tokAt b n (depthF level) (decide (level ≥ 2))
  refine ⟨fun at_ w1 => 0 ≤ at_ ∧ ∃ (l : List Value) (Pv : Nat → Prop) (m1 : Nat), (toksF b n level).map tokV = l ++ (toks T n at_).map tokV ∧ J l Pv w1 ∧ Fdr w1 (fun i => Pv i ∧ i ≠ S) B r q n b m1 ∧ Four w1 S (.slice q n cp) (.pointer (some ⟨B, 0, none⟩)) (.int .i64 (depthF level)) (.bool (decide (level ≥ 2))) ∧
      w1.cell? a1 = some (.slice q n cp) ∧ w1.cell? a2 = some (.int .i64 level) ∧ Pv S ∧ (∀ i, Pv i → w0.heap.size ≤ i ∧ i < w1.heap.size), fun at_ _ => (n - at_).toNat, ⟨by omega, [], _, 0, rfl, stab _ _ _ _ init k0S, ?_, fS, k0S.cell0 x1, k0S.cell0 x2, .inr (by omega), fun i hi => hi.elim (fun h => h.elim) id⟩, ?_⟩
  · refine (f9.mono (own' := fun i => (False ∨ (w0.heap.size ≤ i ∧ i < WS.heap.size)) ∧ i ≠ S) (fun i hi hf => ?_) (fun h0 a ha h => ?_)).kp kS (fun _ _ _ => id) (fun _ _ _ => id)
    · have hf : w0.heap.size ≤ i := hf
      exact ⟨.inr (by omega), by omega⟩
    · have := lq h0 a ha
      rcases h.1 with h | h
      · exact h
      · omega
  rintro at_ w1 ⟨hat, l, Pv, m1, hall, hJ, f1, s1, y1, y2, hPS, hP⟩
  refine fun _ => ⟨_, _, _, y1, bif_dec (fun hlt => ?_) (fun hge => ?_)⟩
  rotate_left
  · refine fun _ => ⟨_, rfl, rfl, Pv, trivial, .inl ?_⟩
    rw [toks_end (by omega)] at hall
    rw [hall]
    simpa using hJ
  have lS := cell_lt s1.1.1
  have lS : S < w1.heap.size := lS
  refine fun _ => (c53 f1 (fun h => h.2 rfl) s1.1.1 s1.2.1.1 s1.2.2.1.1 s1.2.2.2.1 hdr at_ ⟨hat, by omega⟩).mono ?_
  rintro v w2 ⟨rfl, k2, m2, f2⟩
  have s2 := s1.kp k2 (fun h => h.2 rfl)
  refine ⟨_, _, _, rfl, k2.keeps0, _, _, _, s2.1.1, s2.1.2, _, s2.2.1.1, s2.2.1.2, _, s2.2.2.1.1, s2.2.2.1.2, _, s2.2.2.2.1, s2.2.2.2.2, fun _ => ?_⟩
  have z2 := k2.size
  generalize eB : ((((w2.alloc (.cells #[Value.int .u8 0, .int .i64 0, .int .i64 0] 49)).setCell ⟨w2.heap.size, 0, none⟩ (.int .u8 (tokAt b n (depthF level) (decide (level ≥ 2)) at_).1)).setCell ⟨w2.heap.size, 1, none⟩ (.int .i64 (tokAt b n (depthF level) (decide (level ≥ 2)) at_).2.1)).setCell ⟨w2.heap.size, 2, none⟩ (.int .i64 (tokAt b n (depthF level) (decide (level ≥ 2)) at_).2.2)) = WB
  have kB : Kp none_ w2 WB := by
    rw [← eB]
    exact Kp.setCell (Kp.setCell (Kp.setCell ((Kp.refl none_ w2).alloc1 _) _ (.inr (Nat.le_refl _))) _ (.inr (Nat.le_refl _))) _ (.inr (Nat.le_refl _))
  have zB : WB.heap.size = w2.heap.size + 1 := by rw [← eB]; simp only [World.setCell, Array.size_modify, alloc_size]
  have k1B : Kp Pv w1 WB := (k2.mono fun i _ h => h.1).trans (kB.mono fun _ _ h => h.elim)
  have hJ2 := stab _ _ _ _ hJ k1B
  rw [toks_step (by omega), List.map_cons] at hall
  refine CallsVal.mono (step l (tokV (T at_)) _ _ _ hall hJ2) ?_
  rintro v w3 ⟨k3, t, rfl, ht⟩
  refine ⟨_, rfl, k3.keeps (fun i hi => ?_), ?_⟩
  · simp only [List.mem_cons, List.not_mem_nil, or_false] at hi
    rcases hi with rfl | rfl
    · exact ⟨by omega, fun h => h.1 (.inl hPS)⟩
    · exact ⟨by omega, fun h => h.1 (.inr (by omega))⟩
  cases t with
  | false => exact fun _ => ⟨_, rfl, rfl, _, trivial, .inr ht⟩
  | true =>
    simp only [cond_true] at ht
    have htl := tokAt_len b n (depthF level) (decide (level ≥ 2)) at_
    have hmx := maxI_max 1 (tokAt b n (depthF level) (decide (level ≥ 2)) at_).2.1
    simp only [Bool.not_true, cond_false]
    rw [hmx]
    have z3 := k3.size
    refine wr64 (by omega) ⟨rfl, ⟨by omega, _, _, m2, by rw [hall, List.append_assoc]; rfl, ht, ?_, ?_, ?_, ?_, .inl hPS, ?_⟩, by first | omega | (dsimp only; omega)⟩
    · refine ((f2.mono (own' := fun i => (Pv i ∨ (w1.heap.size ≤ i ∧ i < WB.heap.size)) ∧ i ≠ S) (fun i hi hf => ?_) (fun h0 a ha h => ?_)).kp kB (fun _ _ _ => id) (fun _ _ _ => id)).kp k3 (fun i _ ho hs => hs.1 ho.1) (fun h0 a ha hs => hs.2 (.inr (.inr ⟨h0, a, ha, rfl⟩)))
      · rcases hf with hf | hf
        · exact ⟨.inl hf.1, hf.2⟩
        · have hf : w1.heap.size ≤ i := hf
          exact ⟨.inr (by omega), by omega⟩
      · have := lq h0 a ha
        have h00 := hP S hPS
        rcases h.1 with h | h
        · have := hP _ h; omega
        · omega
    · exact (s2.kp kB id).kp k3 (fun hs => hs.1 (.inl hPS))
    · exact k3.cell (k1B.cell y1 (fun h => by have := hP _ h; omega)) (fun hs => hs.2 (.inl rfl))
    · exact k3.cell (k1B.cell y2 (fun h => by have := hP _ h; omega)) (fun hs => hs.2 (.inr (.inl rfl)))
    · rintro i (hi | hi)
      · have := hP i hi; omega
      · have h00 := hP S hPS
        omega
theorem c35 (hb : Ints w .u8 q n b) (hr : ∀ i : Int, 0 ≤ i → i < n → 0 ≤ b i ∧ b i < 256) (hcp : n ≤ cp) (hn : n ≤ 2147483647) (level : Int) :
    Rets Try.prog 35 #[.slice q n cp, .int .i64 level] w fun v w' => ∃ Q, IterSpec Try.prog v ((toksF b n level).map tokV) Q (fun _ => False) (fun _ _ => True) w' ∧ Kp none_ w w' ∧ ∀ i, Q i → (w.heap.size ≤ i ∧ i < w'.heap.size) ∨ (0 < n ∧ ∃ a, q = some a ∧ i = a.block) := by
  refine ent [_, _] Try.func35 ((vcTry35 _ _ _ _ w _).mpr ?_)
  unfold VCTry35
  intro _
  have k1 := (Kp.refl none_ w).alloc #[Value.slice q n cp] 25
  have k2 := k1.alloc #[Value.int .i64 level] 3
  have hz : (w.alloc (.cells #[Value.slice q n cp] 25)).heap.size = w.heap.size + 1 := alloc_size _ _
  have hz2 : ((w.alloc (.cells #[Value.slice q n cp] 25)).alloc (.cells #[Value.int .i64 level] 3)).heap.size = w.heap.size + 1 + 1 := by rw [alloc_size, hz]
  refine ⟨_, rfl, _, iter52 (hb.kp0 k2) hr hcp hn (cell_alloc _ (cell_alloc_new rfl)) (cell_alloc_new rfl), k2, ?_⟩
  rintro i (h | h | h)
  · exact .inl (by dsimp only at h; omega)
  · exact .inl (by dsimp only at h; omega)
  · exact .inr h
theorem c31 (hb : Ints w .u8 q n b) (hr : ∀ i : Int, 0 ≤ i → i < n → 0 ≤ b i ∧ b i < 256) (hcp : n ≤ cp) (hn : n ≤ 2147483647) (level : Int) :
    Rets Try.prog 31 #[.slice q n cp, .int .i64 level] w fun v w' => ∃ q' c, v = .slice q' (toksF b n level).length c ∧ Kp none_ w w' ∧ OwnRow w' (fresh w) 49 3 v (toksF b n level).length (tokR (toksF b n level)) := by
  refine ent [_, _] Try.func31 ((vcTry31 _ _ _ _ w _).mpr ?_)
  unfold VCTry31
  refine (c35 hb hr hcp hn level).mono ?_
  rintro v w1 ⟨Q, hi, k1, hQ⟩
  have hlen : (toksF b n level).length ≤ 2147483647 := by have := toks_len (tokAt b n (depthF level) (decide (level ≥ 2))) n 0; unfold toksF; omega
  refine ⟨_, rfl, k1.keeps0, (c51 hi (fun i h => ?_) hlen).mono ?_⟩
  · rcases hQ i h with h | ⟨h0, a, ha, rfl⟩
    · exact h.2
    · obtain ⟨a', e, hcl⟩ := hb 0 (by omega) (by omega)
      rw [ha] at e; cases e
      have := cell_lt hcl
      rw [add_block] at this
      exact Nat.lt_of_lt_of_le this k1.size
  · rintro v w2 ⟨q', c', rfl, k2, h2⟩
    exact ⟨_, _, _, rfl, k2.keeps0, _, rfl, _, _, rfl, k1.trans k2, h2.mono fun i hi _ => Nat.le_trans k1.size hi⟩
end
end Go.Proofs.Ytodgnegbaigdbaa
