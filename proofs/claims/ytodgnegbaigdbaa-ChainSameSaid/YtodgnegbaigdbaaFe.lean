import Derived.Test.YtodgnegbaigdbaaFd
namespace Go.Proofs.Ytodgnegbaigdbaa
open Go Go.SX Go.Proofs
set_option maxRecDepth 100000
set_option linter.unusedVariables false
set_option linter.unusedSimpArgs false
section
variable {w w' : World} {own : Nat → Prop} {B r : Nat} {q : Option Addr} {n : Nat} {b : Int → Int} {m : Nat}
theorem isGo59 : isGo Try.prog 59 = true := by kernel_rfl
theorem c27n (w : World) (at_ depth : Int) : Rets Try.prog 27 #[.pointer none, .int .i64 at_, .int .i64 depth] w fun v w' => v = .tuple #[.int .i64 0, .int .i64 0] ∧ Kp none_ w w' := by
  refine ent [_, _, _] Try.func27 ((vcTry27 _ _ _ w _).mpr ?_)
  unfold VCTry27
  refine fun _ => ⟨_, rfl, rfl, ?_⟩
  refine Kp.setCell (Kp.setCell ((((((Kp.refl none_ w).alloc1 _).alloc1 _).alloc1 _).alloc1 _).alloc1 _) _ (.inr ?_)) _ (.inr ?_)
  · simp only [alloc_size]; omega
  · simp only [alloc_size]; omega
theorem c27 (hc0 : Fdr w own B r q n b m) (at_ depth : Int) (hd : -9223372036854775808 ≤ depth ∧ depth < 9223372036854775808) :
    Rets Try.prog 27 #[.pointer (some ⟨B, 0, none⟩), .int .i64 at_, .int .i64 depth] w fun v w' =>
      v = .tuple #[.int .i64 (findF b n at_ depth).1, .int .i64 (findF b n at_ depth).2] ∧ Kp own w w' ∧ ∃ m', Fdr w' (fun i => own i ∨ fresh w i) B r q n b m' := by
  refine ent [_, _, _] Try.func27 ((vcTry27 _ _ _ w _).mpr ?_)
  unfold VCTry27
  have hqf := hc0.qfresh
  have hn := hc0.nb
  -- only what is there now
  have hc : Fdr w (fun i => own i ∧ i < w.heap.size) B r q n b m := hc0.mono (fun i hi h => ⟨h, hi⟩) (fun h0 a ha h => hc0.qown h0 a ha h.1)
  have hqN : 0 < n → ∀ a, q = some a → a.block < w.heap.size := fun h0 a ha => by
    have := hqf h0 a ha
    unfold fresh at this
    omega
  generalize e1 : w.alloc (.cells #[Value.pointer (some ⟨B, 0, none⟩)] 37) = W1
  generalize e2 : W1.alloc (.cells #[Value.int .i64 at_] 3) = W2
  generalize e3 : W2.alloc (.cells #[Value.int .i64 depth] 3) = W3
  generalize e4 : W3.alloc (.cells #[Value.int .i64 0] 3) = W4
  generalize e5 : W4.alloc (.cells #[Value.int .i64 0] 3) = W5
  generalize hN : w.heap.size = N
  have s1 : W1.heap.size = N + 1 := by rw [← e1, alloc_size, hN]
  have s2 : W2.heap.size = N + 2 := by rw [← e2, alloc_size, s1]
  have s3 : W3.heap.size = N + 3 := by rw [← e3, alloc_size, s2]
  have s4 : W4.heap.size = N + 4 := by rw [← e4, alloc_size, s3]
  have s5 : W5.heap.size = N + 5 := by rw [← e5, alloc_size, s4]
  have k5 : Kp none_ w W5 := by
    rw [← e5, ← e4, ← e3, ← e2, ← e1]
    exact ((((((Kp.refl none_ w).alloc1 _).alloc1 _).alloc1 _).alloc1 _).alloc1 _)
  have d0 : Cel W5 N (.pointer (some ⟨B, 0, none⟩)) := by
    rw [← e5, ← e4, ← e3, ← e2, ← e1, ← hN]; exact ((((Cel.new w _ _).alloc _).alloc _).alloc _).alloc _
  have d1 : Cel W5 (N + 1) (.int .i64 at_) := by
    rw [← e5, ← e4, ← e3, ← e2, ← s1]; exact (((Cel.new W1 _ _).alloc _).alloc _).alloc _
  have d2 : Cel W5 (N + 2) (.int .i64 depth) := by
    rw [← e5, ← e4, ← e3, ← s2]; exact ((Cel.new W2 _ _).alloc _).alloc _
  have d3 : Cel W5 (N + 3) (.int .i64 0) := by
    rw [← e5, ← e4, ← s3]; exact (Cel.new W3 _ _).alloc _
  have d4 : Cel W5 (N + 4) (.int .i64 0) := by
    rw [← e5, ← s4]; exact Cel.new W4 _ _
  simp only [s1, s2, s3, s4]
  have fin0 : (findF b n at_ depth = (0, 0)) → ∀ w', Kp none_ w w' → (Value.tuple #[Value.int .i64 0, Value.int .i64 0] = .tuple #[.int .i64 (findF b n at_ depth).1, .int .i64 (findF b n at_ depth).2]) ∧ Kp own w w' ∧ ∃ m', Fdr w' (fun i => own i ∨ fresh w i) B r q n b m' := by
    intro e w' hk
    rw [e]
    refine ⟨rfl, hk.mono fun _ _ h => h.elim, m, ?_⟩
    exact (hc0.later).kp hk (fun _ _ _ => id) (fun _ _ _ => id)
  show cond false _ _
  simp only [cond_false]
  refine bif_dec (fun hd1 _ => ⟨_, rfl, fin0 (scanR_done (by omega)) _ ?_⟩) (fun hd1 _ => ?_)
  · exact Kp.setCell (Kp.setCell k5 _ (.inr (by dsimp only; omega))) _ (.inr (by dsimp only; omega))
  refine (c50 W5 _ at_).mono ?_
  rintro v w1 ⟨a1, a2, rfl, x1, x2, k51, x3, x4⟩
  refine ⟨_, rfl, k51.keeps (fun b hb => ⟨by simp at hb; omega, id⟩), fun _ I3 hI3 hyield => ?_⟩
  have l1 := cell_lt x1
  have l2 := cell_lt x2
  generalize hh : w1.heap.size = h
  rw [hh] at hyield l1 l2
  generalize e6 : (w1.alloc (.deferred (some []))).alloc (I3 .ready none) = W6
  have k1 : Kp none_ w w1 := k5.trans k51
  have s1' := k51.size
  have k16 : Kp none_ w1 W6 := by rw [← e6]; exact ((Kp.refl none_ w1).alloc1 _).alloc1 _
  have s6 : W6.heap.size = h + 2 := by rw [← e6, alloc_size, alloc_size, hh]
  have k6 := k1.trans k16
  let own0 : Nat → Prop := fun i => own i ∧ i < N
  have hc6 : Fdr W6 own0 B r q n b m := by
    have := hc.kp k6 (fun _ _ _ => id) (fun _ _ _ => id)
    rw [hN] at this; exact this
  let own1 : Nat → Prop := fun i => own0 i ∨ fresh W6 i
  have base : ∀ w2 m1, Kp own0 W6 w2 → Fdr w2 own1 B r q n b m1 → (0 ≤ at_ → at_ + 3 ≤ n → (at_ : Int) < m1) → FB w own0 own1 B r q n b at_ h a1 a2 N w2 (I3 .ready none) depth 0 0 := by
    intro w2 m1 hk hf hm
    have nS : ∀ i, N ≤ i → ¬ own0 i := fun i hi ho => by have := ho.2; omega
    have c6 : ∀ {i v}, Cel W5 i v → N ≤ i → Cel w2 i v := fun hc hi => ((hc.kp k51 id).kp k16 id).kp hk (nS _ hi)
    refine ⟨?_, hI3 _ _, ?_, (k6.mono fun _ _ h => h.elim).trans hk, ⟨m1, hf, hm⟩, c6 d0 (by omega), c6 d1 (by omega), c6 d2 (by omega), c6 d3 (by omega), c6 d4 (by omega), hk.cell (k16.cell x1 id) (nS _ (by omega)), hk.cell (k16.cell x2 id) (nS _ (by omega)), ⟨by omega, by omega⟩, ?_, by omega, fun h0 a ha => by have := hqN h0 a ha; omega⟩
    · rw [hk.same (h + 1) (by omega) (nS _ (by omega)), ← e6, alloc_get, if_pos (by rw [alloc_size]; omega)]
    · rw [hk.same h (by omega) (nS _ (by omega)), ← e6, alloc_get, if_neg (by rw [alloc_size]; omega), alloc_get, if_pos (by omega)]
    · intro i h1 h2 ho
      rcases ho with ho | ho
      · have := ho.2; omega
      · unfold fresh at ho; omega
  refine ⟨isGo59, ?_⟩
  have hmax : ∀ x, lenF b n at_ x ≤ 258 := fun x => (lenF_le b n at_ x).2
  refine (c59 hc6 (.func (.yield (h + 1)) #[] #[]) a1 a2 at_ (k16.cell x1 id) (k16.cell x2 id) (fun ho => by have := ho.2; omega) (fun ho => by have := ho.2; omega)
    (fun d w2 => ∃ k nn e, FB w own0 own1 B r q n b at_ h a1 a2 N w2 (I3 .ready none) k nn e ∧ (1 ≤ k ∧ k ≤ depth) ∧ scanR (lenF b n at_) (min at_ 32768) d k nn e = findF b n at_ depth)
    (fun w2 => ∃ k, FB w own0 own1 B r q n b at_ h a1 a2 N w2 (I3 .done (some (.exit 0))) k (findF b n at_ depth).1 (findF b n at_ depth).2)
    ?_ ?_ ?_ ?_).mono ?_
  · intro w2 m1 hk hf hm
    exact ⟨depth, 0, 0, base w2 m1 hk hf hm, by omega, rfl⟩
  · rintro d w2 ⟨k, nn, e, f, _⟩
    obtain ⟨m1, h1, h2⟩ := f.fdr
    exact ⟨⟨m1, own1, h1, h2⟩, f.a1c, f.a2c⟩
  · rintro d w2 h1 h2 ⟨k, nn, e, f, hk, hs⟩
    refine ⟨k, nn, e, f, hk, ?_⟩
    by_cases hdR : d ≤ min at_ 32768
    · rw [scanR_step hdR, if_neg (by omega), if_pos h2] at hs; exact hs
    · rw [← hs, scanR_end (by omega), scanR_end (by omega)]
  · rintro d w2 h1 h2 h3 hL ⟨k, nn, e, f, hk, hs⟩
    refine hyield d nn e k w2 _ f.rec_ f.known ⟨f.rec_, ?_⟩
    have f1 := (f.put (hI3 .busy none)).same (Kp.drew1 (S := none_))
    obtain ⟨m1, hf1, _⟩ := f1.fdr
    obtain ⟨cp, hcp, hc1⟩ := hf1.c0
    simp only [ptr_some, ad_add, Nat.zero_add, Nat.add_zero]
    refine ⟨_, _, _, hc1, fun _ => (c23 (cp := cp) hf1.bytes hn at_ d).mono ?_⟩
    rintro v w3 ⟨rfl, k3⟩
    have f3 := f1.same k3
    have ll := f1.e4.lt
    refine ⟨_, rfl, k3.keeps (fun b hb => ⟨by simp at hb; omega, id⟩), ?_⟩
    rw [scanR_step (by omega), if_neg (by omega), if_neg (by omega)] at hs
    have hle : w2.heap.size ≤ w3.heap.size := by have := k3.size; simpa using this
    have hsz : ∀ {o k nn e w4}, FB w own0 own1 B r q n b at_ h a1 a2 N w4 o k nn e → True := fun _ => trivial
    have go : ∀ (w4 : World) (k' nn' e' : Int), FB w own0 own1 B r q n b at_ h a1 a2 N w4 (I3 .busy none) k' nn' e' → w2.heap.size ≤ w4.heap.size → (1 ≤ k' ∧ k' ≤ depth) → scanR (lenF b n at_) (min at_ 32768) (d + 1) k' nn' e' = findF b n at_ depth →
        w4.heap[h + 1]? = some (I3 .busy none) ∧ (w2.heap.size ≤ (w4.putObj (h + 1) (I3 .ready none)).heap.size ∧ ∃ t, Value.bool true = .bool t ∧ cond t (∃ k nn e, FB w own0 own1 B r q n b at_ h a1 a2 N (w4.putObj (h + 1) (I3 .ready none)) (I3 .ready none) k nn e ∧ (1 ≤ k ∧ k ≤ depth) ∧ scanR (lenF b n at_) (min at_ 32768) (d + 1) k nn e = findF b n at_ depth)
          (∃ k, FB w own0 own1 B r q n b at_ h a1 a2 N (w4.putObj (h + 1) (I3 .ready none)) (I3 .done (some (.exit 0))) k (findF b n at_ depth).1 (findF b n at_ depth).2)) :=
      fun w4 k' nn' e' f4 hl hk' hs' => ⟨f4.rec_, by rw [World.putObj_size]; exact hl, true, rfl, k', nn', e', f4.put (hI3 _ _), hk', hs'⟩
    have stop : ∀ (w4 : World) (k' nn' e' : Int), FB w own0 own1 B r q n b at_ h a1 a2 N w4 (I3 .busy none) k' nn' e' → w2.heap.size ≤ w4.heap.size → findF b n at_ depth = (nn', e') →
        w4.heap[h + 1]? = some (I3 .busy none) ∧ (w2.heap.size ≤ (w4.putObj (h + 1) (I3 .done (some (.exit 0)))).heap.size ∧ ∃ t, Value.bool false = .bool t ∧ cond t (∃ k nn e, FB w own0 own1 B r q n b at_ h a1 a2 N (w4.putObj (h + 1) (I3 .done (some (.exit 0)))) (I3 .ready none) k nn e ∧ (1 ≤ k ∧ k ≤ depth) ∧ scanR (lenF b n at_) (min at_ 32768) (d + 1) k nn e = findF b n at_ depth)
          (∃ k, FB w own0 own1 B r q n b at_ h a1 a2 N (w4.putObj (h + 1) (I3 .done (some (.exit 0)))) (I3 .done (some (.exit 0))) k (findF b n at_ depth).1 (findF b n at_ depth).2)) :=
      fun w4 k' nn' e' f4 hl hs' => ⟨f4.rec_, by rw [World.putObj_size]; exact hl, false, rfl, k', by rw [hs']; exact f4.put (hI3 _ _)⟩
    have szc : ∀ (w4 : World) (a : Addr) (v : Value), (w4.setCell a v).heap.size = w4.heap.size := fun w4 a v => by simp [World.setCell]
    refine bif_dec (fun hg => wr64 (by omega) ?_) (fun hg => wr64 (by omega) ?_)
    · rw [if_pos hg] at hs
      have f4 := ((f3.set3 (lenF b n at_ d)).set4 d).set2 (k - 1)
      have hl4 : w2.heap.size ≤ (((w3.setCell ⟨N + 3, 0, none⟩ (.int .i64 (lenF b n at_ d))).setCell ⟨N + 4, 0, none⟩ (.int .i64 d)).setCell ⟨N + 2, 0, none⟩ (.int .i64 (k - 1))).heap.size := by rw [szc, szc, szc]; exact hle
      refine bif_eq (fun hz _ => stop _ _ _ _ f4 hl4 ?_) (fun hz => bif_eq (fun hz2 _ => stop _ _ _ _ f4 hl4 ?_) (fun hz2 _ => go _ _ _ _ f4 hl4 (by omega) hs))
      · rw [← hs, scanR_done (by omega)]
      · rw [← hs, hz2, scanR_max hmax _ _ _ rfl]
    · rw [if_neg hg] at hs
      have f4 := f3.set2 (k - 1)
      have hl4 : w2.heap.size ≤ (w3.setCell ⟨N + 2, 0, none⟩ (.int .i64 (k - 1))).heap.size := by rw [szc]; exact hle
      refine bif_eq (fun hz _ => stop _ _ _ _ f4 hl4 ?_) (fun hz => bif_eq (fun hz2 _ => stop _ _ _ _ f4 hl4 ?_) (fun hz2 _ => go _ _ _ _ f4 hl4 (by omega) hs))
      · rw [← hs, scanR_done (by omega)]
      · rw [← hs, hz2, scanR_max hmax _ _ _ rfl]
  -- the end
  have fin : ∀ (w2 : World) (o : Obj) (k nn e : Int), FB w own0 own1 B r q n b at_ h a1 a2 N w2 o k nn e → findF b n at_ depth = (nn, e) → ∀ o', o'.isCells = false →
      ((w2.putObj (h + 1) o').drew.setCell ⟨N + 3, 0, none⟩ (.int .i64 nn)).cell? ⟨N + 4, 0, none⟩ = some (.int .i64 e) ∧
      (Known (((w2.putObj (h + 1) o').drew.setCell ⟨N + 3, 0, none⟩ (.int .i64 nn)).setCell ⟨N + 4, 0, none⟩ (.int .i64 e)) [(N, [(0, .pointer (some ⟨B, 0, none⟩))]), (N + 1, [(0, .int .i64 at_)]), (N + 2, [(0, .int .i64 k)]), (N + 3, [(0, .int .i64 nn)]), (N + 4, [(0, .int .i64 e)])] →
        (((w2.putObj (h + 1) o').drew.setCell ⟨N + 3, 0, none⟩ (.int .i64 nn)).setCell ⟨N + 4, 0, none⟩ (.int .i64 e)).heap[h]? = some (.deferred (some [])) ∧
          ∃ v, Ending.returned (.tuple #[.int .i64 nn, .int .i64 e]) = .returned v ∧ v = .tuple #[.int .i64 (findF b n at_ depth).1, .int .i64 (findF b n at_ depth).2] ∧
            Kp own w ((((w2.putObj (h + 1) o').drew.setCell ⟨N + 3, 0, none⟩ (.int .i64 nn)).setCell ⟨N + 4, 0, none⟩ (.int .i64 e)).putObj h (.deferred none)) ∧
            ∃ m', Fdr ((((w2.putObj (h + 1) o').drew.setCell ⟨N + 3, 0, none⟩ (.int .i64 nn)).setCell ⟨N + 4, 0, none⟩ (.int .i64 e)).putObj h (.deferred none)) (fun i => own i ∨ fresh w i) B r q n b m') := by
    intro w2 o k nn e f hfe o' ho'
    have f1 := (((f.put ho').same (Kp.drew1 (S := none_))).set3 nn)
    have f2 := f1.set4 e
    refine ⟨f1.e4.cell, fun _ => ⟨f2.mark, _, rfl, by rw [hfe], ?_, ?_⟩⟩
    · exact (f2.kp.putObj _ (by have := f2.hN; omega)).mono fun i _ hi => hi.1
    · obtain ⟨m1, hf, _⟩ := f2.fdr
      refine ⟨m1, ?_⟩
      have hfo : ∀ i, own1 i → i ≠ h := fun i ho e => f2.own1N h (by have := f2.hN; omega) (by omega) (e ▸ ho)
      have kd : Kp (one_ h) _ _ := Kp.putObj1 (.deferred none) f2.mark rfl rfl rfl
      refine (hf.kp kd (fun i _ ho hs => hfo i ho hs) (fun h0 a ha hs => ?_)).mono (fun i _ ho => ?_) hqf
      · have := f2.qN h0 a ha
        have e : a.block = h := hs
        have := f2.hN
        omega
      · rcases ho with ho | ho
        · exact .inl ho.1
        · refine .inr ?_
          unfold fresh at ho ⊢
          omega
  rintro v w2 ⟨rfl, hend⟩
  rcases hend with ⟨d, h1, h2, k, nn, e, f, hk, hs⟩ | ⟨k, f⟩
  · have hfe : findF b n at_ depth = (nn, e) := by
      rw [← hs]
      rw [scanR_skip (min at_ 32768 + 1 - d).toNat d (fun x a c _ => h2 x a)]
      exact scanR_end (by omega)
    have := fin w2 _ k nn e f hfe (I3 .exhausted none) (hI3 _ _)
    exact ⟨nn, e, k, f.known, .inr ⟨f.rec_, this⟩⟩
  · have := fin w2 _ k _ _ f rfl (I3 .exhausted (some (.exit 0))) (hI3 _ _)
    exact ⟨_, _, k, f.known, .inl ⟨f.rec_, this⟩⟩
end
end Go.Proofs.Ytodgnegbaigdbaa
