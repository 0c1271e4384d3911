import Derived.Test.YtodgnegbaigdbaaGg
namespace Go.Proofs.Ytodgnegbaigdbaa
open Go Go.SX Go.Proofs
set_option maxRecDepth 100000
set_option linter.unusedVariables false
set_option linter.unusedSimpArgs false
section
variable {w w' : World} {q : Option Addr} {n cp : Nat} {b : Int → Int}
theorem c41 {F I L T : Nat} {t : Tok} {i till : Int} {c : Nat} {l : List Tok} (hF : Cel w F (.bool true)) (hI : Cel w I (.int .i64 i)) (hL : w.cell? ⟨L, 0, none⟩ = some (.slice q l.length c)) (hT : w.cell? ⟨T, 0, none⟩ = some (.int .i64 till))
    (hne : F ≠ I ∧ T ≠ F ∧ T ≠ I) (hi : 0 ≤ i) (ht : l[i.toNat]? = some t) (hl : l.length ≤ 2147483647) (hk : Toks w q l) :
    Rets Try.prog 41 #[tokV t, .pointer (some ⟨F, 0, none⟩), .pointer (some ⟨I, 0, none⟩), .pointer (some ⟨L, 0, none⟩), .pointer (some ⟨T, 0, none⟩)] w fun v w' =>
      v = .bool (i + 1 != till) ∧ Kp (fun j => j = F ∨ j = I) w w' ∧ Cel w' F (.bool true) ∧ Cel w' I (.int .i64 (i + 1)) := by
  refine ent [_, _, _, _, _] Try.func41 ((vcTry41 _ _ _ _ _ _ _ w _).mpr ?_)
  unfold VCTry41
  have hlt := (List.getElem?_eq_some_iff.1 ht).1
  have kA : Kp none_ w (w.alloc (.cells #[Value.int .u8 t.1, .int .i64 t.2.1, .int .i64 t.2.2] 49)).drew := ((Kp.refl none_ w).alloc1 _).drew
  generalize (w.alloc (.cells #[Value.int .u8 t.1, .int .i64 t.2.1, .int .i64 t.2.2] 49)).drew = WA at *
  have lF := hF.lt
  have lI := hI.lt
  have gF := hF.kp kA id
  have gI := hI.kp kA id
  obtain ⟨a, rfl, x0, x1, x2⟩ := (hk.kp0 kA) i.toNat t ht
  have gT := kA.cell0 hT
  simp only [ad_add, Nat.zero_add, Nat.add_zero]
  refine ⟨_, gF.cell, bif_b (fun _ => ?_) (fun h => by cases h)⟩
  refine ⟨_, gI.cell, _, _, _, kA.cell0 hL, bif_dec (fun _ => ?_) (fun h => by omega)⟩
  refine ⟨_, _, _, kA.cell0 hL, _, gI.cell, by omega, ?_⟩
  simp only [ptr_some, add_add, Nat.add_zero]
  refine ⟨_, _, _, ⟨x0, x1, x2, trivial⟩, trivial, ⟨_, gF.cell⟩, gF.frz, .inl (by dsimp only; omega), ?_⟩
  simp only [beq_self_eq_true, Bool.and_self]
  have sF := gF.set (.bool true)
  have sI := gI.off (.bool true) hne.1
  have tT : (WA.setCell ⟨F, 0, none⟩ (.bool true)).cell? ⟨T, 0, none⟩ = some (.int .i64 till) := by rw [cell_set_far _ (Ne.symm hne.2.1)]; exact gT
  refine ⟨_, sI.cell, wr64 (by omega) ⟨⟨_, sI.cell⟩, sI.frz, .inl (by dsimp only; omega), _, (sI.set _).cell, _, by rw [cell_set_far _ (Ne.symm hne.2.2)]; exact tT, fun _ => ⟨_, rfl, rfl, ?_, sF.off _ (Ne.symm hne.1), sI.set _⟩⟩⟩
  exact Kp.setCell (Kp.setCell (kA.mono fun _ _ h => h.elim) _ (.inl (.inl rfl))) _ (.inl (.inr rfl))
theorem isGo41 : isGo Try.prog 41 = true := by kernel_rfl
theorem c12 (hb : Ints w .u8 q n b) (hr : ∀ i : Int, 0 ≤ i → i < n → 0 ≤ b i ∧ b i < 256) (hcp : n ≤ cp) (level till : Int) :
    Rets Try.prog 12 #[.slice q n cp, .int .i64 level, .int .i64 till] w fun v w' => v = .bool true ∧ Kp none_ w w' := by
  refine ent [_, _, _] Try.func12 ((vcTry12 _ _ _ _ _ w _).mpr ?_)
  unfold VCTry12
  have k1 : Kp none_ w (w.alloc (.cells #[Value.int .i64 till] 3)) := (Kp.refl none_ w).alloc1 _
  have cT := Cel.new w (.int .i64 till) 3
  have s1 : (w.alloc (.cells #[Value.int .i64 till] 3)).heap.size = w.heap.size + 1 := alloc_size _ _
  have hqb : 0 < n → ∀ a, q = some a → a.block < w.heap.size := fun h0 a ha => by
    obtain ⟨a', e, hcl⟩ := hb 0 (by omega) (by omega)
    rw [ha] at e; cases e
    have := cell_lt hcl
    rwa [add_block] at this
  generalize w.alloc (.cells #[Value.int .i64 till] 3) = w1 at *
  generalize hT : w.heap.size = T at *
  refine bif_dec (fun _ _ => (c18 w1).mono ?_) (fun g1 _ => ?_)
  · rintro v w2 ⟨rfl, k2⟩
    exact ⟨_, rfl, k2.keeps (fun i hi => ⟨by simp at hi; omega, id⟩), fun _ => ⟨_, rfl, rfl, k1.trans k2⟩⟩
  have hlen : (toksF b n level).length ≤ 2147483647 := by
    have h1 := toks_len (tokAt b n (depthF level) (decide (level ≥ 2))) n 0
    unfold toksF
    omega
  refine (c32 (cp := cp) (hb.kp0 k1) hr (by omega) level).mono ?_
  rintro v w2 ⟨q2, c2, rfl, k2, hrow⟩
  have hq2 := OwnRow.block hrow
  have hk2 := Toks.of hrow
  obtain ⟨l, hl⟩ : ∃ l, l = toksF b n level := ⟨_, rfl⟩
  rw [← hl] at hrow hk2 hlen ⊢
  refine ⟨_, _, _, rfl, k2.keeps (fun i hi => ⟨by simp at hi; omega, id⟩), fun _ => ?_⟩
  have k3 : Kp none_ w2 ((w2.alloc (.cells #[Value.slice none 0 0] 42)).setCell ⟨w2.heap.size, 0, none⟩ (.slice q2 l.length c2)) := Kp.setCell ((Kp.refl none_ w2).alloc1 _) _ (.inr (Nat.le_refl _))
  have cL := (Cel.new w2 (.slice none 0 0) 42).set (.slice q2 l.length c2)
  have s3 : ((w2.alloc (.cells #[Value.slice none 0 0] 42)).setCell ⟨w2.heap.size, 0, none⟩ (.slice q2 l.length c2)).heap.size = w2.heap.size + 1 := by simp [World.setCell, alloc_size]
  have z2 := k2.size
  generalize (w2.alloc (.cells #[Value.slice none 0 0] 42)).setCell ⟨w2.heap.size, 0, none⟩ (.slice q2 l.length c2) = w3 at *
  generalize hL : w2.heap.size = L at *
  have k13 := (k1.trans k2).trans k3
  refine (c19 (hb.kp0 k13) hr hcp (by omega)).mono ?_
  rintro v wc ⟨rfl, kc, hc⟩
  have zc := kc.size
  refine ⟨_, rfl, kc.keeps (fun i hi => ⟨by simp at hi; omega, id⟩), fun _ => (c40 hc level).mono ?_⟩
  rintro v w4 ⟨Q, hi, k4, hQ, hQq⟩
  rw [← hl] at hi
  obtain ⟨kk, first, cap, rfl⟩ := hi.1
  have z4 := k4.size
  refine ⟨_, rfl, k4.keeps (fun i hi => ⟨by simp at hi; omega, id⟩), ?_⟩
  simp only [FnVal, cond_false]
  intro _
  have kI : Kp none_ w4 ((w4.alloc (.cells #[Value.int .i64 0] 3)).setCell ⟨w4.heap.size, 0, none⟩ (.int .i64 0)) := Kp.setCell ((Kp.refl none_ w4).alloc1 _) _ (.inr (Nat.le_refl _))
  have cI := (Cel.new w4 (.int .i64 0) 3).set (.int .i64 0)
  have sI : ((w4.alloc (.cells #[Value.int .i64 0] 3)).setCell ⟨w4.heap.size, 0, none⟩ (.int .i64 0)).heap.size = w4.heap.size + 1 := by simp [World.setCell, alloc_size]
  generalize (w4.alloc (.cells #[Value.int .i64 0] 3)).setCell ⟨w4.heap.size, 0, none⟩ (.int .i64 0) = w5 at *
  have kF : Kp none_ w5 ((w5.alloc (.cells #[Value.bool false] 4)).setCell ⟨w5.heap.size, 0, none⟩ (.bool true)) := Kp.setCell ((Kp.refl none_ w5).alloc1 _) _ (.inr (Nat.le_refl _))
  have cF := (Cel.new w5 (.bool false) 4).set (.bool true)
  have sF : ((w5.alloc (.cells #[Value.bool false] 4)).setCell ⟨w5.heap.size, 0, none⟩ (.bool true)).heap.size = w5.heap.size + 1 := by simp [World.setCell, alloc_size]
  generalize (w5.alloc (.cells #[Value.bool false] 4)).setCell ⟨w5.heap.size, 0, none⟩ (.bool true) = w6 at *
  have k46 := kI.trans kF
  have k36 := (kc.trans k4).trans k46
  have k26 := k3.trans k36
  have k16 := k2.trans k26
  have hA : CntA w w6 l q2 c2 w5.heap.size w4.heap.size L T w6.heap.size till 0 :=
    ⟨k13.trans k36, cF, cI.kp kF id, cL.kp k36 id, cT.kp k16 id, hk2.kp0 k26, ⟨by omega, by omega⟩, ⟨by omega, by omega⟩, Nat.le_refl _⟩
  have hbd : ∀ a, q2 = some a → w1.heap.size ≤ a.block ∧ a.block < L := fun a ha => by
    have h1 := hq2 a ha
    exact h1
  refine CallsVal.mono (told (till := till) (hi.later (k46.mono fun _ _ h => h.elim)) hA hlen (fun i h => ?_) (fun i h => ?_) (fun a ha => ?_) (by omega) (fun w7 t k x1 x2 x3 x4 x5 x6 x7 => ⟨isGo41, c41 x1 x2 x3 x4 (by omega) x5 x6 hlen x7⟩)) ?_
  · have h1 := h.1
    have h2 := h.2
    unfold fresh at h1
    exact ⟨by omega, by omega, by omega, by omega, by omega, fun a ha => by have := hbd a ha; omega⟩
  · rcases hQ i h with h | ⟨h0, a, ha, rfl⟩
    · omega
    · have := hqb h0 a ha
      omega
  · have := hbd a ha
    omega
  rintro v w7 ⟨rfl, Pv, ⟨m7, hv⟩, hP7, k, hB, hk⟩
  obtain ⟨b1, b2, b3, b4, b5, b6, b7, b8, b9⟩ := id hB
  refine ⟨rfl, ⟨b9, fun i hi => by cases hi⟩, _, b5.cell, b5.frz, _, _, _, b4.cell, b4.frz, _, b3.cell, b3.frz, _, b2.cell, b2.frz, ?_⟩
  have rest : Rets Try.prog 39 #[.pointer (some ⟨w3.heap.size, 0, none⟩), .int .i64 level] w7.drew fun v23 w24 => ∃ q25 n26 n27, v23 = .slice q25 n26 n27 ∧ Keeps w7.drew w24 [] ∧
      ∃ i28, w24.cell? ⟨T, 0, none⟩ = some (.int .i64 i28) ∧ w24.frozen? ⟨T, 0, none⟩ = false ∧ ∃ q29 n30 n31, w24.cell? ⟨L, 0, none⟩ = some (.slice q29 n30 n31) ∧ w24.frozen? ⟨L, 0, none⟩ = false ∧ ∃ i32, w24.cell? ⟨w4.heap.size, 0, none⟩ = some (.int .i64 i32) ∧ w24.frozen? ⟨w4.heap.size, 0, none⟩ = false ∧
        ∃ t33, w24.cell? ⟨w5.heap.size, 0, none⟩ = some (.bool t33) ∧ w24.frozen? ⟨w5.heap.size, 0, none⟩ = false ∧ w24.cell? ⟨L, 0, none⟩ = some (.slice q2 l.length c2) ∧
          (Known w24 [(T, [(0, .int .i64 i28)]), (L, [(0, .slice q29 n30 n31)]), (w4.heap.size, [(0, .int .i64 i32)]), (w5.heap.size, [(0, .bool t33)])] →
            Rets Try.prog 30 #[.slice q25 n26 n27, .slice q2 l.length c2] w24 fun v34 w35 => ∃ t36, v34 = .bool t36 ∧ Keeps w24 w35 [] ∧
              ∃ i37, w35.cell? ⟨T, 0, none⟩ = some (.int .i64 i37) ∧ w35.frozen? ⟨T, 0, none⟩ = false ∧ ∃ q38 n39 n40, w35.cell? ⟨L, 0, none⟩ = some (.slice q38 n39 n40) ∧ w35.frozen? ⟨L, 0, none⟩ = false ∧ ∃ i41, w35.cell? ⟨w4.heap.size, 0, none⟩ = some (.int .i64 i41) ∧ w35.frozen? ⟨w4.heap.size, 0, none⟩ = false ∧
                ∃ t42, w35.cell? ⟨w5.heap.size, 0, none⟩ = some (.bool t42) ∧ w35.frozen? ⟨w5.heap.size, 0, none⟩ = false ∧
                  bif t36 then (Known w35 [(T, [(0, .int .i64 i37)]), (L, [(0, .slice q38 n39 n40)]), (w4.heap.size, [(0, .int .i64 i41)]), (w5.heap.size, [(0, .bool t42)])] →
                    Rets Try.prog 18 #[] w35 fun v43 w44 => ∃ t45 : Bool, v43 = .bool t45 ∧ Keeps w35 w44 [] ∧
                      ∃ i46, w44.cell? ⟨T, 0, none⟩ = some (.int .i64 i46) ∧ w44.frozen? ⟨T, 0, none⟩ = false ∧ ∃ q47 n48 n49, w44.cell? ⟨L, 0, none⟩ = some (.slice q47 n48 n49) ∧ w44.frozen? ⟨L, 0, none⟩ = false ∧ ∃ i50, w44.cell? ⟨w4.heap.size, 0, none⟩ = some (.int .i64 i50) ∧ w44.frozen? ⟨w4.heap.size, 0, none⟩ = false ∧
                        ∃ t51, w44.cell? ⟨w5.heap.size, 0, none⟩ = some (.bool t51) ∧ w44.frozen? ⟨w5.heap.size, 0, none⟩ = false ∧
                          (Known w44 [(T, [(0, .int .i64 i46)]), (L, [(0, .slice q47 n48 n49)]), (w4.heap.size, [(0, .int .i64 i50)]), (w5.heap.size, [(0, .bool t51)])] → ∃ v', Ending.returned (.bool t45) = .returned v' ∧ v' = .bool true ∧ Kp none_ w w44))
                  else (Known w35 [(T, [(0, .int .i64 i37)]), (L, [(0, .slice q38 n39 n40)]), (w4.heap.size, [(0, .int .i64 i41)]), (w5.heap.size, [(0, .bool t42)])] → ∃ v', Ending.returned (.bool false) = .returned v' ∧ v' = .bool true ∧ Kp none_ w w35)) := by
    refine (c39 hv.drew level).mono ?_
    rintro v w8 ⟨q8, c8, rfl, k8, h8⟩
    rw [← hl] at h8 ⊢
    have hB8 := hB.move k8.of_drew hP7
    obtain ⟨d1, d2, d3, d4, d5, d6, _⟩ := id hB8
    refine ⟨_, _, _, rfl, k8.keeps0, _, d5.cell, d5.frz, _, _, _, d4.cell, d4.frz, _, d3.cell, d3.frz, _, d2.cell, d2.frz, d4.cell, fun _ => (c30 hlen (Toks.of h8) d6).mono ?_⟩
    rintro v w9 ⟨rfl, k9⟩
    have hB9 := hB8.move k9 (fun _ h => h.elim)
    obtain ⟨e1, e2, e3, e4, e5, e6, _⟩ := id hB9
    refine ⟨_, rfl, k9.keeps0, _, e5.cell, e5.frz, _, _, _, e4.cell, e4.frz, _, e3.cell, e3.frz, _, e2.cell, e2.frz, bif_b (fun _ _ => (c18 w9).mono ?_) (fun h => by cases h)⟩
    rintro v wx ⟨rfl, kx⟩
    exact ⟨_, rfl, kx.keeps0, _, (e5.kp kx id).cell, (e5.kp kx id).frz, _, _, _, (e4.kp kx id).cell, (e4.kp kx id).frz, _, (e3.kp kx id).cell, (e3.kp kx id).frz, _, (e2.kp kx id).cell, (e2.kp kx id).frz, fun _ => ⟨_, rfl, rfl, e1.trans kx⟩⟩
  refine bif_dec (fun h1 => bif_dec (fun h2 => ?_) (fun h2 => ?_)) (fun h1 => ?_)
  · rw [if_pos (by omega)] at hk
    exact bif_b (fun _ => bif_eq (fun _ _ => rest) (fun h => absurd hk h)) (fun h => by cases h)
  · rw [if_neg (by omega)] at hk
    exact bif_b (fun _ => bif_eq (fun _ _ => rest) (fun h => absurd hk h)) (fun h => by cases h)
  · rw [if_neg (by omega)] at hk
    exact bif_b (fun _ => bif_eq (fun _ _ => rest) (fun h => absurd hk h)) (fun h => by cases h)
end
end Go.Proofs.Ytodgnegbaigdbaa
