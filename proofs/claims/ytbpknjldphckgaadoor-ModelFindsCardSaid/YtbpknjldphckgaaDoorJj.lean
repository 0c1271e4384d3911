/- Model: what may be told; what may stand beside it. -/
import Derived.Test.YtbpknjldphckgaaDoorJi
namespace Go.Proofs.YtbpknjldphckgaaDoor
open Go Go.SX Go.Proofs Go.Lib
set_option maxRecDepth 100000
set_option linter.unusedVariables false
set_option linter.unusedSimpArgs false
theorem told_arg {m : MM} {o : Stp} {e : Int} (h : o.kind < 1 ∨ o.kind > 18) : toldM m o e = (e == 1) := by unfold toldM; rw [if_pos h]
theorem told_ok {m : MM} {o : Stp} {e : Int} (h : 15 < o.kind ∧ o.kind ≤ 18) : toldM m o e = (e == 0) := by unfold toldM; rw [if_neg (by omega), if_pos (by omega)]
theorem told_1 {m : MM} {o : Stp} {e : Int} (h : o.kind = 1) : toldM m o e = (e == 16 && someM m true || e == 0 && someM m false) := by
  unfold toldM; rw [if_neg (by omega), if_neg (by omega), if_pos h, Bool.or_comm]
theorem told_2o {m : MM} {o : Stp} {e : Int} (h : o.kind = 2) (ho : m.opn = true) : toldM m o e = (e == 8) := by
  unfold toldM; rw [if_neg (by omega), if_neg (by omega), if_neg (by omega), if_pos ⟨h, ho⟩]
theorem told_2 {m : MM} {o : Stp} {e : Int} (h : o.kind = 2) (ho : m.opn = false) : toldM m o e = (e == 0 && someM m true || e == 7 && someM m false) := by
  unfold toldM; rw [if_neg (by omega), if_neg (by omega), if_neg (by omega), if_neg (fun hh => by rw [ho] at hh; cases hh.2), if_pos (.inl h)]
theorem told_15 {m : MM} {o : Stp} {e : Int} (h : o.kind = 15) : toldM m o e = (e == 0 && someM m true || e == 7 && someM m false) := by
  unfold toldM; rw [if_neg (by omega), if_neg (by omega), if_neg (by omega), if_neg (by omega), if_pos (.inr h)]
theorem told_c {m : MM} {o : Stp} {e : Int} (h : 3 ≤ o.kind ∧ o.kind ≤ 14) (ho : m.opn = false) : toldM m o e = (e == 12) := by
  unfold toldM; rw [if_neg (by omega), if_neg (by omega), if_neg (by omega), if_neg (by omega), if_neg (by omega), if_pos ho]
theorem told_i {m : MM} {o : Stp} {e : Int} (h : 3 ≤ o.kind ∧ o.kind ≤ 14) (ho : m.opn = true) : toldM m o e = (e == insE m o) := by
  unfold toldM; rw [if_neg (by omega), if_neg (by omega), if_neg (by omega), if_neg (by omega), if_neg (by omega), if_neg (by rw [ho]; decide)]
theorem c176 {w : World} (hml : ML w) {b : Nat} {p : MM} (h : MRd w b p) (ok : OkP p) (o : Ox) (x : Int) : Rets Tryd.prog 176 #[pt b, opV o, .int .i64 x] w fun v w' => v = .bool (toldM p o.stp x) ∧ Kp none_ w w' := by
  refine ent [_, _, _] Tryd.func176 ((vcTryd176 _ _ _ _ _ _ _ _ _ _ _ _ _ w _).mpr ?_)
  unfold VCTryd176
  obtain ⟨k0, z0⟩ := opKp w o
  rw [opEq]
  generalize w.alloc (.cells (opC o) 124) = W at *
  have h0 := h.kp0 k0
  have hb : ∀ b ∈ [w.heap.size], b < W.heap.size := fun b hb => by
    rw [List.mem_singleton] at hb
    subst hb
    exact z0
  simp only [ptr_some, ad_add, Nat.zero_add]
  have H : ∀ y z, _ := fun y z => c190 h0 ok x y z
  have fin : ∀ {t : Bool} {P : Prop}, toldM p o.stp x = t → P → ∃ v, Ending.returned (.bool t) = Ending.returned v ∧ v = .bool (toldM p o.stp x) ∧ Kp none_ w W := fun e _ => ⟨_, rfl, by rw [e], k0⟩
  have HI : 3 ≤ o.k ∧ o.k ≤ 14 → p.opn = true → ∀ {P : Prop} {Q : World → Prop}, P → Rets Tryd.prog 191 #[pt b, opV o] W fun v w' => ∃ i : Int, v = .int .i64 i ∧ Keeps W w' [w.heap.size] ∧ (Q w' → ∃ v, Ending.returned (.bool (x == i)) = Ending.returned v ∧ v = .bool (toldM p o.stp x) ∧ Kp none_ w w') := fun hk ho P Q _ => by
    refine (c191 (hml.kp0 k0) h0 ok o hk).mono ?_
    rintro v w1 ⟨rfl, k1⟩
    exact ⟨_, rfl, k1.keeps fun b hbb => ⟨hb b hbb, id⟩, fun _ => ⟨_, rfl, by rw [told_i (o := o.stp) hk ho], k0.trans k1⟩⟩
  repeat' first
    | refine bif_dec (fun _ => ?_) (fun _ => ?_)
    | refine bif_eq (fun _ => ?_) (fun _ => ?_)
    | (refine ⟨_, h0.opn, ?_⟩; first | refine bif_not (fun ho => ?_) (fun ho => ?_) | refine bif_b (fun ho => ?_) (fun ho => ?_))
  all_goals first
    | (exfalso; omega)
    | exact fin (told_arg (o := o.stp) (by show o.k < 1 ∨ o.k > 18; omega))
    | exact fin (told_ok (o := o.stp) (by show 15 < o.k ∧ o.k ≤ 18; omega))
    | exact fin (told_2o (o := o.stp) (by show o.k = 2; omega) (by assumption))
    | exact fin (told_c (o := o.stp) (by show 3 ≤ o.k ∧ o.k ≤ 14; omega) (by assumption))
    | exact leafB (H _ _) k0 hb (told_1 (o := o.stp) (by show o.k = 1; omega)).symm
    | exact leafB (H _ _) k0 hb (told_2 (o := o.stp) (by show o.k = 2; omega) (by assumption)).symm
    | exact leafB (H _ _) k0 hb (told_15 (o := o.stp) (by show o.k = 15; omega)).symm
    | exact HI (by omega) (by assumption)
theorem c175 (k : Int) (w : World) : Rets Tryd.prog 175 #[.int .i64 k] w fun v w' => v = .bool (callsM k) ∧ w' = w := by
  refine ent [_] Tryd.func175 ((vcTryd175 _ w _).mpr ?_)
  unfold VCTryd175
  have e1 : (1 ≤ k ∧ k ≤ 6) ∨ (11 ≤ k ∧ k ≤ 14) → ∃ v, Ending.returned (.bool true) = Ending.returned v ∧ v = .bool (callsM k) ∧ w = w := fun h => ⟨_, rfl, by unfold callsM; rw [decide_eq_true h], rfl⟩
  have e2 : ¬ ((1 ≤ k ∧ k ≤ 6) ∨ (11 ≤ k ∧ k ≤ 14)) → ∃ v, Ending.returned (.bool false) = Ending.returned v ∧ v = .bool (callsM k) ∧ w = w := fun h => ⟨_, rfl, by unfold callsM; rw [decide_eq_false h], rfl⟩
  repeat' first
    | refine bif_eq (fun _ => ?_) (fun _ => ?_)
  all_goals first
    | (exfalso; omega)
    | exact e1 (by omega)
    | exact e2 (by omega)
theorem anKp (w : World) (a : Ax) : Kp none_ w (w.alloc (.cells (anC a) 126)) ∧ w.heap.size < (w.alloc (.cells (anC a) 126)).heap.size := ⟨(Kp.refl none_ w).alloc1 _, by rw [alloc_size]; omega⟩
theorem c177 (a : Ax) (w : World) : Rets Tryd.prog 177 #[anV a] w fun v w' => v = .bool (bareA a.ans) ∧ Kp none_ w w' := by
  refine ent [_] Tryd.func177 ((vcTryd177 _ _ _ _ _ _ _ _ _ _ _ _ _ w _).mpr ?_)
  unfold VCTryd177
  obtain ⟨k0, z0⟩ := anKp w a
  rw [anEq]
  generalize w.alloc (.cells (anC a) 126) = W at *
  have le : ∀ {α : Type} [BEq α] [LawfulBEq α] (l : List α), ((l.length : Int) = 0) → (l == []) = true := fun l h => by
    have : l = [] := List.eq_nil_of_length_eq_zero (by omega)
    rw [this]; rfl
  have ln : ∀ {α : Type} [BEq α] [LawfulBEq α] (l : List α), ((l.length : Int) ≠ 0) → (l == []) = false := fun l h => by
    cases l with
    | nil => simp at h
    | cons x r => rfl
  refine bif_eq (fun h1 => bif_eq (fun h2 => bif_eq (fun h3 _ => ⟨_, rfl, ?_, k0⟩) (fun h3 _ => ⟨_, rfl, ?_, k0⟩)) (fun h2 _ => ⟨_, rfl, ?_, k0⟩)) (fun h1 _ => ⟨_, rfl, ?_, k0⟩)
  · congr 1
    unfold bareA
    simp only [Ax.ans, le _ h1, le _ h3, h2, beq_self_eq_true, Bool.true_and]
    rw [Bool.eq_iff_iff]
    simp only [beq_iff_eq, decide_eq_true_eq]
    constructor
    · intro h; exact List.eq_nil_of_length_eq_zero (by omega)
    · intro h; rw [h]; rfl
  · unfold bareA
    simp only [Ax.ans, ln _ h3, Bool.and_false, Bool.false_and]
  · have : (a.z == 0) = false := by simpa using h2
    unfold bareA
    simp only [Ax.ans, this, Bool.and_false, Bool.false_and]
  · unfold bareA
    simp only [Ax.ans, ln _ h1, Bool.and_false, Bool.false_and]
theorem bif_not' {c : Bool} {A B : Prop} (h : c = false → A) (k : c = true → B) : bif !c then A else B := bif_not h k
theorem c144 {w : World} {b : Nat} {p : MM} (h : MRd w b p) (o : Ox) (a : Ax) : Rets Tryd.prog 144 #[pt b, opV o, anV a] w fun v w' => v = .bool (!openM p o.stp a.ans) ∧ Kp none_ w w' := by
  refine ent [_, _, _] Tryd.func144 ((vcTryd144 _ _ _ _ _ _ _ _ _ _ _ _ _ _ _ _ _ _ _ _ _ _ _ _ _ w _).mpr ?_)
  unfold VCTryd144
  obtain ⟨k0, z0⟩ := opKp w o
  rw [opEq, anEq]
  generalize w.alloc (.cells (opC o) 124) = W0 at *
  obtain ⟨k1, z1⟩ := anKp W0 a
  generalize W0.alloc (.cells (anC a) 126) = W at *
  have K := k0.trans k1
  have h0 := h.kp0 K
  simp only [ptr_some, ad_add, Nat.zero_add]
  have fin : ∀ {t : Bool} {P : Prop}, (!openM p o.stp a.ans) = t → P → ∃ v, Ending.returned (.bool t) = Ending.returned v ∧ v = .bool (!openM p o.stp a.ans) ∧ Kp none_ w W := fun e _ => ⟨_, rfl, by rw [e], K⟩
  refine bif_eq (fun hk => fin ?_) (fun hk => bif_eq (fun hk2 => ⟨_, h0.opn, bif_not (fun ho => fin ?_) (fun ho => fin ?_)⟩) (fun hk2 => bif_eq (fun hk3 => ⟨_, h0.opn, bif_not (fun ho => fin ?_) (fun ho => fin ?_)⟩) (fun hk3 => ⟨_, h0.opn, fin ?_⟩)))
  · unfold openM; rw [if_neg (by show ¬ (o.k = 2 ∧ _); omega), if_pos (.inl hk)]; rfl
  · unfold openM
    rw [if_neg (by show ¬ (o.k = 2 ∧ _); omega)]
    split
    · rfl
    · rw [ho]; rfl
  · unfold openM
    rw [if_neg (by show ¬ (o.k = 2 ∧ _); omega)]
    by_cases he : a.e = 8
    · rw [if_neg (by rintro (h | h); exact hk h; exact h.2 he), ho]
      simp [he]
    · rw [if_pos (.inr ⟨hk2, he⟩)]
      simp [he]
  · unfold openM
    by_cases he : a.e = 0
    · rw [if_pos ⟨hk3, he⟩]; simp [he]
    · rw [if_neg (fun hh => he hh.2), if_neg (by rintro (h | h); exact hk h; exact hk2 h.1), ho]
      simp [he]
  · unfold openM
    by_cases he : a.e = 0
    · rw [if_pos ⟨hk3, he⟩]; rfl
    · rw [if_neg (fun hh => he hh.2), if_neg (by rintro (h | h); exact hk h; exact hk2 h.1), ho]
      rfl
  · unfold openM
    rw [if_neg (fun hh => hk3 hh.1), if_neg (by rintro (h | h); exact hk h; exact hk2 h.1)]
theorem c143 {w : World} {b : Nat} {p : MM} (h : MRd w b p) (o : Ox) (a : Ax) : Rets Tryd.prog 143 #[pt b, opV o, anV a] w fun v w' => v = .bool (poisonM p o.stp a.ans) ∧ Kp none_ w w' := by
  refine ent [_, _, _] Tryd.func143 ((vcTryd143 _ _ _ _ _ _ _ _ _ _ _ _ _ _ _ _ _ _ _ _ _ _ _ _ _ w _).mpr ?_)
  unfold VCTryd143
  obtain ⟨k0, z0⟩ := opKp w o
  rw [opEq, anEq]
  generalize w.alloc (.cells (opC o) 124) = W0 at *
  obtain ⟨k1, z1⟩ := anKp W0 a
  generalize W0.alloc (.cells (anC a) 126) = W at *
  have K := k0.trans k1
  have h0 := h.kp0 K
  simp only [ptr_some, ad_add, Nat.zero_add]
  intro _
  refine (c144 h0 o a).mono ?_
  rintro v w1 ⟨rfl, k2⟩
  have K2 := K.trans k2
  have h2 := h.kp0 K2
  have h3 := h.kp0 K2.drew
  have hb : ∀ b ∈ [w.heap.size, W0.heap.size], b < W.heap.size := fun b hb => by
    simp only [List.mem_cons, List.not_mem_nil, or_false] at hb
    rcases hb with rfl | rfl
    · exact Nat.lt_of_lt_of_le z0 k1.size
    · exact z1
  have fin : ∀ {t : Bool} {P : Prop}, poisonM p o.stp a.ans = t → P → ∃ v, Ending.returned (.bool t) = Ending.returned v ∧ v = .bool (poisonM p o.stp a.ans) ∧ Kp none_ w w1 := fun e _ => ⟨_, rfl, by rw [e], K2⟩
  have find : ∀ {t : Bool} {P : Prop}, poisonM p o.stp a.ans = t → P → ∃ v, Ending.returned (.bool t) = Ending.returned v ∧ v = .bool (poisonM p o.stp a.ans) ∧ Kp none_ w w1.drew := fun e _ => ⟨_, rfl, by rw [e], K2.drew⟩
  refine ⟨_, rfl, k2.keeps fun b hbb => ⟨hb b hbb, id⟩, bif_not' (fun hc => fin ?_) (fun hc => ⟨_, h2.opn, bif_not (fun ho => fin ?_) (fun ho => ?_)⟩)⟩
  · unfold poisonM; rw [if_pos (.inl hc)]
  · unfold poisonM; rw [if_pos (.inr ho)]
  have e0 : poisonM p o.stp a.ans = (if a.re = true ∧ o.k = 12 then a.po else (a.re && o.k == 13) || a.po == p.poisoned) := by
    unfold poisonM; rw [if_neg (by rintro (h | h); rw [h] at hc; cases hc; rw [h] at ho; cases ho)]
  refine bif_b (fun hr => bif_eq (fun hk => fin ?_) (fun hk => bif_b (fun _ => bif_eq (fun hk2 => fin ?_) (fun hk2 => ⟨_, h3.poi, find ?_⟩)) (fun hr2 => by rw [hr] at hr2; cases hr2))) (fun hr => bif_b (fun hr2 => by rw [hr] at hr2; cases hr2) (fun _ => ⟨_, h3.poi, find ?_⟩))
  · rw [e0, if_pos ⟨hr, hk⟩]
  · rw [e0, if_neg (fun hh => hk hh.2), hr, hk2]; rfl
  · rw [e0, if_neg (fun hh => hk hh.2), hr]
    have : (o.k == 13) = false := by simpa using hk2
    rw [this]; rfl
  · rw [e0, if_neg (fun hh => by rw [hr] at hh; cases hh.1), hr]; rfl
end Go.Proofs.YtbpknjldphckgaaDoor
