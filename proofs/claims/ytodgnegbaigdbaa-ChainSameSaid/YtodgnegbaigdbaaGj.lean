import Derived.Test.YtodgnegbaigdbaaGi
namespace Go.Proofs.Ytodgnegbaigdbaa
open Go Go.SX Go.Proofs
set_option maxRecDepth 100000
set_option linter.unusedVariables false
set_option linter.unusedSimpArgs false
theorem exF_cons {most : Int} {t : Tok} {r : List Tok} {out : List Int} : exF most (t :: r) out = if rightT t = false ∨ t.2.2 > out.length then ([], 3) else if max 1 t.2.1 > most - out.length then ([], 5) else exF most r (if t.2.1 = 0 then out ++ [t.1] else copyN t.2.1.toNat t.2.2 out) := rfl
theorem rightT_len {t : Tok} (h : rightT t = true) : (0 ≤ t.2.1 ∧ t.2.1 ≤ 258) ∧ (t.2.1 = 0 → t.2.2 = 0) ∧ (0 < t.2.1 → 1 ≤ t.2.2) := by
  unfold rightT at h
  split at h
  · have := of_decide_eq_true h; omega
  · have := of_decide_eq_true h; omega
section
variable {w w' : World} {q : Option Addr} {n cp : Nat}
/-- What an expansion hands back. -/
def ExRes (w : World) (r : List Int × Int) (v : Value) (w' : World) : Prop :=
  (∃ q c, v = .tuple #[.slice q r.1.length c, .int .i64 r.2] ∧ OwnRow w' (fresh w) 5 1 (.slice q r.1.length c) r.1.length (byR r.1)) ∧ Kp none_ w w'
theorem temp3 (w6 : World) (v0 v1 v2 : Value) : Kp none_ w6 ((((w6.alloc (.cells #[Value.int .u8 0, .int .i64 0, .int .i64 0] 49)).setCell ⟨w6.heap.size, 0, none⟩ v0).setCell ⟨w6.heap.size, 1, none⟩ v1).setCell ⟨w6.heap.size, 2, none⟩ v2) :=
  Kp.setCell (Kp.setCell (Kp.setCell ((Kp.refl none_ w6).alloc1 _) _ (.inr (Nat.le_refl _))) _ (.inr (Nat.le_refl _))) _ (.inr (Nat.le_refl _))
theorem temp3s (w6 : World) (v0 v1 v2 : Value) : ((((w6.alloc (.cells #[Value.int .u8 0, .int .i64 0, .int .i64 0] 49)).setCell ⟨w6.heap.size, 0, none⟩ v0).setCell ⟨w6.heap.size, 1, none⟩ v1).setCell ⟨w6.heap.size, 2, none⟩ v2).heap.size = w6.heap.size + 1 := by
  simp only [World.setCell, Array.size_modify, alloc_size]
/-- Where an expansion stands at the head of its loop. -/
def ExInv (w : World) (l : List Tok) (most : Int) (i : Int) (q' : Option Addr) (m c : Nat) (w1 : World) : Prop :=
  (0 ≤ i ∧ i ≤ l.length) ∧ ∃ o : List Int, exF most l [] = exF most (l.drop i.toNat) o ∧ m = o.length ∧ (o.length : Int) ≤ 258 * i ∧ (o.length = 0 ∨ (o.length : Int) ≤ most) ∧ OwnRow w1 (fresh w) 5 1 (.slice q' m c) o.length (byR o) ∧ Kp none_ w w1
theorem drop_get {l : List Tok} {i : Nat} {t : Tok} (h : l[i]? = some t) : l.drop i = t :: l.drop (i + 1) := by
  have hlt := (List.getElem?_eq_some_iff.1 h).1
  rw [List.drop_eq_getElem_cons hlt]
  congr 1
  rw [List.getElem?_eq_getElem hlt] at h
  exact Option.some.inj h
theorem c42 {l : List Tok} (hk : Toks w q l) (hl : l.length ≤ 8000) (most : Int) (hm : -9223372036854775808 ≤ most ∧ most < 9223372036854775808) :
    Rets Try.prog 42 #[.slice q l.length cp, .int .i64 most] w fun v w' => ExRes w (exF most l []) v w' := by
  refine ent [_, _] Try.func42 ((vcTry42 _ _ _ _ w _).mpr ?_)
  unfold VCTry42
  refine ⟨ExInv w l most, fun i _ _ _ _ => (l.length - i).toNat, ⟨by omega, [], rfl, rfl, by simp, .inl rfl, OwnRow.nil _ _ _ _, Kp.refl _ _⟩, ?_⟩
  rintro i q' m c w6 ⟨hi, o, ho, rfl, hol, hom, hrow, k6⟩
  refine bif_dec (fun hlt => ?_) (fun hge => ?_)
  rotate_left
  · have : l.drop i.toNat = [] := List.drop_eq_nil_of_le (by omega)
    rw [this] at ho
    exact ⟨_, rfl, ⟨q', c, by rw [ho]; rfl, by rw [ho]; exact hrow⟩, k6⟩
  obtain ⟨t, ht⟩ : ∃ t, l[i.toNat]? = some t := ⟨l[i.toNat]'(by omega), List.getElem?_eq_getElem _⟩
  obtain ⟨a, rfl, x0, x1, x2⟩ := (hk.kp0 k6) i.toNat t ht
  rw [drop_get ht, exF_cons] at ho
  simp only [ptr_some, add_add, Nat.add_zero]
  refine ⟨by omega, _, _, _, ⟨x0, x1, x2, trivial⟩, fun _ => (c45 _ t).mono ?_⟩
  rintro v w7 ⟨rfl, k7⟩
  have kT := temp3 w6 (.int .u8 t.1) (.int .i64 t.2.1) (.int .i64 t.2.2)
  have sT := temp3s w6 (.int .u8 t.1) (.int .i64 t.2.1) (.int .i64 t.2.2)
  generalize ((((w6.alloc (.cells #[Value.int .u8 0, .int .i64 0, .int .i64 0] 49)).setCell ⟨w6.heap.size, 0, none⟩ (.int .u8 t.1)).setCell ⟨w6.heap.size, 1, none⟩ (.int .i64 t.2.1)).setCell ⟨w6.heap.size, 2, none⟩ (.int .i64 t.2.2)) = WT at *
  have kw := (k6.trans kT).trans k7
  have z7 := k7.size
  have err : ∀ e, exF most l [] = ([], e) → ∃ v, Ending.returned (.tuple #[.slice none 0 0, .int .i64 e]) = .returned v ∧ ExRes w (exF most l []) v w7 := fun e he => by
    rw [he]
    exact ⟨_, rfl, ⟨none, 0, rfl, OwnRow.nil _ _ _ _⟩, kw⟩
  refine ⟨_, rfl, k7.keeps (fun j hj => ⟨by simp at hj; omega, id⟩), bif_not (fun hr _ => err 3 (by rw [ho, if_pos (.inl hr)])) (fun hr => bif_dec (fun hd _ => err 3 (by rw [ho, if_pos (.inr hd)])) (fun hd => ?_))⟩
  obtain ⟨g1, g2, g3⟩ := rightT_len hr
  rw [if_neg (by rw [hr]; simp; omega)] at ho
  refine wr64 (by omega) ?_
  rw [maxI_max]
  refine bif_dec (fun hx _ => err 5 (by rw [ho, if_pos hx])) (fun hx => ?_)
  rw [if_neg hx] at ho
  have hrow7 : OwnRow w7 (fun i => fresh w i ∧ i ≠ w6.heap.size) 5 1 (.slice q' o.length c) o.length (byR o) := ((hrow.mono fun i hi hl => ⟨hi, by omega⟩).kp kT fun _ _ _ _ _ => id).kp k7 fun _ _ _ _ _ => id
  have hi1 : (i + 1).toNat = i.toNat + 1 := by omega
  refine bif_eq (fun h0 => ?_) (fun h0 => ?_)
  · rw [if_pos h0] at ho
    refine by_append t.1 hrow7 (by omega) kw (by omega) fun q2 c2 w8 r8 k8 hT8 hkeep => ⟨_, _, _, rfl, hkeep, ?_⟩
    have e0 : copyN t.2.1.toNat t.2.2 (o ++ [t.1]) = o ++ [t.1] := by rw [h0]; rfl
    refine copyLoop t g1 (by omega) (by simp; omega) r8 hT8 k8 fun q3 c3 w9 r9 k9 hT9 => wr64 (by omega) ⟨⟨by omega, o ++ [t.1], ?_, by rw [e0], ?_, ?_, ?_, k9⟩, by omega⟩
    · rw [ho, hi1]
    · simp; omega
    · simp; omega
    · rw [e0] at r9 ⊢; exact r9.mono fun i hi _ => hi.1
  · rw [if_neg h0] at ho
    refine copyLoop t g1 (by omega) (by omega) hrow7 (by omega) kw fun q3 c3 w9 r9 k9 hT9 => wr64 (by omega) ⟨⟨by omega, copyN t.2.1.toNat t.2.2 o, ?_, rfl, ?_, ?_, r9.mono fun i hi _ => hi.1, k9⟩, by omega⟩
    · rw [ho, hi1]
    · rw [copyN_len]; omega
    · rw [copyN_len]; omega
theorem c43 {l : List Tok} (hk : Toks w q l) (hl : l.length ≤ 8000) (most : Int) (hm : -9223372036854775808 ≤ most ∧ most < 9223372036854775808) :
    Rets Try.prog 43 #[.slice q l.length cp, .int .i64 most] w fun v w' => ExRes w (exF most l []) v w' := by
  refine ent [_, _] Try.func43 ((vcTry43 _ _ _ _ w _).mpr ?_)
  unfold VCTry43
  refine ⟨ExInv w l most, fun i _ _ _ _ => (l.length - i).toNat, ⟨by omega, [], rfl, rfl, by simp, .inl rfl, OwnRow.nil _ _ _ _, Kp.refl _ _⟩, ?_⟩
  rintro i q' m c w6 ⟨hi, o, ho, rfl, hol, hom, hrow, k6⟩
  refine bif_dec (fun hlt => ?_) (fun hge => ?_)
  rotate_left
  · have : l.drop i.toNat = [] := List.drop_eq_nil_of_le (by omega)
    rw [this] at ho
    exact ⟨_, rfl, ⟨q', c, by rw [ho]; rfl, by rw [ho]; exact hrow⟩, k6⟩
  obtain ⟨t, ht⟩ : ∃ t, l[i.toNat]? = some t := ⟨l[i.toNat]'(by omega), List.getElem?_eq_getElem _⟩
  obtain ⟨a, rfl, x0, x1, x2⟩ := (hk.kp0 k6) i.toNat t ht
  rw [drop_get ht, exF_cons] at ho
  simp only [ptr_some, add_add, Nat.add_zero]
  refine ⟨by omega, _, _, _, ⟨x0, x1, x2, trivial⟩, fun _ => (c46 _ t).mono ?_⟩
  rintro v w7 ⟨rfl, k7⟩
  have kT := temp3 w6 (.int .u8 t.1) (.int .i64 t.2.1) (.int .i64 t.2.2)
  have sT := temp3s w6 (.int .u8 t.1) (.int .i64 t.2.1) (.int .i64 t.2.2)
  generalize ((((w6.alloc (.cells #[Value.int .u8 0, .int .i64 0, .int .i64 0] 49)).setCell ⟨w6.heap.size, 0, none⟩ (.int .u8 t.1)).setCell ⟨w6.heap.size, 1, none⟩ (.int .i64 t.2.1)).setCell ⟨w6.heap.size, 2, none⟩ (.int .i64 t.2.2)) = WT at *
  have kw := (k6.trans kT).trans k7
  have z7 := k7.size
  have err : ∀ e, exF most l [] = ([], e) → ∃ v, Ending.returned (.tuple #[.slice none 0 0, .int .i64 e]) = .returned v ∧ ExRes w (exF most l []) v w7 := fun e he => by
    rw [he]
    exact ⟨_, rfl, ⟨none, 0, rfl, OwnRow.nil _ _ _ _⟩, kw⟩
  refine ⟨_, rfl, k7.keeps (fun j hj => ⟨by simp at hj; omega, id⟩), bif_not (fun hr _ => err 3 (by rw [ho, if_pos (.inl hr)])) (fun hr => bif_dec (fun hd _ => err 3 (by rw [ho, if_pos (.inr hd)])) (fun hd => ?_))⟩
  obtain ⟨g1, g2, g3⟩ := rightT_len hr
  rw [if_neg (by rw [hr]; simp; omega)] at ho
  have hrow7 : OwnRow w7 (fun i => fresh w i ∧ i ≠ w6.heap.size) 5 1 (.slice q' o.length c) o.length (byR o) := ((hrow.mono fun i hi hl => ⟨hi, by omega⟩).kp kT fun _ _ _ _ _ => id).kp k7 fun _ _ _ _ _ => id
  have hi1 : (i + 1).toNat = i.toNat + 1 := by omega
  refine bif_eq (fun h0 => bif_dec (fun hx _ => err 5 (by rw [ho, if_pos (by omega)])) (fun hx => wr64 (by omega) (bif_dec (fun hx2 _ => err 5 (by rw [ho, if_pos (by omega)])) (fun hx2 => bif_eq (fun _ => ?_) (fun h => absurd h0 h)))))
    (fun h0 => bif_dec (fun hx _ => err 5 (by rw [ho, if_pos (by omega)])) (fun hx => wr64 (by omega) (bif_dec (fun hx2 _ => err 5 (by rw [ho, if_pos (by omega)])) (fun hx2 => bif_eq (fun h => absurd h h0) (fun _ => ?_)))))
  · rw [if_neg (by omega), if_pos h0] at ho
    refine by_append t.1 hrow7 (by omega) kw (by omega) fun q2 c2 w8 r8 k8 hT8 hkeep => ⟨_, _, _, rfl, hkeep, ?_⟩
    have e0 : copyN t.2.1.toNat t.2.2 (o ++ [t.1]) = o ++ [t.1] := by rw [h0]; rfl
    refine copyLoop t g1 (by omega) (by simp; omega) r8 hT8 k8 fun q3 c3 w9 r9 k9 hT9 => wr64 (by omega) ⟨⟨by omega, o ++ [t.1], ?_, by rw [e0], ?_, ?_, ?_, k9⟩, by omega⟩
    · rw [ho, hi1]
    · simp; omega
    · simp; omega
    · rw [e0] at r9 ⊢; exact r9.mono fun i hi _ => hi.1
  · rw [if_neg (by omega), if_neg h0] at ho
    refine copyLoop t g1 (by omega) (by omega) hrow7 (by omega) kw fun q3 c3 w9 r9 k9 hT9 => wr64 (by omega) ⟨⟨by omega, copyN t.2.1.toNat t.2.2 o, ?_, rfl, ?_, ?_, r9.mono fun i hi _ => hi.1, k9⟩, by omega⟩
    · rw [ho, hi1]
    · rw [copyN_len]; omega
    · rw [copyN_len]; omega
/-- How many bytes tokens are. -/
def sumT (l : List Tok) : Int := (l.map fun t => max 1 t.2.1).foldr (· + ·) 0
theorem foldr_add (l : List Int) : ∀ z : Int, l.foldr (· + ·) z = l.foldr (· + ·) 0 + z := by
  induction l with
  | nil => intro z; simp
  | cons x r ih => intro z; simp only [List.foldr_cons]; rw [ih z]; omega
theorem sumT_app (l : List Tok) (t : Tok) : sumT (l ++ [t]) = sumT l + max 1 t.2.1 := by
  unfold sumT
  rw [List.map_append, List.foldr_append, foldr_add]
  simp
theorem take_get {l : List Tok} {i : Nat} {t : Tok} (h : l[i]? = some t) : l.take (i + 1) = l.take i ++ [t] := by
  rw [List.take_add_one, h]; rfl
theorem c44 {l : List Tok} (hk : Toks w q l) (hl : 258 * l.length ≤ 2147483647) (hfar : ∀ i, (∀ t ∈ l.take i, rightT t = true) → sumT (l.take i) ≤ 1048576) :
    Rets Try.prog 44 #[.slice q l.length cp] w fun v w' => v = .tuple #[.int .i64 (if l.all rightT = true then sumT l else 0), .bool (l.all rightT)] ∧ Kp none_ w w' := by
  refine ent [_] Try.func44 ((vcTry44 _ _ _ w _).mpr ?_)
  unfold VCTry44
  refine ⟨fun i s w1 => (0 ≤ i ∧ i ≤ l.length) ∧ s = sumT (l.take i.toNat) ∧ (0 ≤ s ∧ s ≤ 258 * i) ∧ (∀ t ∈ l.take i.toNat, rightT t = true) ∧ Kp none_ w w1, fun i _ _ => (l.length - i).toNat, ⟨by omega, by simp [sumT], by omega, by simp, Kp.refl _ _⟩, ?_⟩
  rintro i s w6 ⟨hi, hs, hs2, hall, k6⟩
  refine bif_dec (fun hlt => ?_) (fun hge => ?_)
  rotate_left
  · have e : l.take i.toNat = l := List.take_of_length_le (by omega)
    rw [e] at hs hall
    have : l.all rightT = true := List.all_eq_true.2 hall
    exact ⟨_, rfl, by rw [this, if_pos rfl, hs], k6⟩
  obtain ⟨t, ht⟩ : ∃ t, l[i.toNat]? = some t := ⟨l[i.toNat]'(by omega), List.getElem?_eq_getElem _⟩
  obtain ⟨a, rfl, x0, x1, x2⟩ := (hk.kp0 k6) i.toNat t ht
  simp only [ptr_some, add_add, Nat.add_zero]
  refine ⟨by omega, _, _, _, ⟨x0, x1, x2, trivial⟩, ?_⟩
  show _ → _
  refine fun _ => (c45 _ t).mono ?_
  rintro v w7 ⟨rfl, k7⟩
  have kT := temp3 w6 (.int .u8 t.1) (.int .i64 t.2.1) (.int .i64 t.2.2)
  have sT := temp3s w6 (.int .u8 t.1) (.int .i64 t.2.1) (.int .i64 t.2.2)
  generalize ((((w6.alloc (.cells #[Value.int .u8 0, .int .i64 0, .int .i64 0] 49)).setCell ⟨w6.heap.size, 0, none⟩ (.int .u8 t.1)).setCell ⟨w6.heap.size, 1, none⟩ (.int .i64 t.2.1)).setCell ⟨w6.heap.size, 2, none⟩ (.int .i64 t.2.2)) = WT at *
  have kw := (k6.trans kT).trans k7
  refine ⟨_, rfl, k7.keeps (fun j hj => ⟨by simp at hj; omega, id⟩), bif_not (fun hr _ => ⟨_, rfl, ?_, kw⟩) (fun hr => ?_)⟩
  · have : l.all rightT = false := by
      rw [Bool.eq_false_iff]
      intro h
      have := List.all_eq_true.1 h t (List.mem_of_getElem? ht)
      rw [hr] at this
      cases this
    rw [this]
    rfl
  obtain ⟨g1, g2, g3⟩ := rightT_len hr
  have htk := take_get ht
  have hall' : ∀ t ∈ l.take (i.toNat + 1), rightT t = true := by
    rw [htk]
    intro t' h'
    simp only [List.mem_append, List.mem_singleton] at h'
    rcases h' with h' | rfl
    · exact hall t' h'
    · exact hr
  have hsum : sumT (l.take (i.toNat + 1)) = s + max 1 t.2.1 := by rw [htk, sumT_app, hs]
  have hw : IntKind.wrap .i64 (s + maxI 1 t.2.1) = s + max 1 t.2.1 := by rw [maxI_max]; exact wrap64 (by omega)
  rw [hw]
  have hf := hfar _ hall'
  rw [hsum] at hf
  have hi1 : (i + 1).toNat = i.toNat + 1 := by omega
  exact bif_dec (fun h => by omega) (fun h => wr64 (by omega) ⟨⟨by omega, by rw [hi1, hsum], by omega, by rw [hi1]; exact hall', kw⟩, by omega⟩)
end
end Go.Proofs.Ytodgnegbaigdbaa
