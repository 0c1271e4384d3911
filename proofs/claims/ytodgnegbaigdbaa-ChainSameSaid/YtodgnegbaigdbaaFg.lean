import Derived.Test.YtodgnegbaigdbaaFf
namespace Go.Proofs.Ytodgnegbaigdbaa
open Go Go.SX Go.Proofs
set_option maxRecDepth 100000
set_option linter.unusedVariables false
set_option linter.unusedSimpArgs false
/-- The candidates up to j. -/
def cands (L : Int → Int) : Nat → List Int
  | 0 => []
  | j + 1 => if 3 ≤ L (j + 1) then cands L j ++ [(j : Int) + 1] else cands L j
theorem cands_yes {L : Int → Int} {j : Nat} (h : 3 ≤ L (j + 1)) : cands L (j + 1) = cands L j ++ [(j : Int) + 1] := if_pos h
theorem cands_no {L : Int → Int} {j : Nat} (h : L (j + 1) < 3) : cands L (j + 1) = cands L j := if_neg (by omega)
theorem cands_len (L : Int → Int) : ∀ j, (cands L j).length ≤ j
  | 0 => Nat.le_refl _
  | j + 1 => by have := cands_len L j; unfold cands; split <;> simp <;> omega
theorem cands_ext {L : Int → Int} {j : Nat} (h : ∀ x : Int, j < x → L x < 3) : ∀ i, cands L (j + i) = cands L j
  | 0 => rfl
  | i + 1 => by rw [show j + (i + 1) = (j + i) + 1 by omega, cands_no (h _ (by omega)), cands_ext h i]
theorem cands_pre (L : Int → Int) (j : Nat) : ∀ i, ∃ l, cands L (j + i) = cands L j ++ l
  | 0 => ⟨[], by simp⟩
  | i + 1 => by
    obtain ⟨l, hl⟩ := cands_pre L j i
    rw [show j + (i + 1) = (j + i) + 1 by omega]
    by_cases h : 3 ≤ L ((j + i : Nat) + 1)
    · rw [cands_yes h, hl]; exact ⟨_, List.append_assoc _ _ _⟩
    · rw [cands_no (by omega), hl]; exact ⟨l, rfl⟩
theorem cands_get {L : Int → Int} {j J : Nat} (h : 3 ≤ L (j + 1)) (hj : j + 1 ≤ J) : (cands L J)[(cands L j).length]? = some ((j : Int) + 1) := by
  obtain ⟨l, hl⟩ := cands_pre L (j + 1) (J - (j + 1))
  rw [show j + 1 + (J - (j + 1)) = J by omega, cands_yes h] at hl
  rw [hl]
  simp
def candV (L : Int → Int) (j : Nat) : List Value := (cands L j).map fun x => .int .i64 x
/-- Finder.Chain's memory while it ranges over the candidates. -/
structure GB (w : World) (own own1 : Nat → Prop) (M B r : Nat) (q : Option Addr) (n : Nat) (b : Int → Int) (at_ : Int) (h : Nat) (a1 a2 : Addr) (N : Nat) (w' : World) (o : Obj) (v : Value) (xs : List Value) : Prop where
  rec_ : w'.heap[h + 1]? = some o
  cls : o.isCells = false
  mark : w'.heap[h]? = some (.deferred (some []))
  kp : Kp own w w'
  fdr : ∃ m1, Fdr w' own1 B r q n b m1 ∧ (0 ≤ at_ → at_ + 3 ≤ n → at_ < m1)
  e0 : Cel w' N v
  row : OwnRow w' (fun i => M ≤ i) 3 1 v xs.length xs
  a1c : w'.cell? a1 = some (.pointer (some ⟨B, 0, none⟩))
  a2c : w'.cell? a2 = some (.int .i64 at_)
  hN : w.heap.size ≤ N ∧ N < h
  own1N : ∀ i, own1 i → i < N ∨ (h + 1 < i ∧ i < M)
  hM : h + 1 < M ∧ M ≤ w'.heap.size
  aN : (N < a1.block ∧ a1.block < M) ∧ (N < a2.block ∧ a2.block < M)
  qN : 0 < n → ∀ a, q = some a → a.block < N
section
variable {w w' : World} {own own1 : Nat → Prop} {M B r : Nat} {q : Option Addr} {n : Nat} {b : Int → Int} {at_ : Int} {h : Nat} {a1 a2 : Addr} {N : Nat} {o : Obj} {v : Value} {xs : List Value}
theorem GB.move (f : GB w own own1 M B r q n b at_ h a1 a2 N w' o v xs) {w2 : World} {S : Nat → Prop} (hk : Kp S w' w2) (hS : ∀ i, S i → i = N ∨ M ≤ i) {v' : Value} {xs' : List Value} (g : Cel w2 N v') (gr : OwnRow w2 (fun i => M ≤ i) 3 1 v' xs'.length xs') :
    GB w own own1 M B r q n b at_ h a1 a2 N w2 o v' xs' := by
  have hN := f.hN
  have hM := f.hM
  have hh : ∀ i, i ≠ N → i < M → ¬ S i := fun i h1 h2 hs => by rcases hS i hs with h | h <;> omega
  obtain ⟨m1, hf, hm⟩ := f.fdr
  have hl := (Array.getElem?_eq_some_iff.1 f.rec_).1
  refine ⟨(hk.same _ hl (hh _ (by omega) (by omega))).trans f.rec_, f.cls, (hk.same _ (by omega) (hh _ (by omega) (by omega))).trans f.mark, f.kp.then hk (fun i hi hs => by rcases hS i hs with h | h <;> omega), ⟨m1, hf.kp hk (fun i hi ho => ?_) (fun h0 a ha => ?_), hm⟩, g, gr, hk.cell f.a1c (hh _ (by have := f.aN; omega) (by have := f.aN; omega)), hk.cell f.a2c (hh _ (by have := f.aN; omega) (by have := f.aN; omega)), f.hN, f.own1N, ⟨hM.1, Nat.le_trans hM.2 hk.size⟩, f.aN, f.qN⟩
  · have := f.own1N i ho
    exact hh _ (by omega) (by omega)
  · have := f.qN h0 a ha
    exact hh _ (by omega) (by omega)
theorem GB.put (f : GB w own own1 M B r q n b at_ h a1 a2 N w' o v xs) {o' : Obj} (ho : o'.isCells = false) : GB w own own1 M B r q n b at_ h a1 a2 N (w'.putObj (h + 1) o') o' v xs := by
  have hN := f.hN
  have hM := f.hM
  have hk : Kp (one_ (h + 1)) w' (w'.putObj (h + 1) o') := Kp.putObj1 o' f.rec_ f.cls ho rfl
  have hl := (Array.getElem?_eq_some_iff.1 f.rec_).1
  obtain ⟨m1, hf, hm⟩ := f.fdr
  refine ⟨World.putObj_heap_same hl, ho, (hk.same h (by omega) (by show ¬ h = h + 1; omega)).trans f.mark, f.kp.putObj _ (by omega), ⟨m1, hf.kp hk (fun i hi ho hs => ?_) (fun h0 a ha hs => ?_), hm⟩, f.e0.kp hk ?_, f.row.kp hk ?_, hk.cell f.a1c (cell_obj_ne f.rec_ f.cls f.a1c), hk.cell f.a2c (cell_obj_ne f.rec_ f.cls f.a2c), f.hN, f.own1N, ⟨hM.1, by rw [World.putObj_size]; exact hM.2⟩, f.aN, f.qN⟩
  · have := f.own1N i ho
    have e : i = h + 1 := hs
    omega
  · have := f.qN h0 a ha
    have e : a.block = h + 1 := hs
    omega
  · intro hs
    have e : N = h + 1 := hs
    omega
  · intro g _ _ _ hg hs
    have e : g = h + 1 := hs
    have hg : M ≤ g := hg
    omega
theorem c28 {m : Nat} (hc0 : Fdr w own B r q n b m) (at_ : Int) :
    Rets Try.prog 28 #[.pointer (some ⟨B, 0, none⟩), .int .i64 at_] w fun v w' => Kp own w w' ∧ OwnRow w' (fresh w) 3 1 v (candV (lenF b n at_) 32768).length (candV (lenF b n at_) 32768) := by
  refine ent [_, _] Try.func28 ((vcTry28 _ _ w _).mpr ?_)
  unfold VCTry28
  have hqf := hc0.qfresh
  have hn := hc0.nb
  have hc : Fdr w (fun i => own i ∧ i < w.heap.size) B r q n b m := hc0.mono (fun i hi h => ⟨h, hi⟩) (fun h0 a ha h => hc0.qown h0 a ha h.1)
  have hqN : 0 < n → ∀ a, q = some a → a.block < w.heap.size := fun h0 a ha => by
    have := hqf h0 a ha
    unfold fresh at this
    omega
  show cond false _ _
  simp only [cond_false]
  intro _
  generalize e1 : w.alloc (.cells #[Value.slice none 0 0] 26) = W1
  generalize hN : w.heap.size = N
  have s1 : W1.heap.size = N + 1 := by rw [← e1, alloc_size, hN]
  have k5 : Kp none_ w W1 := by rw [← e1]; exact (Kp.refl none_ w).alloc1 _
  have d0 : Cel W1 N (.slice none 0 0) := by rw [← e1, ← hN]; exact Cel.new w _ _
  refine (c50 W1 _ at_).mono ?_
  rintro v w1 ⟨a1, a2, rfl, x1, x2, k51, x3, x4⟩
  refine ⟨_, rfl, k51.keeps (fun b hb => ⟨by simp at hb; omega, id⟩), fun _ I3 hI3 hyield => ?_⟩
  have l1 := cell_lt x1
  have l2 := cell_lt x2
  generalize hh : w1.heap.size = h
  rw [hh] at hyield l1 l2
  generalize e6 : (w1.alloc (.deferred (some []))).alloc (I3 .ready none) = W6
  have k1 : Kp none_ w w1 := k5.trans k51
  have s1' := k51.size
  have k16 : Kp none_ w1 W6 := by rw [← e6]; exact ((Kp.refl none_ w1).alloc1 _).alloc1 _
  have s6 : W6.heap.size = h + 2 := by rw [← e6, alloc_size, alloc_size, hh]
  have k6 := k1.trans k16
  let own0 : Nat → Prop := fun i => own i ∧ i < N
  have hc6 : Fdr W6 own0 B r q n b m := by
    have := hc.kp k6 (fun _ _ _ => id) (fun _ _ _ => id)
    rw [hN] at this; exact this
  have base : ∀ w2 m1, Kp own0 W6 w2 → Fdr w2 (fun i => own0 i ∨ fresh W6 i) B r q n b m1 → (0 ≤ at_ → at_ + 3 ≤ n → (at_ : Int) < m1) → GB w own0 (fun i => (own0 i ∨ fresh W6 i) ∧ i < w2.heap.size) w2.heap.size B r q n b at_ h a1 a2 N w2 (I3 .ready none) (.slice none 0 0) [] := by
    intro w2 m1 hk hf hm
    have nS : ∀ i, N ≤ i → ¬ own0 i := fun i hi ho => by have := ho.2; omega
    have hs := hk.size
    have c6 : ∀ {i v}, Cel W1 i v → N ≤ i → Cel w2 i v := fun hc hi => ((hc.kp k51 id).kp k16 id).kp hk (nS _ hi)
    refine ⟨?_, hI3 _ _, ?_, (k6.mono fun _ _ h => h.elim).trans hk, ⟨m1, hf.mono (fun i hi ho => ⟨ho, hi⟩) (fun h0 a ha h => hf.qown h0 a ha h.1), hm⟩, c6 d0 (by omega), OwnRow.nil _ _ _ _, hk.cell (k16.cell x1 id) (nS _ (by omega)), hk.cell (k16.cell x2 id) (nS _ (by omega)), ⟨by omega, by omega⟩, ?_, ⟨by omega, Nat.le_refl _⟩, by omega, fun h0 a ha => by have := hqN h0 a ha; omega⟩
    · rw [hk.same (h + 1) (by omega) (nS _ (by omega)), ← e6, alloc_get, if_pos (by rw [alloc_size]; omega)]
    · rw [hk.same h (by omega) (nS _ (by omega)), ← e6, alloc_get, if_neg (by rw [alloc_size]; omega), alloc_get, if_pos (by omega)]
    · rintro i ⟨ho, hi⟩
      rcases ho with ho | ho
      · exact .inl ho.2
      · unfold fresh at ho; omega
  refine ⟨isGo59, ?_⟩
  refine (c59 hc6 (.func (.yield (h + 1)) #[] #[]) a1 a2 at_ (k16.cell x1 id) (k16.cell x2 id) (fun ho => by have := ho.2; omega) (fun ho => by have := ho.2; omega)
    (fun d w2 => 1 ≤ d ∧ ∃ own1 M v, GB w own0 own1 M B r q n b at_ h a1 a2 N w2 (I3 .ready none) v (candV (lenF b n at_) (d - 1).toNat))
    (fun w2 => False) ?_ ?_ ?_ ?_).mono ?_
  · intro w2 m1 hk hf hm
    exact ⟨by omega, _, _, _, base w2 m1 hk hf hm⟩
  · rintro d w2 ⟨_, own1, M, v, f⟩
    obtain ⟨m1, h1, h2⟩ := f.fdr
    exact ⟨⟨m1, own1, h1, h2⟩, f.a1c, f.a2c⟩
  · rintro d w2 h1 h2 ⟨_, own1, M, v, f⟩
    refine ⟨by omega, own1, M, v, ?_⟩
    have : candV (lenF b n at_) (d + 1 - 1).toNat = candV (lenF b n at_) (d - 1).toNat := by
      unfold candV
      rw [show (d + 1 - 1).toNat = (d - 1).toNat + 1 by omega, cands_no (by rw [show (((d - 1).toNat : Nat) : Int) + 1 = d by omega]; exact h2)]
    rw [this]; exact f
  · rintro d w2 h1 h2 h3 hL ⟨_, own1, M, v, f⟩
    obtain ⟨q7, c7, rfl⟩ := f.row.slice
    have hl7 : (candV (lenF b n at_) (d - 1).toNat).length ≤ 32768 := by
      have := cands_len (lenF b n at_) (d - 1).toNat
      unfold candV
      rw [List.length_map]
      omega
    refine hyield d q7 _ c7 w2 _ f.rec_ ⟨⟨f.e0.lt, ⟨f.e0.cell, f.e0.frz⟩, trivial⟩, trivial⟩ ⟨f.rec_, ?_⟩
    have f1 := f.put (hI3 .busy none)
    generalize e9 : w2.putObj (h + 1) (I3 .busy none) = w3 at *
    have hs9 : w3.heap.size = w2.heap.size := by rw [← e9, World.putObj_size]
    have ka : Kp none_ w3 (w3.alloc (.cells #[Value.int .i64 d] 3)) := (Kp.refl none_ w3).alloc _ _
    refine append_own (own := fun i => M ≤ i) (xs := candV (lenF b n at_) (d - 1).toNat) (news := [Value.int .i64 d]) Try.underlying26 (by kernel_rfl) (by omega) (f1.row.kp ka fun _ _ _ _ _ => id) (by simp)
      (fun j u hj => by
        cases j with
        | zero => simp at hj; subst hj; simp only [ad_add]; exact cell_alloc_new (by simp)
        | succ j => simp at hj) (by simp [Value.oneCell']) (by omega) (by omega) ?_
    intro v' w4 hrow hk4
    obtain ⟨vq, vc, rfl⟩ := hrow.slice
    have hMw := f1.hM
    have hka := ka.size
    have hhN := f1.hN
    have k34 : Kp (fun i => M ≤ i) w3 w4 := (ka.mono fun _ _ h => h.elim).trans hk4
    refine ⟨_, _, _, rfl, hk4.keeps (fun i hi => ?_), fun _ => ?_⟩
    · simp only [List.mem_singleton] at hi
      subst hi
      exact ⟨Nat.lt_of_lt_of_le f1.e0.lt hka, by omega⟩
    have hxs : candV (lenF b n at_) (d - 1).toNat ++ [Value.int .i64 d] = candV (lenF b n at_) (d + 1 - 1).toNat := by
      unfold candV
      rw [show (d + 1 - 1).toNat = (d - 1).toNat + 1 by omega, cands_yes (by rw [show (((d - 1).toNat : Nat) : Int) + 1 = d by omega]; exact hL), List.map_append]
      rw [show (((d - 1).toNat : Nat) : Int) + 1 = d by omega]
      rfl
    have k45 := Kp.set1 (w := w4) N (.slice vq ((candV (lenF b n at_) (d - 1).toNat).length + 1) vc)
    have c4 : Cel w4 N _ := f1.e0.kp k34 (by omega)
    have f5 : GB w own0 own1 M B r q n b at_ h a1 a2 N (w4.setCell ⟨N, 0, none⟩ (.slice vq ((candV (lenF b n at_) (d - 1).toNat).length + 1) vc)) (I3 .busy none) (.slice vq ((candV (lenF b n at_) (d - 1).toNat).length + 1) vc) (candV (lenF b n at_) (d + 1 - 1).toNat) := by
      refine f1.move (S := fun i => i = N ∨ M ≤ i) ((k34.mono fun _ _ h => .inr h).trans (k45.mono fun _ _ h => .inl h)) (fun i h => h) (c4.set _) ?_
      rw [← hxs, List.length_append, List.length_singleton]
      refine (hrow.mono (own' := fun i => M ≤ i) fun i hi _ => ?_).kp k45 fun g _ _ _ hg hs => ?_
      · rcases hi with hi | hi
        · exact hi
        · unfold fresh at hi; omega
      · have e : g = N := hs
        have hg : M ≤ g := hg
        omega
    refine ⟨f5.rec_, ?_, true, rfl, by omega, own1, M, _, f5.put (hI3 _ _)⟩
    have := k34.size
    have := k45.size
    rw [World.putObj_size]
    omega
  rintro v w2 ⟨rfl, hend⟩
  rcases hend with ⟨d, h1, h2, _, own1, M, v, f⟩ | hf
  · obtain ⟨q7, c7, rfl⟩ := f.row.slice
    have f1 := f.put (hI3 .exhausted none)
    have hhN := f1.hN
    have hhM := f1.hM
    refine ⟨_, _, _, ⟨⟨f.e0.lt, ⟨f.e0.cell, f.e0.frz⟩, trivial⟩, trivial⟩, f.rec_, fun _ => ⟨f1.mark, _, rfl, (f1.kp.putObj _ (by omega)).mono fun i _ hi => hi.1, ?_⟩⟩
    have hall : candV (lenF b n at_) (d - 1).toNat = candV (lenF b n at_) 32768 := by
      unfold candV
      by_cases hle : (d - 1).toNat ≤ 32768
      · have := cands_ext (L := lenF b n at_) (j := (d - 1).toNat) (fun x hx => h2 x (by omega)) (32768 - (d - 1).toNat)
        rw [show (d - 1).toNat + (32768 - (d - 1).toNat) = 32768 by omega] at this
        rw [this]
      · have := cands_ext (L := lenF b n at_) (j := 32768) (fun x hx => by
          have : lenF b n at_ x = 0 := if_pos (by omega)
          omega) ((d - 1).toNat - 32768)
        rw [show 32768 + ((d - 1).toNat - 32768) = (d - 1).toNat by omega] at this
        rw [this]
    have hr := f1.row
    rw [hall] at hr ⊢
    have kd := Kp.putObj1 (S := one_ h) (.deferred none) f1.mark rfl rfl rfl
    refine (hr.mono (own' := fun i => fresh w i ∧ i ≠ h) fun i hi _ => ?_).kp kd (fun g _ _ _ hg hs => hg.2 hs) |>.mono fun i hi _ => hi.1
    have hi : M ≤ i := hi
    refine ⟨?_, by omega⟩
    unfold fresh
    omega
  · exact hf.elim
theorem c8 {w : World} {q : Option Addr} {n cp : Nat} {b : Int → Int} (hb : Ints w .u8 q n b) (hr : ∀ i : Int, 0 ≤ i → i < n → 0 ≤ b i ∧ b i < 256) (hcp : n ≤ cp) (at_ : Int) :
    Rets Try.prog 8 #[.slice q n cp, .int .i64 at_] w fun v w' => v = .bool true ∧ Kp none_ w w' := by
  refine ent [_, _] Try.func8 ((vcTry8 _ _ _ _ w _).mpr ?_)
  unfold VCTry8
  refine bif_dec (fun _ => live22 w w (Kp.refl _ _)) (fun g1 => ?_)
  have hn : n ≤ 2147483647 := by omega
  refine (c26 hb hr hcp hn).mono ?_
  rintro v w1 ⟨B, r, rfl, k1, hf⟩
  refine ⟨_, rfl, k1.keeps0, (c28 hf at_).mono ?_⟩
  rintro v w2 ⟨k2, hrow⟩
  obtain ⟨q2, c2, rfl⟩ := hrow.slice
  have kw := k1.then k2 (fun i hi hf => by unfold fresh at hf; omega)
  refine ⟨_, _, _, rfl, k2.keeps0, ?_⟩
  have hlen : (candV (lenF b n at_) 32768).length = (cands (lenF b n at_) 32768).length := by unfold candV; rw [List.length_map]
  refine ⟨fun d k w' => 1 ≤ d ∧ d ≤ 32769 ∧ (0 ≤ at_ → d ≤ at_ + 1) ∧ (at_ < 0 → d = 1) ∧ k = ((cands (lenF b n at_) (d - 1).toNat).length : Int) ∧ Kp none_ w2 w', fun d _ _ => (32769 - d).toNat, ⟨by omega, by omega, by omega, by omega, rfl, Kp.refl _ _⟩, ?_⟩
  rintro d k w3 ⟨hd1, hd2, hd3, hd4, rfl, k3⟩
  have fin : (∀ x : Int, d ≤ x → lenF b n at_ x < 3) → bif ((cands (lenF b n at_) (d - 1).toNat).length : Int) == ((candV (lenF b n at_) 32768).length : Int) then
      Rets Try.prog 22 #[] w3 fun v w4 => ∃ t : Bool, v = .bool t ∧ Keeps w3 w4 [] ∧ ∃ v', Ending.returned (.bool t) = .returned v' ∧ v' = .bool true ∧ Kp none_ w w4 else ∃ v', Ending.returned (.bool false) = .returned v' ∧ v' = .bool true ∧ Kp none_ w w3 := by
    intro h
    have : cands (lenF b n at_) 32768 = cands (lenF b n at_) (d - 1).toNat := by
      have := cands_ext (L := lenF b n at_) (j := (d - 1).toNat) (fun x hx => h x (by omega)) (32768 - (d - 1).toNat)
      rwa [show (d - 1).toNat + (32768 - (d - 1).toNat) = 32768 by omega] at this
    rw [hlen, this]
    exact bif_eq (fun _ => live22 w w3 (kw.trans k3)) (fun h => absurd rfl h)
  refine bif_dec (fun h => ?_) (fun h => fin fun x hx => ?_)
  rotate_left
  · have : lenF b n at_ x = 0 := if_pos (by omega)
    omega
  refine bif_dec (fun h2 => ?_) (fun h2 => fin fun x hx => ?_)
  rotate_left
  · have : lenF b n at_ x = 0 := if_pos (by omega)
    omega
  refine bif_dec (fun h3 => ?_) (fun h3 => fin fun x hx => ?_)
  rotate_left
  · have : lenF b n at_ x = 0 := if_pos (by omega)
    omega
  refine (c24 (cp := cp) (hb.kp0 (kw.trans k3)) hn at_ d).mono ?_
  rintro v w4 ⟨rfl, k4⟩
  have hdd : (((d - 1).toNat : Nat) : Int) + 1 = d := by omega
  have hd' : (d + 1 - 1).toNat = (d - 1).toNat + 1 := by omega
  refine ⟨_, rfl, k4.keeps0, bif_dec (fun h4 => wr64 (by omega) ⟨⟨by omega, by omega, by omega, by omega, ?_, k3.trans k4⟩, by first | omega | (dsimp only; omega)⟩) (fun h4 => ?_)⟩
  · rw [hd', cands_no (by rw [hdd]; exact h4)]
  have hget := cands_get (L := lenF b n at_) (j := (d - 1).toNat) (J := 32768) (by rw [hdd]; omega) (by omega)
  rw [hdd] at hget
  have hlt := (List.getElem?_eq_some_iff.1 hget).1
  have hlt' : (cands (lenF b n at_) (d - 1).toNat).length < (candV (lenF b n at_) 32768).length := by rw [hlen]; exact hlt
  refine bif_dec (fun h5 => by omega) (fun h5 => ?_)
  obtain ⟨a, rfl, ha⟩ := hrow.at (j := (cands (lenF b n at_) (d - 1).toNat).length) (u := .int .i64 d) (by unfold candV; rw [List.getElem?_map, hget]; rfl)
  refine ⟨by omega, ?_⟩
  simp only [ptr_some, Nat.mul_one, Int.toNat_natCast]
  refine ⟨_, k4.cell0 (k3.cell0 ha), bif_ne (fun h => absurd rfl h) (fun _ => wr64 (by have := cands_len (lenF b n at_) (d - 1).toNat; omega) (wr64 (by omega) ⟨⟨by omega, by omega, by omega, by omega, ?_, k3.trans k4⟩, by first | omega | (dsimp only; omega)⟩))⟩
  rw [hd', cands_yes (by rw [hdd]; omega), List.length_append]
  simp
end
end Go.Proofs.Ytodgnegbaigdbaa
