/- Names: the program's directory, changed. -/
import Derived.Test.YtlgkcbdpaffigaaCc
namespace Go.Proofs.Ytlgkcbdpaffigaa
open Go Go.SX Go.Proofs
set_option maxRecDepth 100000
set_option linter.unusedVariables false
set_option linter.unusedSimpArgs false
theorem look_without (l : List Ent) (s t : List UInt8) : lookE (withoutK Prod.fst l s) t = if t = s then none else lookE l t := by
  induction l with
  | nil => unfold withoutK lookE; simp
  | cons b r ih =>
    unfold withoutK lookE at ih ⊢
    by_cases hb : b.1 = s
    · rw [List.filter_cons, if_neg (by simp [hb])]
      rw [ih]
      by_cases ht : t = s
      · rw [if_pos ht, if_pos ht]
      · rw [if_neg ht, if_neg ht, List.find?_cons]
        have : (b.1 == t) = false := by rw [hb]; simp; exact fun h => ht h.symm
        rw [this]
    · rw [List.filter_cons, if_pos (by simp [hb]), List.find?_cons, List.find?_cons]
      by_cases ht : b.1 = t
      · have : (b.1 == t) = true := by simp [ht]
        rw [this]
        rw [if_neg (by rw [← ht]; exact hb)]
      · have : (b.1 == t) = false := by simp [ht]
        rw [this]
        exact ih
theorem look_with {l : List Ent} (h : Asc Prod.fst l) {s : List UInt8} (hn : has Prod.fst l s = false) (i : Int) (t : List UInt8) : lookE (withE l s i) t = if t = s then some i else lookE l t := by
  have ha : Asc Prod.fst (withE l s i) := asc_with h rfl
  by_cases ht : t = s
  · rw [if_pos ht, ht]
    exact (lookE_mem ha).2 ((mem_with h hn i _).2 (.inl rfl))
  · rw [if_neg ht]
    cases e : lookE l t with
    | some j => exact (lookE_mem ha).2 ((mem_with h hn i _).2 (.inr ((lookE_mem h).1 e)))
    | none =>
      cases e' : lookE (withE l s i) t with
      | none => rfl
      | some j =>
        rcases (mem_with h hn i _).1 ((lookE_mem ha).1 e') with hh | hh
        · exact absurd (congrArg Prod.fst hh) ht
        · rw [(lookE_mem h).2 hh] at e; cases e
def chC (c : Chg) : List Value := [.string (ba c.fr), .string (ba c.tr), .int .i64 c.id]
def chV (c : Chg) : Value := .agg #[.string (ba c.fr), .string (ba c.tr), .int .i64 c.id]
theorem chC_len (c : Chg) : (chC c).length = 3 := rfl
theorem chC_one (c : Chg) : ∀ u ∈ chC c, u.oneCell' = true := fun u hu => by
  simp only [chC, List.mem_cons, List.not_mem_nil, or_false] at hu
  rcases hu with rfl | rfl | rfl <;> simp [Value.oneCell']
theorem elem135 : elemOk Try.prog 135 3 = true := by kernel_rfl
theorem und77 : Try.prog.underlying 77 = some (.slice 135) := Try.underlying77
theorem und76 : Try.prog.underlying 76 = some (.map 9 3) := Try.underlying76
theorem u9s : Try.prog.underlying 9 = some .string := Try.underlying9
theorem z3 (w : World) : (zeroValue 3).run Try.prog w = .ok (.int .i64 0) w := Try.zeroValue3 w
theorem push_ch {w : World} {own : Nat → Prop} {v : Value} {l : List Chg} {n : Nat} (b : Chg) {K : Value → World → Prop} (hrow : OwnRow w own 135 3 v n (flatC chC l)) (hn : n = l.length) (hb : l.length + 1 ≤ 137438953472)
    (hK : ∀ q' c' w', OwnRow w' (fun i => own i ∨ fresh w i) 135 3 (.slice q' (l.length + 1) c') (l ++ [b]).length (flatC chC (l ++ [b])) → Kp own w w' → Kp own (w.alloc (.cells #[.string (ba b.fr), .string (ba b.tr), .int .i64 b.id] 135)) w' → K (.slice q' (l.length + 1) c') w') :
    Runs Try.prog (Builtin.append_ #[77, 77] 77 #[v, .slice (some ⟨w.heap.size, 0, none⟩) 1 1]) (w.alloc (.cells #[.string (ba b.fr), .string (ba b.tr), .int .i64 b.id] 135)) K := push_row b chC_len chC_one (by omega) und77 elem135 rfl hrow hn hb hK
/-- A change is done. -/
theorem c86 {w : World} {r : Nat} {l : List Ent} (h : MapE w r l) (ha : Asc Prod.fst l) (c : Chg) : Rets Try.prog 86 #[.map (some r), chV c] w fun v w' => v = .tuple #[] ∧ MapE w' r (doL l c) ∧ Kp (one_ r) w w' := by
  refine ent [_, _] Try.func86 ((vcTry86 _ _ _ _ w _).mpr ?_)
  unfold VCTry86
  have ka : Kp none_ w (w.alloc (.cells #[.string (ba c.fr), .string (ba c.tr), .int .i64 c.id] 135)) := (Kp.refl none_ _).alloc1 _
  have za : w.heap.size < (w.alloc (.cells #[.string (ba c.fr), .string (ba c.tr), .int .i64 c.id] 135)).heap.size := by rw [alloc_size]; omega
  generalize w.alloc (.cells #[.string (ba c.fr), .string (ba c.tr), .int .i64 c.id] 135) = W at *
  have hW := h.kp ka id
  have hr := h.lt
  have a1 := asc_without ha c.fr
  have a2 := asc_without a1 c.tr
  have n2 := has_without (l := withoutK Prod.fst l c.fr) c.tr
  have e0 : ({ data := #[] } : ByteArray).toList = [] := toL_ba []
  have keep : ∀ {w5 w6 : World}, Kp (one_ r) W w5 → Kp (one_ r) w5 w6 → Keeps w5 w6 [w.heap.size] := fun k k' => k'.keeps fun b hb => by
    rw [List.mem_singleton] at hb
    subst hb
    exact ⟨Nat.lt_of_lt_of_le za k.size, fun e => by have e : w.heap.size = r := e; omega⟩
  have tail : ∀ {P : Prop} {Q : World → Prop} {w5 : World} (i : Int), (lookE l c.fr).getD c.id = i → MapE w5 r (withoutK Prod.fst l c.fr) → Kp (one_ r) W w5 →
      bif !((ba c.tr).toList == ({ data := #[] } : ByteArray).toList) then Runs Try.prog (Instr.mapUpdate 76 (.map (some r)) (.string (ba c.tr)) (.int .i64 i)) w5 fun x w6 => Keeps w5 w6 [w.heap.size] ∧ (Q w6 → ∃ v, Ending.returned (.tuple #[]) = Ending.returned v ∧ v = .tuple #[] ∧ MapE w6 r (doL l c) ∧ Kp (one_ r) w w6)
      else (P → ∃ v, Ending.returned (.tuple #[]) = Ending.returned v ∧ v = .tuple #[] ∧ MapE w5 r (doL l c) ∧ Kp (one_ r) w w5) := fun {P Q w5} i hi hm k => by
    rw [toL_ba, e0]
    refine bif_not (fun ht => ?_) (fun ht => fun _ => ⟨_, rfl, rfl, ?_, ka.wide.trans k⟩)
    · have ht : c.tr ≠ [] := by simpa using ht
      have ed : doL l c = withE (withoutK Prod.fst (withoutK Prod.fst l c.fr) c.tr) c.tr i := by unfold doL; rw [if_neg ht, hi]
      refine hm.put und76 u9s (ba c.tr) i (l' := doL l c) ?_ (fun t hne => ?_) fun w6 hm6 k6 => ⟨keep k k6, fun _ => ⟨_, rfl, rfl, hm6, (ka.wide.trans k).trans k6⟩⟩
      · rw [ed, look_with a2 n2, if_pos (strL_ba _)]
      · rw [strL_ba] at hne
        rw [ed, look_with a2 n2, if_neg hne, look_without _ c.tr, if_neg hne]
    · have ht : c.tr = [] := by simpa using ht
      have ed : doL l c = withoutK Prod.fst l c.fr := by unfold doL; rw [if_pos ht]
      rw [ed]
      exact hm
  refine MapO.look (m := some r) (l := l) hW und76 u9s (z3 _) (ba c.fr) true ?_
  rw [if_pos rfl, strL_ba]
  refine ⟨_, _, rfl, keep (Kp.refl _ _) (Kp.refl _ _), bif_not (fun hs => ?_) (fun hs => ?_)⟩
  · refine hW.drop und76 u9s (ba c.fr) (l' := withoutK Prod.fst l c.fr) (by rw [strL_ba, look_without, if_pos rfl]) (fun t hne => by rw [strL_ba] at hne; rw [look_without, if_neg hne]) 0 fun w5 hm5 k5 => ⟨rfl, keep (Kp.refl _ _) k5, tail c.id ?_ hm5 k5⟩
    cases hl : lookE l c.fr with
    | none => rfl
    | some x => rw [hl] at hs; cases hs
  · refine hW.drop und76 u9s (ba c.fr) (l' := withoutK Prod.fst l c.fr) (by rw [strL_ba, look_without, if_pos rfl]) (fun t hne => by rw [strL_ba] at hne; rw [look_without, if_neg hne]) 0 fun w5 hm5 k5 => ⟨rfl, keep (Kp.refl _ _) k5, tail _ ?_ hm5 k5⟩
    cases hl : lookE l c.fr with
    | none => rw [hl] at hs; cases hs
    | some x => rfl
/-- The program's directory: at (b, o); S what is safe, ws what waits; O its blocks. -/
def DR (w : World) (O : Nat → Prop) (b o : Nat) (S : List Ent) (ws : List Chg) : Prop :=
  ∃ (m0 m1 : Option Nat) (vw : Value) (own : Nat → Prop), Cs w b o [.map m0, .map m1, vw] ∧ O b ∧ MapO w m0 (lastE S ws) ∧ MapO w m1 S ∧ (∀ r, m0 = some r → O r ∧ m1 ≠ some r) ∧ (∀ r, m1 = some r → O r) ∧ (∀ i, own i → O i ∧ i ≠ b ∧ m0 ≠ some i ∧ m1 ≠ some i) ∧ OwnRow w own 135 3 vw ws.length (flatC chC ws)
theorem ne_cell {w : World} {r : Nat} {l : List Ent} (h : MapE w r l) {a : Addr} {v : Value} (hc : w.cell? a = some v) : r ≠ a.block := by
  rintro rfl
  obtain ⟨es, clock, hb, _⟩ := h
  unfold World.cell? at hc
  rw [hb] at hc
  simp at hc
theorem mapO_lt {w : World} {m : Option Nat} {l : List Ent} (h : MapO w m l) : ∀ r, m = some r → r < w.heap.size := fun r e => by
  subst e
  exact MapE.lt h
theorem mapO_ne {w : World} {m : Option Nat} {l : List Ent} (h : MapO w m l) {a : Addr} {v : Value} (hc : w.cell? a = some v) : ∀ r, m = some r → r ≠ a.block := fun r e => by
  subst e
  exact ne_cell h hc
theorem DR.kp {S' O O' : Nat → Prop} {w w' : World} {b o : Nat} {S : List Ent} {ws : List Chg} (h : DR w O b o S ws) (k : Kp S' w w') (hs : ∀ i, i < w.heap.size → O i → ¬ S' i ∧ O' i) : DR w' O' b o S ws := by
  obtain ⟨m0, m1, vw, own, h1, h2, h3, h4, h5, h6, h8, h9⟩ := h
  have hb := h1.lt (by simp)
  exact ⟨m0, m1, vw, fun i => own i ∧ i < w.heap.size, h1.kp k (hs b hb h2).1, (hs b hb h2).2, h3.kp k fun r e => (hs r (mapO_lt h3 r e) (h5 r e).1).1, h4.kp k fun r e => (hs r (mapO_lt h4 r e) (h6 r e)).1,
    fun r e => ⟨(hs r (mapO_lt h3 r e) (h5 r e).1).2, (h5 r e).2⟩, fun r e => (hs r (mapO_lt h4 r e) (h6 r e)).2, fun i hi => ⟨(hs i hi.2 (h8 i hi.1).1).2, (h8 i hi.1).2⟩, (h9.mono (own' := fun i => own i ∧ i < w.heap.size) fun i hi hl => ⟨hi, hl⟩).kp k fun g n cap _ hg => (hs g hg.2 (h8 g hg.1).1).1⟩
theorem DR.mono {O O' : Nat → Prop} {w : World} {b o : Nat} {S : List Ent} {ws : List Chg} (h : DR w O b o S ws) (hs : ∀ i, i < w.heap.size → O i → O' i) : DR w O' b o S ws := h.kp (Kp.refl none_ w) fun i hl hi => ⟨id, hs i hl hi⟩
theorem DR.kp0 {O : Nat → Prop} {w w' : World} {b o : Nat} {S : List Ent} {ws : List Chg} (h : DR w O b o S ws) (k : Kp none_ w w') : DR w' O b o S ws := h.kp k fun i _ hi => ⟨id, hi⟩
theorem DR.lt {O : Nat → Prop} {w : World} {b o : Nat} {S : List Ent} {ws : List Chg} (h : DR w O b o S ws) : b < w.heap.size ∧ O b := by
  obtain ⟨m0, m1, vw, own, h1, h2, _⟩ := h
  exact ⟨h1.lt (by simp), h2⟩
theorem DR.zero {w : World} {b o : Nat} (h : Cs w b o [.map none, .map none, .slice none 0 0]) (O : Nat → Prop) (hO : O b) : DR w O b o [] [] :=
  ⟨none, none, .slice none 0 0, fun _ => False, h, hO, rfl, rfl, (fun r e => by cases e), (fun r e => by cases e), (fun i h => h.elim), OwnRow.nil _ _ _ _⟩
theorem DR.now {O : Nat → Prop} {w : World} {b o : Nat} {S : List Ent} {ws : List Chg} (h : DR w O b o S ws) : ∃ m, w.cell? ⟨b, o, none⟩ = some (.map m) ∧ MapO w m (lastE S ws) := by
  obtain ⟨m0, m1, vw, own, h1, h2, h3, _⟩ := h
  exact ⟨m0, h1.get 0 rfl, h3⟩
theorem DR.safe {O : Nat → Prop} {w : World} {b o : Nat} {S : List Ent} {ws : List Chg} (h : DR w O b o S ws) : ∃ m, w.cell? ⟨b, o + 1, none⟩ = some (.map m) ∧ MapO w m S := by
  obtain ⟨m0, m1, vw, own, h1, h2, _, h4, _⟩ := h
  exact ⟨m1, h1.get 1 rfl, h4⟩
theorem DR.wait {O : Nat → Prop} {w : World} {b o : Nat} {S : List Ent} {ws : List Chg} (h : DR w O b o S ws) : ∃ q c, w.cell? ⟨b, o + 2, none⟩ = some (.slice q ws.length c) ∧ RowsAt w 3 chC q ws := by
  obtain ⟨m0, m1, vw, own, h1, h2, _, _, _, _, _, h9⟩ := h
  obtain ⟨q, c, rfl⟩ := h9.slice
  exact ⟨q, c, h1.get 2 rfl, rows_of chC_len (by omega) h9⟩
theorem last_snoc (S : List Ent) (ws : List Chg) (c : Chg) : lastE S (ws ++ [c]) = doL (lastE S ws) c := by simp [lastE]
/-- A change that waits then. -/
theorem c88 {w : World} {O : Nat → Prop} {b o : Nat} {S : List Ent} {ws : List Chg} (h : DR w O b o S ws) (hl : ws.length ≤ 1000000) (ha : Asc Prod.fst (lastE S ws)) (c : Chg) : Rets Try.prog 88 #[ptA b o, chV c] w fun v w' =>
    v = .int .i64 0 ∧ DR w' (fun i => O i ∨ w.heap.size ≤ i) b o S (ws ++ [c]) ∧ Kp O w w' ∧ Nb b o 3 w w' := by
  refine ent [_, _] Try.func88 ((vcTry88 _ _ _ _ w _).mpr ?_)
  unfold VCTry88
  have ka : Kp none_ w (w.alloc (.cells #[.string (ba c.fr), .string (ba c.tr), .int .i64 c.id] 135)) := (Kp.refl none_ _).alloc1 _
  have za : w.heap.size < (w.alloc (.cells #[.string (ba c.fr), .string (ba c.tr), .int .i64 c.id] 135)).heap.size := by rw [alloc_size]; omega
  generalize w.alloc (.cells #[.string (ba c.fr), .string (ba c.tr), .int .i64 c.id] 135) = W at *
  have hbl := h.lt.1
  obtain ⟨m0, m1, vw, own, h1, h2, h3, h4, h5, h6, h8, h9⟩ := h.mono (O' := fun i => O i ∧ i < w.heap.size) fun i hl hi => ⟨hi, hl⟩
  have hbw : b ≠ w.heap.size := by omega
  have e0 := h1.get 0 rfl
  have m1b := mapO_ne h4 e0
  have m0b := mapO_ne h3 e0
  simp only [ptr_some, ad3, Nat.add_zero]
  -- behind the map's change: the row, and the cell
  have tail : ∀ {P2 : World → Option Addr → Nat → Nat → Prop} {r : Nat} {w5 : World}, ((O r ∧ r < w.heap.size) ∨ W.heap.size ≤ r) → r ≠ b → m1 ≠ some r → (∀ i, own i → i ≠ r) → Kp (fun i => i = r ∨ i = b) W w5 → Nb b o 3 W w5 → Cs w5 b o [.map (some r), .map m1, vw] → (∀ i, i = r → O i ∨ w.heap.size ≤ i) → ∀ {w6 : World}, MapE w6 r (doL (lastE S ws) c) → Kp (one_ r) w5.drew w6 → Keeps w5.drew w6 [w.heap.size] ∧ ∃ q n cc, w6.drew.cell? ⟨b, o + 2, none⟩ = some (.slice q n cc) ∧ (w6.drew.alloc (.cells #[.string (ba c.fr), .string (ba c.tr), .int .i64 c.id] 135)).cell? ⟨b, o + 2, none⟩ = some (.slice q n cc) ∧
      Runs Try.prog (Builtin.append_ #[77, 77] 77 #[.slice q n cc, .slice (some ⟨w6.drew.heap.size, 0, none⟩) 1 1]) (w6.drew.alloc (.cells #[.string (ba c.fr), .string (ba c.tr), .int .i64 c.id] 135)) fun v12 w13 => ∃ q14 n15 n16, v12 = .slice q14 n15 n16 ∧ Keeps (w6.drew.alloc (.cells #[.string (ba c.fr), .string (ba c.tr), .int .i64 c.id] 135)) w13 [w.heap.size] ∧ (∃ v18, w13.cell? ⟨b, o + 2, none⟩ = some v18) ∧ w13.frozen? ⟨b, o + 2, none⟩ = false ∧ Apart ⟨b, o + 2, none⟩ w.heap.size [0, 1, 2] ∧
        (P2 w13 q14 n15 n16 → ∃ v, Ending.returned (.int .i64 0) = Ending.returned v ∧ v = .int .i64 0 ∧ DR (w13.setCell ⟨b, o + 2, none⟩ (.slice q14 n15 n16)) (fun i => O i ∨ w.heap.size ≤ i) b o S (ws ++ [c]) ∧ Kp O w (w13.setCell ⟨b, o + 2, none⟩ (.slice q14 n15 n16)) ∧ Nb b o 3 w (w13.setCell ⟨b, o + 2, none⟩ (.slice q14 n15 n16))) := by
    intro P2 r w5 hr hrb hm1 hown k5 nb5 c5 hO6 w6 hm6 k6
    have k6' := Kp.of_drew k6
    have z5 := k5.size
    have z6 := k6'.size
    have hrw : r ≠ w.heap.size := by rcases hr with hr | hr <;> omega
    have c6 := c5.kp k6' (fun e : b = r => hrb e.symm)
    have ownb : ∀ i, own i → i ≠ b := fun i hi => (h8 i hi).2.1
    have r6 : OwnRow w6 (fun i => own i ∧ i < w.heap.size) 135 3 vw ws.length (flatC chC ws) := (((h9.mono fun i hi hl => ⟨hi, hl⟩).kp ka fun _ _ _ _ _ => id).kp k5 fun g n cap _ hg hh => hh.elim (hown g hg.1) (ownb g hg.1)).kp k6' fun g n cap _ hg hh => hown g hg.1 hh
    have r6d : OwnRow w6.drew (fun i => own i ∧ i < w.heap.size) 135 3 vw ws.length (flatC chC ws) := r6.kp (Kp.drew1 (S := none_)) fun _ _ _ _ _ => id
    have M1 : MapO w6 m1 S := ((h4.kp ka fun _ _ => id).kp k5 fun x e hh => hh.elim (fun h => hm1 (by rw [e, h])) (m1b x e)).kp k6' fun x e hh => hm1 (by rw [e]; congr 1)
    obtain ⟨q, cc, rfl⟩ := h9.slice
    have e2 : w6.drew.cell? ⟨b, o + 2, none⟩ = some (.slice q ws.length cc) := c6.get 2 rfl
    have kz : Kp none_ w6.drew (w6.drew.alloc (.cells #[.string (ba c.fr), .string (ba c.tr), .int .i64 c.id] 135)) := (Kp.refl none_ _).alloc1 _
    have k56 : Kp (fun i => i = r ∨ i = b) W w6 := k5.trans (k6'.mono fun i _ hi => .inl hi)
    refine ⟨k6.keeps fun i hi => ?_, _, _, _, e2, kz.cell0 e2, ?_⟩
    · rw [List.mem_singleton] at hi
      subst hi
      exact ⟨by show w.heap.size < w5.heap.size; omega, fun e => hrw (show w.heap.size = r from e).symm⟩
    refine push_ch (own := fun i => own i ∧ i < w.heap.size) c r6d rfl (by omega) fun q3 c3 w7 r7 k7 k7' => ?_
    have k67 : Kp (fun i => own i ∧ i < w.heap.size) w6 w7 := (Kp.drew1 (S := none_)).wide.trans k7
    have z7 := k67.size
    have c7 := c6.kp k67 (fun hh => ownb b hh.1 rfl)
    have g1 := c7.slot 2 (by simp)
    refine ⟨_, _, _, rfl, k7'.keeps fun i hi => ?_, g1.1, g1.2, .inl hbw, fun _ => ⟨_, rfl, rfl, ?_, ?_, ?_⟩⟩
    · rw [List.mem_singleton] at hi
      subst hi
      exact ⟨by rw [alloc_size]; show w.heap.size < w6.heap.size + 1; omega, fun hh => by omega⟩
    · have ks : Kp (one_ b) w7 (w7.setCell ⟨b, o + 2, none⟩ (.slice q3 (ws.length + 1) c3)) := kp_set _ _ _ _
      refine ⟨some r, m1, _, fun i => (own i ∧ i < w.heap.size) ∨ fresh w6.drew i, by simpa using c7.set 2 (.slice q3 (ws.length + 1) c3), .inl h2.1, ?_, ?_, fun x e => ?_, fun x e => .inl (h6 x e).1, fun i hi => ?_, r7.kp ks fun g n cap _ hg e => ?_⟩
      · rw [last_snoc]
        show MapE _ _ _
        exact (hm6.kp k67 fun hh => hown r hh.1 rfl).kp ks hrb
      · exact (M1.kp k67 fun x e hh => (h8 x hh.1).2.2.2 e).kp ks fun x e => m1b x e
      · cases e
        exact ⟨hr.elim (fun h => .inl h.1) fun h => .inr (by omega), hm1⟩
      · rcases hi with hi | hi
        · refine ⟨.inl (h8 i hi.1).1.1, ownb i hi.1, fun e => hown i hi.1 (Option.some.inj e).symm, (h8 i hi.1).2.2.2⟩
        · have hi : w6.heap.size ≤ i := hi
          refine ⟨.inr (by omega), by omega, fun e => ?_, fun e => ?_⟩
          · cases e
            have := hm6.lt
            omega
          · have := mapO_lt M1 i e
            omega
      · have e : g = b := e
        rcases hg with hg | hg
        · exact ownb g hg.1 e
        · have hg : w6.heap.size ≤ g := hg
          omega
    · refine (((ka.wide : Kp O w W).then k56 fun i hi hh => ?_).then k67 fun i hi hh => (h8 i hh.1).1.1).trans ((kp_set _ _ _ _).mono fun i _ hi => by have hi : i = b := hi; rw [hi]; exact h2.1)
      rcases hh with rfl | rfl
      · rcases hr with hr | hr
        · exact hr.1
        · omega
      · exact h2.1
    · exact ((Nb.of_kp ka hbl id).trans (nb5.trans (Nb.of_kp k6' (by omega) fun e => hrb e.symm))).trans ((Nb.of_kp k67 (by omega) fun hh => ownb b hh.1 rfl).trans (Nb.set _ (i := 2) (by omega) _))
  have cW := h1.kp0 ka
  cases m0 with
  | none =>
    have el : lastE S ws = [] := h3
    have kn : Kp none_ W (W.alloc (.map #[] 0)) := (Kp.refl none_ _).alloc1 _
    have mn := MapE.new W
    have cn := cW.kp0 kn
    have g0 := cn.slot 0 (by simp)
    refine ⟨none, cW.get 0 rfl, bif_b (fun _ => ?_) (fun hh => by cases hh)⟩
    refine ⟨g0.1, g0.2, .inl hbw, some W.heap.size, (cn.set 0 (.map (some W.heap.size))).get 0 rfl, fun _ => ?_⟩
    have mn' : MapE (((W.alloc (.map #[] 0)).setCell ⟨b, o, none⟩ (.map (some W.heap.size))).drew) W.heap.size (lastE S ws) := by
      rw [el]
      exact (mn.kp (kp_set _ b o _) (by show ¬ W.heap.size = b; omega)).kp (Kp.drew1 (S := none_)) id
    refine (c86 mn' ha c).mono ?_
    rintro v w6 ⟨rfl, m6, k6⟩
    refine ⟨rfl, tail (r := W.heap.size) (w5 := (W.alloc (.map #[] 0)).setCell ⟨b, o, none⟩ (.map (some W.heap.size))) (.inr (Nat.le_refl _)) (by omega) (fun e => by have := mapO_lt h4 _ e; omega) (fun i hi => by have := (h8 i hi).1.2; omega) (kn.wide.trans ((kp_set _ _ _ _).mono fun i _ hi => .inr hi)) ((Nb.of_kp kn (by omega) id).trans (Nb.set _ (i := 0) (by omega) _)) (by simpa using cn.set 0 (.map (some W.heap.size))) (fun i e => .inr (by omega)) m6 k6⟩
  | some r =>
    have hr := (h5 r rfl)
    refine ⟨some r, cW.get 0 rfl, bif_b (fun hh => by cases hh) (fun _ => ?_)⟩
    refine ⟨some r, cW.get 0 rfl, fun _ => ?_⟩
    have mr : MapE W.drew r (lastE S ws) := (MapE.kp h3 ka id).kp (Kp.drew1 (S := none_)) id
    refine (c86 mr ha c).mono ?_
    rintro v w6 ⟨rfl, m6, k6⟩
    exact ⟨rfl, tail (r := r) (w5 := W) (.inl hr.1) (m0b r rfl) hr.2 (fun i hi e => (h8 i hi).2.2.1 (by rw [e])) (Kp.refl _ _) (Nb.refl _ _ _ _) cW (fun i e => .inl (by rw [e]; exact hr.1.1)) m6 k6⟩
end Go.Proofs.Ytlgkcbdpaffigaa
