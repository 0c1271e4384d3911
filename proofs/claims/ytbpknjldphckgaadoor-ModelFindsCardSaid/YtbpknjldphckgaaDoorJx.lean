/- Model: what is found behind a crash, walked. -/
import Derived.Test.YtbpknjldphckgaaDoorJu
import Derived.Test.YtbpknjldphckgaaDoorVmh
namespace Go.Proofs.YtbpknjldphckgaaDoor
open Go Go.SX Go.Proofs Go.Lib
set_option maxRecDepth 100000
set_option linter.unusedVariables false
set_option linter.unusedSimpArgs false
def fM (may : List (Bool × List Fil)) (poi : Bool) (nw : List Fil) : MM := ⟨may, true, poi, false, nw, [], []⟩
def lostM (may : List (Bool × List Fil)) : MM := ⟨may, false, false, false, [], [], []⟩
section
variable {s d t e : List UInt8} {B : List Fil}
theorem opn_f : opnM [(s, d)] [] [] = fM [(true, [])] false [(s, d)] := rfl
theorem with_same : withK Prod.fst [(s, d)] s (s, d) = [(s, d)] := by
  have ha : Asc Prod.fst [(s, d)] := ⟨fun _ h => by (cases h), trivial⟩
  rw [withK_has (k := Prod.fst) ha (s, d) has_one]
  have : pos Prod.fst [(s, d)] s = 0 := pos_ge (by rw [less_irr]; decide)
  rw [this]; rfl
theorem can1 : canM (fM [(true, [])] false [(s, d)]) (true, [(s, d)]) = false := by simp [canM, fM, lostM]
theorem may2 : mayM (fM [(true, [])] false [(s, d)]) ⟨12, [], []⟩ ⟨0, [], 0, [], [], false, false⟩ = true := by simp [mayM, alikeA, plainM, firstM, secondM, poisonM, toldM, insE, putEr, openM, callsM, someM, canM, fM, lostM, has_one, find_one, hasF, has, findD]
theorem st2 : stepP (fM [(true, [])] false [(s, d)]) ⟨12, [], []⟩ ⟨0, [], 0, [], [], false, false⟩ = fM [(true, [(s, d)])] false [(s, d)] := by simp [stepP, endP, midP, doneP, refusedP, openM, fM, lostM]
theorem can2 : canM (fM [(true, [(s, d)])] false [(s, d)]) (true, [(s, d)]) = true := by simp [canM, fM, lostM]
theorem can2n : canM (fM [(true, [(s, d)])] false [(s, d)]) (true, []) = false := by simp [canM, fM, lostM]
theorem may3 (hs : okName t = true) (hd : (e.length : Int) ≤ 65536) : mayM (fM [(true, [(s, d)])] false [(s, d)]) ⟨3, t, e⟩ ⟨0, [], 0, [], [], false, false⟩ = true := by simp [mayM, alikeA, plainM, firstM, secondM, poisonM, toldM, insE, putEr, openM, callsM, someM, canM, fM, lostM, has_one, find_one, hasF, has, findD, hs, hd]
theorem st3 (hB : withK Prod.fst [(s, d)] t (t, e) = B) : stepP (fM [(true, [(s, d)])] false [(s, d)]) ⟨3, t, e⟩ ⟨0, [], 0, [], [], false, false⟩ = fM [(true, [(s, d)])] false B := by simp [stepP, endP, midP, doneP, refusedP, openM, fM, lostM, hB]
theorem can3 (hB1 : ¬ [(s, d)] = B) : canM (fM [(true, [(s, d)])] false B) (true, B) = false := by simp [canM, fM, lostM, hB1]
theorem may4f : mayM (fM [(true, [(s, d)])] false B) ⟨12, [], []⟩ ⟨10, [], 0, [], [], true, false⟩ = false := by simp [mayM, alikeA, plainM, firstM, secondM, poisonM, toldM, insE, putEr, openM, callsM, someM, canM, fM, lostM, has_one, find_one, hasF, has, findD]
theorem may4 : mayM (fM [(true, [(s, d)])] false B) ⟨12, [], []⟩ ⟨10, [], 0, [], [], true, true⟩ = true := by simp [mayM, alikeA, plainM, firstM, secondM, poisonM, toldM, insE, putEr, openM, callsM, someM, canM, fM, lostM, has_one, find_one, hasF, has, findD]
theorem st4 : stepP (fM [(true, [(s, d)])] false B) ⟨12, [], []⟩ ⟨10, [], 0, [], [], true, true⟩ = fM [(true, [(s, d)]), (true, B)] true B := by simp [stepP, endP, midP, doneP, refusedP, openM, fM, lostM]
theorem may5 : mayM (fM [(true, [(s, d)]), (true, B)] true B) ⟨3, s, d⟩ ⟨11, [], 0, [], [], false, true⟩ = true := by simp [mayM, alikeA, plainM, firstM, secondM, poisonM, toldM, insE, putEr, openM, callsM, someM, canM, fM, lostM, has_one, find_one, hasF, has, findD]
theorem st5 : stepP (fM [(true, [(s, d)]), (true, B)] true B) ⟨3, s, d⟩ ⟨11, [], 0, [], [], false, true⟩ = fM [(true, [(s, d)]), (true, B)] true B := by simp [stepP, endP, midP, doneP, refusedP, openM, fM, lostM]
theorem can5a : canM (fM [(true, [(s, d)]), (true, B)] true B) (true, B) = true := by simp [canM, fM, lostM]
theorem can5b : canM (fM [(true, [(s, d)]), (true, B)] true B) (true, [(s, d)]) = true := by simp [canM, fM, lostM]
theorem can5c (hB0 : ¬ B = []) : canM (fM [(true, [(s, d)]), (true, B)] true B) (true, []) = false := by simp [canM, fM, lostM, hB0]
theorem can5d : canM (fM [(true, [(s, d)]), (true, B)] true B) (false, []) = false := by simp [canM, fM, lostM]
theorem may6 : mayM (fM [(true, [(s, d)]), (true, B)] true B) ⟨18, [], []⟩ ⟨0, [], 0, [], [], false, false⟩ = true := by simp [mayM, alikeA, plainM, firstM, secondM, poisonM, toldM, insE, putEr, openM, callsM, someM, canM, fM, lostM, has_one, find_one, hasF, has, findD]
theorem st6 : stepP (fM [(true, [(s, d)]), (true, B)] true B) ⟨18, [], []⟩ ⟨0, [], 0, [], [], false, false⟩ = lostM [(true, [(s, d)]), (true, B)] := by simp [stepP, endP, midP, doneP, refusedP, openM, fM, lostM]
theorem may7f (hB0 : ¬ B = []) : mayM (lostM [(true, [(s, d)]), (true, B)]) ⟨2, [], []⟩ ⟨0, [], 0, [], [], false, false⟩ = false := by simp [mayM, alikeA, plainM, firstM, secondM, poisonM, toldM, insE, putEr, openM, callsM, someM, canM, fM, lostM, has_one, find_one, hasF, has, findD, hB0]
theorem may7 : mayM (lostM [(true, [(s, d)]), (true, B)]) ⟨2, [], []⟩ ⟨0, [], 0, [], [(s, d)], false, false⟩ = true := by simp [mayM, alikeA, plainM, firstM, secondM, poisonM, toldM, insE, putEr, openM, callsM, someM, canM, fM, lostM, has_one, find_one, hasF, has, findD]
theorem st7 : stepP (lostM [(true, [(s, d)]), (true, B)]) ⟨2, [], []⟩ ⟨0, [], 0, [], [(s, d)], false, false⟩ = fM [(true, [(s, d)])] false [(s, d)] := by simp [stepP, endP, midP, doneP, refusedP, openM, fM, lostM]
theorem can7 (hB1 : ¬ [(s, d)] = B) : canM (fM [(true, [(s, d)])] false [(s, d)]) (true, B) = false := by simp [canM, fM, lostM, hB1]
theorem may8 (hs : okName s = true) (hd : (d.length : Int) ≤ 65536) : mayM (fM [(true, [(s, d)])] false [(s, d)]) ⟨3, s, d⟩ ⟨0, [], 0, [], [], false, false⟩ = true := by simp [mayM, alikeA, plainM, firstM, secondM, poisonM, toldM, insE, putEr, openM, callsM, someM, canM, fM, lostM, has_one, find_one, hasF, has, findD, hs, hd]
theorem st8 : stepP (fM [(true, [(s, d)])] false [(s, d)]) ⟨3, s, d⟩ ⟨0, [], 0, [], [], false, false⟩ = fM [(true, [(s, d)])] false [(s, d)] := by simp [stepP, endP, midP, doneP, refusedP, openM, fM, lostM, with_same]
end
def s7 (w : World) (k : Int) (s : ByteArray) (q : Option Addr) (n c : Nat) : World := (((((((w.alloc (.cells #[.int .i64 0, .string { data := #[] }, .slice none 0 0, .int .i64 0, .slice none 0 0, .int .i64 0, .int .u8 0] 124)).setCell ⟨w.heap.size, 0, none⟩ (.int .i64 k)).setCell ⟨w.heap.size, 1, none⟩ (.string s)).setCell ⟨w.heap.size, 2, none⟩ (.slice q n c)).setCell ⟨w.heap.size, 3, none⟩ (.int .i64 0)).setCell ⟨w.heap.size, 4, none⟩ (.slice none 0 0)).setCell ⟨w.heap.size, 5, none⟩ (.int .i64 0)).setCell ⟨w.heap.size, 6, none⟩ (.int .u8 0)
theorem s7_def (w : World) (k : Int) (s : ByteArray) (q : Option Addr) (n c : Nat) : (((((((w.alloc (.cells #[.int .i64 0, .string { data := #[] }, .slice none 0 0, .int .i64 0, .slice none 0 0, .int .i64 0, .int .u8 0] 124)).setCell ⟨w.heap.size, 0, none⟩ (.int .i64 k)).setCell ⟨w.heap.size, 1, none⟩ (.string s)).setCell ⟨w.heap.size, 2, none⟩ (.slice q n c)).setCell ⟨w.heap.size, 3, none⟩ (.int .i64 0)).setCell ⟨w.heap.size, 4, none⟩ (.slice none 0 0)).setCell ⟨w.heap.size, 5, none⟩ (.int .i64 0)).setCell ⟨w.heap.size, 6, none⟩ (.int .u8 0) = s7 w k s q n c := rfl
theorem s7_kp (w : World) (k : Int) (s : ByteArray) (q : Option Addr) (n c : Nat) : Kp none_ w (s7 w k s q n c) ∧ w.heap.size < (s7 w k s q n c).heap.size := by
  constructor
  · have k0 : Kp none_ w (w.alloc (.cells #[.int .i64 0, .string { data := #[] }, .slice none 0 0, .int .i64 0, .slice none 0 0, .int .i64 0, .int .u8 0] 124)) := (Kp.refl none_ w).alloc1 _
    have st : ∀ {W : World} (i : Nat) (v : Value), Kp none_ w W → Kp none_ w (W.setCell ⟨w.heap.size, i, none⟩ v) := fun i v k => k.setCell (x := ⟨w.heap.size, i, none⟩) v (.inr (Nat.le_refl _))
    exact st 6 _ (st 5 _ (st 4 _ (st 3 _ (st 2 _ (st 1 _ (st 0 _ k0))))))
  · unfold s7
    simp only [set_size, alloc_size]
    omega
theorem ml_pos'' {w : World} (h : ML w) : 0 < w.heap.size := by
  obtain ⟨m, h⟩ := h
  exact Nat.lt_of_le_of_lt (Nat.zero_le _) (cell_lt h)
/-- Files laid just before, in one row. -/
theorem fin_new {w : World} {Q : Nat → Prop} (l : List Fx) (hl : 0 < l.length) (hq : Q w.heap.size) (hd : ∀ x ∈ l, DatAt w x ∧ DatIn Q x) : FIn (w.alloc (.cells (fxsC l).toArray 107)) Q (some ⟨w.heap.size, 0, none⟩) l.length (l.map Fx.fil) := by
  have k : Kp none_ w (w.alloc (.cells (fxsC l).toArray 107)) := (Kp.refl none_ w).alloc1 _
  refine ⟨l, rfl, rfl, fun i hi => ⟨_, rfl, ?_, ?_⟩, fun _ a e => by cases e; exact hq, fun x hx => ⟨(hd x hx).1.kp0 k, (hd x hx).2⟩⟩
  · rw [ad_add, ad_add]
    exact cell_alloc_new (by simp only [List.getElem?_toArray, Nat.zero_add]; rw [fxsC_get l i hi 0 (by omega)]; rfl)
  · rw [ad_add, ad_add]
    exact cell_alloc_new (by simp only [List.getElem?_toArray, Nat.zero_add]; rw [fxsC_get l i hi 1 (by omega)]; rfl)
theorem c22 {W0 : World} (hml0 : ML W0) (f g : Fx) (hf : DatAt W0 f) (hg : DatAt W0 g) : Rets Tryd.prog 22 #[fxV f, fxV g] W0 fun v w' => v = .bool true ∧ Kp none_ W0 w' := by
  refine ent [_, _] Tryd.func22 ((vcTryd22 _ _ _ _ _ _ _ _ W0 _).mpr ?_)
  unfold VCTryd22
  have k0 : Kp none_ W0 (W0.alloc (.cells #[.string (ba f.s), .slice f.q f.d.length f.c] 107)) := (Kp.refl none_ _).alloc1 _
  have z0 : W0.heap.size < (W0.alloc (.cells #[.string (ba f.s), .slice f.q f.d.length f.c] 107)).heap.size := by rw [alloc_size]; omega
  generalize hX : W0.alloc (.cells #[.string (ba f.s), .slice f.q f.d.length f.c] 107) = X at *
  have k1 : Kp none_ X (X.alloc (.cells #[.string (ba g.s), .slice g.q g.d.length g.c] 107)) := (Kp.refl none_ _).alloc1 _
  have z1 : X.heap.size < (X.alloc (.cells #[.string (ba g.s), .slice g.q g.d.length g.c] 107)).heap.size := by rw [alloc_size]; omega
  generalize X.alloc (.cells #[.string (ba g.s), .slice g.q g.d.length g.c] 107) = W at *
  have k01 := k0.trans k1
  have one : ∀ {w' : World}, Kp none_ W w' → ∀ b ∈ [W0.heap.size, X.heap.size], b < w'.heap.size := fun k b hb => by
    have := k.size
    simp only [List.mem_cons, List.not_mem_nil, or_false] at hb
    rcases hb with rfl | rfl <;> omega
  have ke : ∀ {w5 w6 : World}, Kp none_ W w5 → Kp none_ w5 w6 → Keeps w5 w6 [W0.heap.size, X.heap.size] := fun k k' => k'.keeps fun b hb => ⟨one k b hb, id⟩
  have hml : ML W := hml0.kp0 k01
  have live : ∀ {w' : World} {bs : List Nat}, (∀ b ∈ bs, b < w'.heap.size) → Kp none_ W w' → ∀ {P : Prop} {Q : World → Prop}, P → Rets Tryd.prog 83 #[] w' fun v w2 => ∃ t : Bool, v = .bool t ∧ Keeps w' w2 bs ∧ (Q w2 → ∃ v, Ending.returned (.bool t) = Ending.returned v ∧ v = .bool true ∧ Kp none_ W0 w2) := fun hb k P Q =>
    leafB (c83 (hml.kp0 k) (ml_pos'' (hml.kp0 k))) (k01.trans k) hb rfl
  intro _
  refine (c29 (ba f.s) W).mono ?_
  rw [bytesL_ba]
  rintro v w1 ⟨rfl, k2⟩
  refine ⟨_, rfl, ke (Kp.refl _ _) k2, bif_not (fun _ => live (one k2) k2) (fun hok => ?_)⟩
  intro _
  refine (c29 (ba g.s) w1).mono ?_
  rw [bytesL_ba]
  rintro v w2 ⟨rfl, k3⟩
  have k23 := k2.trans k3
  refine ⟨_, rfl, ke k2 k3, bif_not (fun _ => live (one k23) k23) (fun hok2 => ?_)⟩
  rw [toList_ba, toList_ba]
  refine bif_b (fun _ => live (one k23) k23) (fun hne => bif_dec (fun _ => live (one k23) k23) (fun hfl => bif_dec (fun _ => live (one k23) k23) (fun hgl => ?_)))
  have hne : f.s ≠ g.s := by simpa using hne
  have hsl : f.s.length ≤ 1000000 := by have := okName_len hok; omega
  have htl : g.s.length ≤ 1000000 := by have := okName_len hok2; omega
  have hdl : (f.d.length : Int) ≤ 65536 := by omega
  have hel : (g.d.length : Int) ≤ 65536 := by omega
  have hdl' : f.d.length ≤ 1000000 := by omega
  have hel' : g.d.length ≤ 1000000 := by omega
  -- both
  have hbo : ∃ B : List Fil, withK Prod.fst [(f.s, f.d)] g.s (g.s, g.d) = B ∧ B = (if Op.bytesLess g.s f.s = true then [(g.s, g.d), (f.s, f.d)] else [(f.s, f.d), (g.s, g.d)]) := by
    refine ⟨_, rfl, ?_⟩
    have ha : Asc Prod.fst [(f.s, f.d)] := ⟨fun _ h => by (cases h), trivial⟩
    have hn : has Prod.fst [(f.s, f.d)] g.s = false := by simpa [has] using hne
    rw [withK_not ha (g.s, g.d) hn]
    by_cases hl : Op.bytesLess g.s f.s = true
    · have hp : pos Prod.fst [(f.s, f.d)] g.s = 0 := pos_ge (by rw [less_asym hl]; decide)
      rw [hp, if_pos hl]; rfl
    · have hl2 : Op.bytesLess f.s g.s = true := by
        rcases less_total g.s f.s with a | a | a
        · exact absurd a hl
        · exact absurd a.symm hne
        · exact a
      have hp : pos Prod.fst [(f.s, f.d)] g.s = 1 := by rw [pos_lt (by exact hl2)]; rfl
      rw [hp, if_neg hl]; rfl
  obtain ⟨B, hB, hBe⟩ := hbo
  have hB0 : ¬ B = [] := by rw [hBe]; split <;> simp
  have hB1 : ¬ [(f.s, f.d)] = B := by rw [hBe]; split <;> simp
  have hBa : Asc Prod.fst B := by
    rw [← hB]
    have ha : Asc Prod.fst [(f.s, f.d)] := ⟨fun _ h => by (cases h), trivial⟩
    exact asc_with ha rfl
  have hBb : bigL B := by
    rw [hBe]
    split
    · exact ⟨by simp, fun x hx => by
        simp only [List.mem_cons, List.not_mem_nil, or_false] at hx
        rcases hx with rfl | rfl <;> (dsimp only; omega)⟩
    · exact ⟨by simp, fun x hx => by
        simp only [List.mem_cons, List.not_mem_nil, or_false] at hx
        rcases hx with rfl | rfl <;> (dsimp only; omega)⟩
  have b1 : bigL [(f.s, f.d)] := ⟨by simp, fun x hx => by
    rw [List.mem_singleton] at hx
    subst hx
    show f.d.length ≤ _
    omega⟩
  have a1 : Asc Prod.fst [(f.s, f.d)] := ⟨fun _ h => by (cases h), trivial⟩
  have okM : ∀ (may : List (Bool × List Fil)) (poi : Bool) (nw : List Fil), (∀ x ∈ may, x.2 = [] ∨ x.2 = [(f.s, f.d)] ∨ x.2 = B) → may.length ≤ 2 → Asc Prod.fst nw → bigL nw → OkP (fM may poi nw) := fun may poi nw h hl ha hb => ⟨ha, hb, fun x hx => by
    rcases h x hx with e | e | e <;> rw [e]
    · exact bigNil
    · exact b1
    · exact hBb, by show may.length ≤ _; omega, by simp [fM], fun h => by cases h⟩
  have okL : OkP (lostM [(true, [(f.s, f.d)]), (true, B)]) := ⟨trivial, bigNil, fun x hx => by
    simp only [lostM, List.mem_cons, List.not_mem_nil, or_false] at hx
    rcases hx with rfl | rfl
    · exact b1
    · exact hBb, by simp [lostM], by simp [lostM], fun h => by cases h⟩
  have ok1 : OkP (fM [(true, [])] false [(f.s, f.d)]) := okM _ _ _ (by simp) (by simp) a1 b1
  have ok2 : OkP (fM [(true, [(f.s, f.d)])] false [(f.s, f.d)]) := okM _ _ _ (by simp) (by simp) a1 b1
  have ok3 : OkP (fM [(true, [(f.s, f.d)])] false B) := okM _ _ _ (by simp) (by simp) hBa hBb
  have ok4 : OkP (fM [(true, [(f.s, f.d)]), (true, B)] true B) := okM _ _ _ (by simp) (by simp) hBa hBb
  intro _
  have hml2 := hml.kp0 k23
  refine (c93 hml2).mono ?_
  rintro v w3 ⟨b, rfl, M3⟩
  have D : ∀ {w : World}, Kp none_ w2 w → DatAt w f := fun k => hf.kp0 ((k01.trans k23).trans k)
  have E : ∀ {w : World}, Kp none_ w2 w → DatAt w g := fun k => hg.kp0 ((k01.trans k23).trans k)
  refine ⟨_, rfl, ke k23 M3.kp, bif_b (fun h => by cases h) (fun _ => ?_)⟩
  obtain ⟨z2, zX⟩ : W0.heap.size < w2.heap.size ∧ X.heap.size < w2.heap.size := ⟨one k23 _ (by simp), one k23 _ (by simp)⟩
  have dIn : ∀ {w : World} (Q : Nat → Prop) (x : Fx), DatAt w2 x → (∀ i, i < w2.heap.size → Q i) → DatIn Q x := fun Q x hd hQ h0 a ha => hQ _ (hd.by_.lt (by rwa [ba_size]) a ha)
  -- one, and both
  have kO : Kp none_ w3 (w3.alloc (.cells #[.string (ba f.s), .slice f.q f.d.length f.c] 107)) := (Kp.refl none_ _).alloc1 _
  have zO : (w3.alloc (.cells #[.string (ba f.s), .slice f.q f.d.length f.c] 107)).heap.size = w3.heap.size + 1 := alloc_size _ _
  have FO : FIn (w3.alloc (.cells #[.string (ba f.s), .slice f.q f.d.length f.c] 107)) (near w2 [w3.heap.size]) (some ⟨w3.heap.size, 0, none⟩) 1 [(f.s, f.d)] := fin_new [f] (by simp) (.inr (by simp)) fun x hx => by
    rw [List.mem_singleton] at hx
    subst hx
    exact ⟨D M3.kp, dIn (w := w3) _ _ (D (Kp.refl _ _)) fun i hi => .inl hi⟩
  have M4 := M3.more kO (F' := [w3.heap.size]) (fun i hi => by
    rw [List.mem_singleton] at hi
    subst hi
    exact ⟨by omega, .inr (.inr (Nat.le_refl _))⟩)
  generalize w3.alloc (.cells #[.string (ba f.s), .slice f.q f.d.length f.c] 107) = w4 at *
  refine ⟨fun q n c s1 q1 n1 c1 s2 q2 n2 c2 w => (s1 = ba f.s ∧ q1 = f.q ∧ n1 = f.d.length ∧ c1 = f.c) ∧ (s2 = ba g.s ∧ q2 = g.q ∧ n2 = g.d.length ∧ c2 = g.c) ∧ n = 2 ∧ c = 2 ∧ ∃ x F, q = some x ∧ x.block ∈ F ∧ w3.heap.size ∈ F ∧ Mo w2 w F b (opnM [] [] []) ∧ FIn w (near w2 F) (some ⟨w3.heap.size, 0, none⟩) 1 [(f.s, f.d)] ∧ FIn w (near w2 F) q 2 B, ?_, ?_⟩
  · rintro q _ _ _ _ _ _ _ _ _ _ w5 ⟨⟨rfl, rfl, rfl, rfl⟩, ⟨rfl, rfl, rfl, rfl⟩, rfl, rfl, x, F, rfl, hxF, hoF, M5, F1, F2⟩ _ _
    simp only [s7_def]
    obtain ⟨k6, z6⟩ := s7_kp w5 3 (ba f.s) f.q f.d.length f.c
    generalize s7 w5 3 (ba f.s) f.q f.d.length f.c = w6 at *
    obtain ⟨k7, z7⟩ := s7_kp w6 3 (ba g.s) g.q g.d.length g.c
    generalize s7 w6 3 (ba g.s) g.q g.d.length g.c = w7 at *
    have k67 := k6.trans k7
    have M7 := M5.more k67 (F' := w5.heap.size :: w6.heap.size :: F) (fun i hi => by
      simp only [List.mem_cons] at hi
      rcases hi with rfl | rfl | hi
      · exact ⟨by omega, .inr (.inr (Nat.le_refl _))⟩
      · exact ⟨by omega, .inr (.inr (by omega))⟩
      · exact ⟨Nat.lt_of_lt_of_le (M5.lt i hi) k67.size, .inl hi⟩)
    have hsub : ∀ i, i < w5.heap.size → near w2 F i → near w2 (w5.heap.size :: w6.heap.size :: F) i := fun i _ hi => hi.imp id fun h => by simp [h]
    have G1 := (F1.kp0 k67).mono fun i _ hi => (hi.imp id fun h => by simp [h] : near w2 (w5.heap.size :: w6.heap.size :: F) i)
    have G2 := (F2.kp0 k67).mono fun i _ hi => (hi.imp id fun h => by simp [h] : near w2 (w5.heap.size :: w6.heap.size :: F) i)
    have in1 : ∀ i ∈ [W0.heap.size, X.heap.size, w5.heap.size, w6.heap.size], i < w2.heap.size ∨ i ∈ w5.heap.size :: w6.heap.size :: F := fun i hi => by
      simp only [List.mem_cons, List.not_mem_nil, or_false] at hi
      rcases hi with rfl | rfl | rfl | rfl
      · exact .inl z2
      · exact .inl zX
      · exact .inr (by simp)
      · exact .inr (by simp)
    generalize w5.heap.size :: w6.heap.size :: F = F7 at *
    have ks : ∀ {w w' : World} {p : MM}, Mo w2 w F7 b p → Kp (away w2 F7) w w' → Keeps w w' [W0.heap.size, X.heap.size, w5.heap.size, w6.heap.size] := fun m k => away_keeps m k in1
    have ko : ∀ {w w' : World} {p : MM}, Mo w2 w F7 b p → Kp none_ w w' → Keeps w w' [W0.heap.size, X.heap.size, w5.heap.size, w6.heap.size] := fun m k => k.keeps fun i hi => by
      rcases in1 i hi with h | h
      · exact ⟨Nat.lt_of_lt_of_le h m.kp.size, id⟩
      · exact ⟨m.lt i h, id⟩
    -- files stay
    have fs : ∀ {w w' : World} {q : Option Addr} {n : Nat} {L : List Fil}, Kp (away w2 F7) w w' → FIn w (near w2 F7) q n L → FIn w' (near w2 F7) q n L := fun k h => h.kp k fun i _ hi => ⟨fun hh => by
      rcases hi with h | h
      · exact absurd hh.1 (by omega)
      · exact hh.2 h, hi⟩
    have okn : OkP (opnM [] [] []) := ok_opn trivial bigNil (by simp)
    refine (M7.stepT hml2 okn (smD (k := 3) hsl (D M7.kp).by_ hf.le hdl' 0 0 false false) (may_put hok hdl) st_put).mono ?_
    rintro v w8 ⟨rfl, M8, k8⟩
    have G1 := fs k8 G1
    have G2 := fs k8 G2
    refine ⟨_, rfl, ks M7 k8, bif_not (fun h => by cases h) (fun _ _ => ?_)⟩
    rw [opn_f] at M8
    -- a state asked for
    have can : ∀ {w : World} {p : MM} (m : Mo w2 w F7 b p) (ok : OkP p) (S : Stx) (hS : FRd w S.q S.L.length S.L) {T : Bool} (h : canM p S.sta = T), Rets Tryd.prog 95 #[pt b, stV S] w fun v w' => v = .bool T ∧ Mo w2 w' F7 b p ∧ Kp none_ w w' := fun m ok S hS T h => (c95 m.rd ok S hS).mono fun v w' ⟨h1, h2⟩ => ⟨by rw [h1, h], m.kp0 h2, h2⟩
    refine (can M8 ok1 ⟨true, [(f.s, f.d)], some ⟨w3.heap.size, 0, none⟩, 1⟩ G1.rd can1).mono ?_
    rintro v w9 ⟨rfl, M9, k9⟩
    have G1 := G1.kp0 k9
    have G2 := G2.kp0 k9
    refine ⟨_, rfl, ko M8 k9, bif_b (fun h => by cases h) (fun _ _ => ?_)⟩
    refine (M9.stepT hml2 ok1 (sm0 _ _ 12 (s := []) (Nat.zero_le _) 0 0 false false) may2 st2).mono ?_
    rintro v w10 ⟨rfl, M10, k10⟩
    have G1 := fs k10 G1
    have G2 := fs k10 G2
    refine ⟨_, rfl, ks M9 k10, bif_not (fun h => by cases h) (fun _ _ => ?_)⟩
    refine (can M10 ok2 ⟨true, [(f.s, f.d)], some ⟨w3.heap.size, 0, none⟩, 1⟩ G1.rd can2).mono ?_
    rintro v w11 ⟨rfl, M11, k11⟩
    have G1 := G1.kp0 k11
    have G2 := G2.kp0 k11
    refine ⟨_, rfl, ko M10 k11, bif_not (fun h => by cases h) (fun _ _ => ?_)⟩
    refine (can M11 ok2 ⟨true, [], none, 0⟩ (fin0 _ (fun _ => True)).rd can2n).mono ?_
    rintro v w12 ⟨rfl, M12, k12⟩
    have G1 := G1.kp0 k12
    have G2 := G2.kp0 k12
    refine ⟨_, rfl, ko M11 k12, bif_b (fun h => by cases h) (fun _ _ => ?_)⟩
    refine (M12.stepT hml2 ok2 (smD (k := 3) htl (E M12.kp).by_ hg.le hel' 0 0 false false) (may3 hok2 hel) (st3 hB)).mono ?_
    rintro v w13 ⟨rfl, M13, k13⟩
    have G1 := fs k13 G1
    have G2 := fs k13 G2
    refine ⟨_, rfl, ks M12 k13, bif_not (fun h => by cases h) (fun _ _ => ?_)⟩
    have hBl : 2 = B.length := by rw [hBe]; split <;> rfl
    have both : ∀ {w : World} {p : MM} (m : Mo w2 w F7 b p) (ok : OkP p) (h : FIn w (near w2 F7) (some x) 2 B) {T : Bool}, canM p (true, B) = T → Rets Tryd.prog 95 #[pt b, .agg #[.bool true, .slice (some x) 2 2]] w fun v w' => v = .bool T ∧ Mo w2 w' F7 b p ∧ Kp none_ w w' := fun m ok h T hc => by
      have := can m ok ⟨true, B, some x, 2⟩ (by rw [← hBl]; exact h.rd) hc
      rw [stV] at this
      simp only [← hBl] at this
      exact this
    refine (both M13 ok3 G2 (can3 hB1)).mono ?_
    rintro v w14 ⟨rfl, M14, k14⟩
    have G1 := G1.kp0 k14
    have G2 := G2.kp0 k14
    refine ⟨_, rfl, ko M13 k14, bif_b (fun h => by cases h) (fun _ _ => ?_)⟩
    refine (M14.stepF hml2 ok3 (sm0 _ _ 12 (s := []) (Nat.zero_le _) 10 0 true false) may4f).mono ?_
    rintro v w15 ⟨rfl, M15, k15⟩
    have G1 := fs k15 G1
    have G2 := fs k15 G2
    refine ⟨_, rfl, ks M14 k15, bif_b (fun h => by cases h) (fun _ _ => ?_)⟩
    refine (M15.stepT hml2 ok3 (sm0 _ _ 12 (s := []) (Nat.zero_le _) 10 0 true true) may4 st4).mono ?_
    rintro v w16 ⟨rfl, M16, k16⟩
    have G1 := fs k16 G1
    have G2 := fs k16 G2
    refine ⟨_, rfl, ks M15 k16, bif_not (fun h => by cases h) (fun _ _ => ?_)⟩
    refine (M16.stepT hml2 ok4 (smD (k := 3) hsl (D M16.kp).by_ hf.le hdl' 11 0 false true) may5 st5).mono ?_
    rintro v w17 ⟨rfl, M17, k17⟩
    have G1 := fs k17 G1
    have G2 := fs k17 G2
    refine ⟨_, rfl, ks M16 k17, bif_not (fun h => by cases h) (fun _ _ => ?_)⟩
    refine (both M17 ok4 G2 can5a).mono ?_
    rintro v w18 ⟨rfl, M18, k18⟩
    have G1 := G1.kp0 k18
    have G2 := G2.kp0 k18
    refine ⟨_, rfl, ko M17 k18, bif_not (fun h => by cases h) (fun _ _ => ?_)⟩
    refine (can M18 ok4 ⟨true, [(f.s, f.d)], some ⟨w3.heap.size, 0, none⟩, 1⟩ G1.rd can5b).mono ?_
    rintro v w19 ⟨rfl, M19, k19⟩
    have G1 := G1.kp0 k19
    have G2 := G2.kp0 k19
    refine ⟨_, rfl, ko M18 k19, bif_not (fun h => by cases h) (fun _ _ => ?_)⟩
    refine (can M19 ok4 ⟨true, [], none, 0⟩ (fin0 _ (fun _ => True)).rd (can5c hB0)).mono ?_
    rintro v w20 ⟨rfl, M20, k20⟩
    have G1 := G1.kp0 k20
    have G2 := G2.kp0 k20
    refine ⟨_, rfl, ko M19 k20, bif_b (fun h => by cases h) (fun _ _ => ?_)⟩
    refine (can M20 ok4 ⟨false, [], none, 0⟩ (fin0 _ (fun _ => True)).rd can5d).mono ?_
    rintro v w21 ⟨rfl, M21, k21⟩
    have G1 := G1.kp0 k21
    have G2 := G2.kp0 k21
    refine ⟨_, rfl, ko M20 k21, bif_b (fun h => by cases h) (fun _ _ => ?_)⟩
    refine (M21.stepT hml2 ok4 (sm0 _ _ 18 (s := []) (Nat.zero_le _) 0 0 false false) may6 st6).mono ?_
    rintro v w22 ⟨rfl, M22, k22⟩
    have G1 := fs k22 G1
    have G2 := fs k22 G2
    refine ⟨_, rfl, ks M21 k22, bif_not (fun h => by cases h) (fun _ _ => ?_)⟩
    refine (M22.stepF hml2 okL (sm0 _ _ 2 (s := []) (Nat.zero_le _) 0 0 false false) (may7f hB0)).mono ?_
    rintro v w23 ⟨rfl, M23, k23'⟩
    have G1 := fs k23' G1
    have G2 := fs k23' G2
    refine ⟨_, rfl, ks M22 k23', bif_b (fun h => by cases h) (fun _ _ => ?_)⟩
    refine (M23.stepT hml2 okL (smF (k := 2) (s := []) (Nat.zero_le _) 1 (L := [(f.s, f.d)]) G1 b1 0 0 false false) may7 st7).mono ?_
    rintro v w24 ⟨rfl, M24, k24⟩
    have G1 := fs k24 G1
    have G2 := fs k24 G2
    refine ⟨_, rfl, ks M23 k24, bif_not (fun h => by cases h) (fun _ _ => ?_)⟩
    refine (can M24 ok2 ⟨true, [(f.s, f.d)], some ⟨w3.heap.size, 0, none⟩, 1⟩ G1.rd can2).mono ?_
    rintro v w25 ⟨rfl, M25, k25⟩
    have G2 := G2.kp0 k25
    refine ⟨_, rfl, ko M24 k25, bif_b (fun _ _ => ?_) (fun h => by cases h)⟩
    refine (both M25 ok2 G2 (can7 hB1)).mono ?_
    rintro v w26 ⟨rfl, M26, k26⟩
    refine ⟨_, rfl, ko M25 k26, bif_not (fun _ _ => ?_) (fun h => by cases h)⟩
    refine (M26.stepT hml2 ok2 (smD (k := 3) hsl (D M26.kp).by_ hf.le hdl' 0 0 false false) (may8 hok hdl) st8).mono ?_
    rintro v w27 ⟨rfl, M27, k27⟩
    exact ⟨_, rfl, ks M26 k27, bif_b (fun _ => live (fun i hi => by
      rcases in1 i hi with h | h
      · exact Nat.lt_of_lt_of_le h M27.kp.size
      · exact M27.lt i h) (k23.trans M27.kp)) (fun h => by cases h)⟩
  · have kB : Kp none_ w4 (w4.alloc (.cells #[.string (ba f.s), .slice f.q f.d.length f.c, .string (ba g.s), .slice g.q g.d.length g.c] 107)) := (Kp.refl none_ _).alloc1 _
    have zB : (w4.alloc (.cells #[.string (ba f.s), .slice f.q f.d.length f.c, .string (ba g.s), .slice g.q g.d.length g.c] 107)).heap.size = w4.heap.size + 1 := alloc_size _ _
    have kD : ∀ {w : World} {F : List Nat} {p : MM}, Mo w2 w F b p → ∀ Fs : List Nat, (∀ i ∈ Fs, i = w3.heap.size ∨ w4.heap.size ≤ i) → ∀ x ∈ [f, g], DatAt w x ∧ DatIn (near w2 Fs) x := fun m Fs _ x hx => by
      simp only [List.mem_cons, List.not_mem_nil, or_false] at hx
      rcases hx with rfl | rfl
      · exact ⟨D m.kp, dIn (w := w4) _ _ (D (Kp.refl _ _)) fun i hi => .inl hi⟩
      · exact ⟨E m.kp, dIn (w := w4) _ _ (E (Kp.refl _ _)) fun i hi => .inl hi⟩
    have kB' := kB
    generalize hw6 : w4.alloc (.cells #[.string (ba f.s), .slice f.q f.d.length f.c, .string (ba g.s), .slice g.q g.d.length g.c] 107) = w6 at *
    refine bif_b (fun hl => ?_) (fun hl => ?_)
    · have kC : Kp none_ w6 (w6.alloc (.cells #[.string (ba g.s), .slice g.q g.d.length g.c, .string (ba f.s), .slice f.q f.d.length f.c] 107)) := (Kp.refl none_ _).alloc1 _
      have zC : (w6.alloc (.cells #[.string (ba g.s), .slice g.q g.d.length g.c, .string (ba f.s), .slice f.q f.d.length f.c] 107)).heap.size = w6.heap.size + 1 := alloc_size _ _
      have M5 := (M4.kp0 kB)
      have FB : FIn (w6.alloc (.cells #[.string (ba g.s), .slice g.q g.d.length g.c, .string (ba f.s), .slice f.q f.d.length f.c] 107)) (near w2 [w3.heap.size, w6.heap.size]) (some ⟨w6.heap.size, 0, none⟩) 2 [(g.s, g.d), (f.s, f.d)] := fin_new [g, f] (by simp) (.inr (by simp)) fun x hx => kD M5 _ (fun i hi => by
        simp only [List.mem_cons, List.not_mem_nil, or_false] at hi
        rcases hi with rfl | rfl
        · exact .inl rfl
        · exact .inr (by omega)) x (by simp only [List.mem_cons, List.not_mem_nil, or_false] at hx ⊢; exact hx.symm)
      refine ⟨⟨rfl, rfl, rfl, rfl⟩, ⟨rfl, rfl, rfl, rfl⟩, rfl, rfl, _, [w3.heap.size, w6.heap.size], rfl, by simp, by simp, ?_, ?_, ?_⟩
      · refine M5.more kC fun i hi => ?_
        simp only [List.mem_cons, List.not_mem_nil, or_false] at hi
        rcases hi with rfl | rfl
        · exact ⟨by omega, .inl (by simp)⟩
        · exact ⟨by omega, .inr (.inr (Nat.le_refl _))⟩
      · exact (FO.kp0 (kB.trans kC)).mono fun i _ hi => hi.imp id fun h => by simp at h; simp [h]
      · rw [hBe, if_pos hl]; exact FB
    · have FB : FIn w6 (near w2 [w3.heap.size, w4.heap.size]) (some ⟨w4.heap.size, 0, none⟩) 2 [(f.s, f.d), (g.s, g.d)] := by
        rw [← hw6]
        exact fin_new [f, g] (by simp) (.inr (by simp)) fun x hx => kD M4 _ (fun i hi => by
          simp only [List.mem_cons, List.not_mem_nil, or_false] at hi
          rcases hi with rfl | rfl
          · exact .inl rfl
          · exact .inr (Nat.le_refl _)) x hx
      refine ⟨⟨rfl, rfl, rfl, rfl⟩, ⟨rfl, rfl, rfl, rfl⟩, rfl, rfl, _, [w3.heap.size, w4.heap.size], rfl, by simp, by simp, ?_, ?_, ?_⟩
      · refine M4.more kB fun i hi => ?_
        simp only [List.mem_cons, List.not_mem_nil, or_false] at hi
        rcases hi with rfl | rfl
        · exact ⟨by omega, .inl (by simp)⟩
        · exact ⟨by omega, .inr (.inr (Nat.le_refl _))⟩
      · exact (FO.kp0 kB).mono fun i _ hi => hi.imp id fun h => by simp at h; simp [h]
      · rw [hBe, if_neg (by rw [hl]; decide)]; exact FB
end Go.Proofs.YtbpknjldphckgaaDoor
