/- Model: whether a state may be; what may stand beside an error; whether an answer may be given. -/
import Derived.Test.YtbpknjldphckgaaDoorJj
namespace Go.Proofs.YtbpknjldphckgaaDoor
open Go Go.SX Go.Proofs Go.Lib
set_option maxRecDepth 100000
set_option linter.unusedVariables false
set_option linter.unusedSimpArgs false
def stV (x : Stx) : Value := .agg #[.bool x.t, .slice x.q x.L.length x.c]
theorem laidS {w : World} (t : Bool) (v : Value) : Kp none_ w (((w.alloc (.cells #[.bool false, .slice none 0 0] 130)).setCell ⟨w.heap.size, 0, none⟩ (.bool t)).setCell ⟨w.heap.size, 1, none⟩ v) ∧
    w.heap.size < (((w.alloc (.cells #[.bool false, .slice none 0 0] 130)).setCell ⟨w.heap.size, 0, none⟩ (.bool t)).setCell ⟨w.heap.size, 1, none⟩ v).heap.size := by
  have k0 : Kp none_ w (w.alloc (.cells #[.bool false, .slice none 0 0] 130)) := (Kp.refl none_ w).alloc1 _
  have B0 : Big (w.alloc (.cells #[.bool false, .slice none 0 0] 130)) w.heap.size 130 [.bool false, .slice none 0 0] := Big.new _ _ 130
  exact ⟨(k0.setCell (x := ⟨w.heap.size, 0, none⟩) (.bool t) (.inr (Nat.le_refl _))).setCell (x := ⟨w.heap.size, 1, none⟩) v (.inr (Nat.le_refl _)), ((B0.set 0 (.bool t)).set 1 v).lt⟩
theorem c95 {w : World} {b : Nat} {p : MM} (h : MRd w b p) (ok : OkP p) (S : Stx) (hS : FRd w S.q S.L.length S.L) : Rets Tryd.prog 95 #[pt b, stV S] w fun v w' => v = .bool (canM p S.sta) ∧ Kp none_ w w' := by
  refine ent [_, _] Tryd.func95 ((vcTryd95 _ _ _ _ _ w _).mpr ?_)
  unfold VCTryd95
  refine bif_b (fun hn => by cases hn) (fun _ => ?_)
  simp only [ptr_some, ad_add, Nat.zero_add]
  have k0 : Kp none_ w (w.alloc (.cells #[.bool S.t, .slice S.q S.L.length S.c] 130)) := (Kp.refl none_ w).alloc1 _
  have z0 : w.heap.size < (w.alloc (.cells #[.bool S.t, .slice S.q S.L.length S.c] 130)).heap.size := by rw [alloc_size]; omega
  generalize w.alloc (.cells #[.bool S.t, .slice S.q S.L.length S.c] 130) = W at *
  obtain ⟨q, n, c, e, l, hm, rfl, r⟩ := (h.kp0 k0).may
  have hlen : l.length ≤ 1000000 := by have := ok.len; rw [← hm] at this; simpa using this
  have hbig : ∀ x ∈ l, x.L.length ≤ 1000000 := fun x hx => (ok.may x.sta (by rw [← hm]; exact List.mem_map_of_mem hx)).1
  have ecan : canM p S.sta = l.any fun x => x.t == S.t && (!S.t || decide (x.L = S.L)) := by
    unfold canM
    rw [← hm, List.any_map]
    rfl
  rw [ecan]
  refine ⟨_, _, _, e, fun i t w' => ∃ j : Nat, i = j ∧ j ≤ l.length ∧ t = false ∧ Kp none_ W w' ∧ ∀ x (hk : x < l.length), x < j → ((l[x]).t == S.t && (!S.t || decide ((l[x]).L = S.L))) = false, fun i _ _ => (l.length - i).toNat, ⟨0, rfl, by omega, rfl, Kp.refl _ _, fun x hk h => by omega⟩, ?_⟩
  rintro i t w3 ⟨j, rfl, hj, rfl, k3, hn⟩ _
  refine bif_dec (fun h1 => ?_) (fun h1 _ => ⟨_, rfl, ?_, k0.trans k3⟩)
  · have hjl : j < l.length := by omega
    have yes : ∀ {w5 : World}, Kp none_ w3 w5 → ((l[j]).t == S.t && (!S.t || decide ((l[j]).L = S.L))) = true → ∃ v, Ending.returned (.bool true) = Ending.returned v ∧ v = .bool (l.any fun x => x.t == S.t && (!S.t || decide (x.L = S.L))) ∧ Kp none_ w w5 := fun k5 e => ⟨_, rfl, by rw [List.any_eq_true.2 ⟨_, List.getElem_mem hjl, e⟩], (k0.trans k3).trans k5⟩
    have nxt : ∀ {w5 : World}, Kp none_ w3 w5 → ((l[j]).t == S.t && (!S.t || decide ((l[j]).L = S.L))) = false → (∃ j' : Nat, ((j : Int) + 1) = j' ∧ j' ≤ l.length ∧ True ∧ Kp none_ W w5 ∧ ∀ x (hk : x < l.length), x < j' → ((l[x]).t == S.t && (!S.t || decide ((l[x]).L = S.L))) = false) := fun k5 e => ⟨j + 1, by omega, by omega, trivial, k3.trans k5, fun x hk hxj => by
      by_cases ee : x = j
      · subst ee; exact e
      · exact hn x hk (by omega)⟩
    refine ⟨⟨by omega, by omega⟩, st_at (r.kp0 k3) hjl fun x _ mx => ⟨_, _, _, _, ⟨mx.c0, mx.c1, trivial⟩, ?_⟩⟩
    obtain ⟨k4, z4⟩ := laidS (w := w3) l[j].t (.slice l[j].q l[j].L.length l[j].c)
    simp only
    generalize ((w3.alloc (.cells #[.bool false, .slice none 0 0] 130)).setCell ⟨w3.heap.size, 0, none⟩ (.bool l[j].t)).setCell ⟨w3.heap.size, 1, none⟩ (.slice l[j].q l[j].L.length l[j].c) = w4 at *
    refine bif_not (fun hne => wr64 (by omega) ⟨rfl, nxt k4 (by rw [hne]; rfl), by first | omega | (dsimp only; omega)⟩) (fun heq => ?_)
    have eqt : l[j].t = S.t := by simpa using heq
    refine bif_not (fun ht _ => yes k4 (by rw [heq, show S.t = false by rw [← eqt]; exact ht]; rfl)) (fun ht _ => ?_)
    have hSt : S.t = true := by rw [← eqt]; exact ht
    refine (c84 (mx.fi.kp0 k4) (hS.kp0 ((k0.trans k3).trans k4)) (hbig _ (List.getElem_mem hjl))).mono ?_
    rintro v w5 ⟨rfl, k5⟩
    refine ⟨_, rfl, k5.keeps fun b hb => ⟨?_, id⟩, bif_b (fun hh _ => yes (k4.trans k5) (by rw [heq, hSt]; exact hh)) (fun hh => wr64 (by omega) ⟨rfl, nxt (k4.trans k5) (by rw [heq, hSt]; exact hh), by first | omega | (dsimp only; omega)⟩)⟩
    have := k3.size
    simp only [List.mem_cons, List.not_mem_nil, or_false] at hb
    rcases hb with rfl | rfl <;> omega
  · congr 1
    symm
    rw [List.any_eq_false]
    intro x hx
    obtain ⟨k, hk, e⟩ := List.getElem_of_mem hx
    rw [← e, hn k hk (by omega)]
    decide
/-- What stands beside OK. -/
theorem c178 {w : World} (hml : ML w) {b : Nat} {p : MM} (h : MRd w b p) (ok : OkP p) (o : Ox) (a : Ax) (ha : AnAt w a) (hs : o.s.length ≤ 1000000) (hn : a.n.length ≤ 1000000) : Rets Tryd.prog 178 #[pt b, opV o, anV a] w fun v w' => v = .bool (besideM p o.stp a.ans) ∧ Kp none_ w w' := by
  refine ent [_, _, _] Tryd.func178 ((vcTryd178 _ _ _ _ _ _ _ _ _ _ _ _ _ _ _ _ _ _ _ _ _ _ _ _ _ w _).mpr ?_)
  unfold VCTryd178
  obtain ⟨k0, z0⟩ := opKp w o
  rw [opEq, anEq]
  generalize w.alloc (.cells (opC o) 124) = W0 at *
  obtain ⟨k1, z1⟩ := anKp W0 a
  have B1 : Big (W0.alloc (.cells (anC a) 126)) W0.heap.size 126 (anC a).toList := Big.new _ _ 126
  generalize W0.alloc (.cells (anC a) 126) = W at *
  have K := k0.trans k1
  have h0 := h.kp0 K
  have hd := h.kp0 K.drew
  have zw : w.heap.size ≤ W0.heap.size := k0.size
  simp only [ptr_some, ad_add, Nat.zero_add]
  have hb : ∀ b ∈ [w.heap.size, W0.heap.size], b < W.heap.size := fun b hb => by
    simp only [List.mem_cons, List.not_mem_nil, or_false] at hb
    rcases hb with rfl | rfl
    · exact Nat.lt_of_lt_of_le z0 k1.size
    · exact z1
  have e1 : bytesL (ba o.s) = o.s := bytesL_ba _
  have kset : ∀ {w5 : World} (i : Nat) (v : Value), Kp none_ W w5 → Kp none_ w (w5.setCell ⟨W0.heap.size, i, none⟩ v) := fun {w5} i v k => (K.trans k).setCell (x := ⟨W0.heap.size, i, none⟩) v (.inr zw)
  have hbb : ∀ {w5 : World}, Kp none_ W w5 → ∀ b ∈ [w.heap.size, W0.heap.size], b < w5.heap.size := fun k b hbm => Nat.lt_of_lt_of_le (hb b hbm) k.size
  have hbs : ∀ {w5 : World} (i : Nat) (v : Value), Kp none_ W w5 → ∀ b ∈ [w.heap.size, W0.heap.size], b < (w5.setCell ⟨W0.heap.size, i, none⟩ v).heap.size := fun i v k b hbm => by
    exact Nat.lt_of_lt_of_le (hbb k b hbm) ((Kp.refl (fun _ => True) _).setCell (x := ⟨W0.heap.size, i, none⟩) v (.inl trivial)).size
  have no : ∀ {w5 : World} {i : Nat} {v : Value} {P : Prop}, Kp none_ W w5 → besideM p o.stp a.ans = false → P → ∃ v', Ending.returned (.bool false) = Ending.returned v' ∧ v' = .bool (besideM p o.stp a.ans) ∧ Kp none_ w (w5.setCell ⟨W0.heap.size, i, none⟩ v) := fun k e _ => ⟨_, rfl, by rw [e], kset _ _ k⟩
  have b8 : o.k = 8 → besideM p o.stp a.ans = (findD p.now o.s == a.d && bareA { a.ans with data := [] }) := fun hk => by unfold besideM; rw [if_pos hk]
  have b9 : o.k = 9 → besideM p o.stp a.ans = (a.z == ((findD p.now o.s).length : Int) && bareA { a.ans with size := 0 }) := fun hk => by unfold besideM; rw [if_neg (by show ¬ o.k = 8; omega), if_pos hk]
  have b10 : o.k = 10 → besideM p o.stp a.ans = (a.n == underF p.now o.s && bareA { a.ans with names := [] }) := fun hk => by unfold besideM; rw [if_neg (by show ¬ o.k = 8; omega), if_neg (by show ¬ o.k = 9; omega), if_pos hk]
  have b2 : o.k = 2 ∨ o.k = 15 → besideM p o.stp a.ans = (canM p (true, a.L) && bareA { a.ans with files := [] }) := fun hk => by unfold besideM; rw [if_neg (by show ¬ o.k = 8; omega), if_neg (by show ¬ o.k = 9; omega), if_neg (by show ¬ o.k = 10; omega), if_pos hk]
  have b0 : ¬ (o.k = 8 ∨ o.k = 9 ∨ o.k = 10 ∨ o.k = 2 ∨ o.k = 15) → besideM p o.stp a.ans = bareA a.ans := fun hk => by unfold besideM; rw [if_neg (by show ¬ o.k = 8; omega), if_neg (by show ¬ o.k = 9; omega), if_neg (by show ¬ o.k = 10; omega), if_neg (by show ¬ (o.k = 2 ∨ o.k = 15); omega)]
  obtain ⟨qn, nn, cn, en, rn⟩ := hd.now
  have CanL : o.k = 2 ∨ o.k = 15 → ∀ {P : Prop} {Q1 Q2 Q3 : World → Prop}, P → Rets Tryd.prog 95 #[pt b, .agg #[.bool true, .slice a.lq a.L.length a.lc]] W fun v43 w44 => ∃ t45, v43 = .bool t45 ∧ Keeps W w44 [w.heap.size, W0.heap.size] ∧
      bif t45 then (Q1 w44 → Rets Tryd.prog 177 #[.agg #[.int .i64 a.e, .slice a.aq a.d.length a.ac, .int .i64 a.z, .slice a.nq a.n.length a.nc, .slice none 0 0, .bool a.re, .bool a.po]] (w44.setCell ⟨W0.heap.size, 4, none⟩ (.slice none 0 0)) fun v46 w47 => ∃ t48, v46 = .bool t48 ∧ Keeps (w44.setCell ⟨W0.heap.size, 4, none⟩ (.slice none 0 0)) w47 [w.heap.size, W0.heap.size] ∧ (Q2 w47 → ∃ v, Ending.returned (.bool t48) = Ending.returned v ∧ v = .bool (besideM p o.stp a.ans) ∧ Kp none_ w w47))
      else (Q3 w44 → ∃ v, Ending.returned (.bool false) = Ending.returned v ∧ v = .bool (besideM p o.stp a.ans) ∧ Kp none_ w (w44.setCell ⟨W0.heap.size, 4, none⟩ (.slice none 0 0))) := fun hk P Q1 Q2 Q3 _ => by
    refine (c95 h0 ok ⟨true, a.L, a.lq, a.lc⟩ (ha.fil.kp0 K)).mono ?_
    rintro v w5 ⟨rfl, k5⟩
    refine ⟨_, rfl, k5.keeps fun b hbm => ⟨hb b hbm, id⟩, bif_b (fun ht => ?_) (fun ht => no k5 (by rw [b2 hk]; rw [show canM p (true, a.L) = false from ht]; rfl))⟩
    exact leafB (c177 { a with L := [], lq := none, lc := 0 } _) (kset 4 _ k5) (hbs 4 _ k5) (by rw [b2 hk]; rw [show canM p (true, a.L) = true from ht]; rfl)
  have Bare0 : ¬ (o.k = 8 ∨ o.k = 9 ∨ o.k = 10 ∨ o.k = 2 ∨ o.k = 15) → ∀ {P : Prop} {Q : World → Prop}, P → Rets Tryd.prog 177 #[anV a] W fun v w' => ∃ i : Bool, v = .bool i ∧ Keeps W w' [w.heap.size, W0.heap.size] ∧ (Q w' → ∃ v, Ending.returned (.bool i) = Ending.returned v ∧ v = .bool (besideM p o.stp a.ans) ∧ Kp none_ w w') := fun hk P Q => leafB (c177 a W) K hb (b0 hk).symm
  refine bif_eq (fun hk => ?_) (fun hk8 => bif_eq (fun hk => ?_) (fun hk9 => bif_eq (fun hk => ?_) (fun hk10 => ?_)))
  · refine ⟨_, _, _, en, fun _ => (c88 rn ok.asc ok.now (ba o.s)).mono ?_⟩
    rw [e1]
    rintro v w5 ⟨q5, n5, c5, rfl, r5, k5⟩
    have k5' := Kp.of_drew k5
    refine ⟨_, _, _, _, rfl, k5.keeps fun b hbm => ⟨hb b hbm, id⟩, ba (findD p.now o.s), by rw [ba_size]; exact r5.len.symm, r5.by_, ba a.d, ba_size _, ha.dat.kp0 (K.trans k5'), ?_⟩
    rw [toList_ba, toList_ba]
    refine bif_b (fun ht => ?_) (fun ht => no k5' (by rw [b8 hk, ht]; rfl))
    exact leafB (c177 { a with d := [], aq := none, ac := 0 } _) (kset 1 _ k5') (hbs 1 _ k5') (by rw [b8 hk, ht]; rfl)
  · refine ⟨_, _, _, en, fun _ => (c88 rn ok.asc ok.now (ba o.s)).mono ?_⟩
    rw [e1]
    rintro v w5 ⟨q5, n5, c5, rfl, r5, k5⟩
    have k5' := Kp.of_drew k5
    have hn5 := r5.len
    subst hn5
    refine ⟨_, _, _, _, rfl, k5.keeps fun b hbm => ⟨hb b hbm, id⟩, bif_b (fun ht => ?_) (fun ht => no k5' (by rw [b9 hk, ht]; rfl))⟩
    exact leafB (c177 { a with z := 0 } _) (kset 2 _ k5') (hbs 2 _ k5') (by rw [b9 hk, ht]; rfl)
  · refine ⟨_, _, _, en, fun _ => (c193 ((hml.kp0 K).kp0 (Kp.refl none_ _).drew) rn ok.now.1 (ba o.s) (by rw [ba_size]; exact hs)).mono ?_⟩
    rw [e1]
    rintro v w5 ⟨q5, c5, rfl, r5, k5⟩
    have k5' := Kp.of_drew k5
    refine ⟨_, _, _, rfl, k5.keeps fun b hbm => ⟨hb b hbm, id⟩, ?_, fun _ => (c192 (ha.nam.kp0 (K.trans k5')) r5 hn).mono ?_⟩
    · refine k5'.cell0 ?_
      rw [B1.cell]; rfl
    rintro v w6 ⟨rfl, k6⟩
    have k6' := k5'.trans k6
    refine ⟨_, rfl, k6.keeps fun b hbm => ⟨hbb k5' b hbm, id⟩, bif_b (fun ht => ?_) (fun ht => no k6' (by rw [b10 hk, ht]; rfl))⟩
    exact leafB (c177 { a with n := [], nq := none, nc := 0 } _) (kset 3 _ k6') (hbs 3 _ k6') (by rw [b10 hk, ht]; rfl)
  · refine bif_eq (fun hk => bif_eq (fun _ => CanL (.inl hk)) (fun hh => absurd hk hh)) (fun hk2 => bif_eq (fun hk => CanL (.inr hk)) (fun hk15 => Bare0 (by omega)))
end Go.Proofs.YtbpknjldphckgaaDoor
