/- Model: a file put in, taken out. -/
import Derived.Test.YtbpknjldphckgaaDoorJb
namespace Go.Proofs.YtbpknjldphckgaaDoor
open Go Go.SX Go.Proofs Go.Lib
set_option maxRecDepth 100000
set_option linter.unusedVariables false
set_option linter.unusedSimpArgs false
theorem zero107 : ZeroOk Tryd.prog 107 2 (.agg #[.string ⟨#[]⟩, .slice none 0 0]) := by
  refine ⟨?_, rfl, fun u hu => ?_⟩
  · have h : (Tryd.prog.info? 107).map (fun i => i.zero) = some (some (.agg #[.string ⟨#[]⟩, .slice none 0 0])) := by kernel_rfl
    obtain ⟨i, hi, hh⟩ := Option.map_eq_some_iff.1 h
    exact ⟨i, hi, hh⟩
  · simp [Value.cells] at hu
    rcases hu with rfl | rfl <;> simp [Value.oneCell']
theorem und3 : Tryd.prog.underlying 3 = some (.int .i64) := Tryd.underlying3
theorem row_some {w : World} {own : Nat → Prop} {q : Option Addr} {c n m : Nat} {xs : List Value} (hr : OwnRow w own 107 2 (.slice q m c) n xs) (hn : 0 < n) : ∃ g, q = some ⟨g, 0, none⟩ := by
  obtain ⟨g, _, e, _⟩ := hr.parts hn
  exact ⟨g, e⟩
theorem c141 {w : World} {own : Nat → Prop} {q : Option Addr} {c i : Nat} {l : List Fx} (hr : OwnRow w own 107 2 (.slice q l.length c) l.length (fxsC l)) (hi : i < l.length) : Rets Tryd.prog 141 #[.slice q l.length c, .int .i64 i, .int .i64 ((i + 1 : Nat) : Int)] w fun v w' =>
    ∃ q' c', v = .slice q' (l.length - 1) c' ∧ OwnRow w' own 107 2 (.slice q' (l.length - 1) c') (l.length - 1) (fxsC (l.take i ++ l.drop (i + 1))) ∧ Kp own w w' := by
  refine ent [_, _, _] Tryd.func141 ((vcTryd141 _ _ _ _ _ w _).mpr ?_)
  unfold VCTryd141
  have hc := hr.lens.2
  obtain ⟨g, rfl⟩ := row_some hr (by omega)
  simp only [Int.toNat_natCast, Nat.sub_zero, cut_zero]
  refine ⟨⟨by omega, by omega⟩, ⟨by omega, by omega⟩, ⟨by omega, by omega⟩, bif_eq (fun e => absurd e (by omega)) (fun _ => ⟨⟨by omega, by omega⟩, ⟨by omega, by omega⟩, ?_⟩)⟩
  have hr1 := (hr.front (i := i) (by omega)).kp (Kp.refl none_ w).drew fun _ _ _ _ _ => id
  rw [fxsC_take] at hr1
  refine append_room (m := l.length - (i + 1)) (news := fxsC (l.drop (i + 1))) und105 elem107 (by omega) hr1 ⟨_, rfl⟩ (by rw [fxsC_len, List.length_drop]) (fun j u hj => ?_) (fxsC_one _) (by omega) fun w1 r1 k1 => ?_
  · have hne : c ≠ i + 1 := fun e => by
      have : l.drop (i + 1) = [] := List.drop_eq_nil_of_le (by omega)
      rw [this] at hj; simp [fxsC] at hj
    rw [← fxsC_drop] at hj
    exact hr.drop_at hne j u hj
  · refine ⟨_, _, _, rfl, k1.keeps0, ⟨by omega, by omega⟩, ⟨by omega, by omega⟩, ?_⟩
    have en : i + (l.length - (i + 1)) = l.length - 1 := by omega
    rw [en] at r1 ⊢
    rw [← fxsC_app] at r1
    refine clear_own (d := l.length - (l.length - 1)) und105 elem107 zero107.run (zero107.ones (by omega) _) zero107.size r1 (by omega) (by omega) ⟨_, rfl⟩ fun w2 r2 k2 => ⟨rfl, k2.keeps0, _, rfl, _, _, rfl, r2, ?_⟩
    have k1' : Kp own w w1 := Kp.of_drew k1
    exact k1'.trans k2
theorem ext173 : Extern.find Tryd.f173 = some (Extern.SlicesOverlaps.overlaps #[105, 105] #[4]) := by rfl
theorem c173 {w : World} {g g2 o la ca lb cb : Nat} {cur cur2 : Array Value} {e2 : TypeId} {K : Value → World → Prop} (hg : w.heap[g]? = some (.cells cur 107 (0, 0))) (hg2 : w.heap[g2]? = some (.cells cur2 e2 (0, 0))) (hne : g2 ≠ g) (hcur : cur.size ≠ 0) (hK : K (.bool false) w) :
    RetsX Tryd.prog 173 #[.slice (some ⟨g2, 0, none⟩) la ca, .slice (some ⟨g, o, none⟩) lb cb] w K :=
  overlaps_own Tryd.func173 (by kernel_rfl) (by kernel_rfl) (by rfl) ext173 und105 elem107 hg hg2 hne hcur hK
theorem fxC_one (b : Fx) : ∀ u ∈ fxC b, u.oneCell' = true := fun u hu => fxsC_one [b] u (by simpa [fxsC] using hu)
theorem split_row (l : List Fx) (i : Nat) (hi : i ≤ l.length) : fxsC l = fxsC (l.take i) ++ fxsC (l.drop i) := by rw [← fxsC_app, List.take_append_drop]
theorem put_mid (A B X Y : List Value) (n : Nat) (hA : A.length = n) (hX : X.length = Y.length) : (A ++ X ++ B).take n ++ Y ++ (A ++ X ++ B).drop (n + Y.length) = A ++ Y ++ B := by
  subst hA
  rw [← hX]
  simp [List.drop_append]
theorem c140 {w : World} {own : Nat → Prop} {q : Option Addr} {c i g2 : Nat} {l : List Fx} {b : Fx} (hr : OwnRow w own 107 2 (.slice q l.length c) l.length (fxsC l)) (hi : i ≤ l.length) (hb : Big w g2 107 (fxC b)) (hg2 : ¬ own g2) (hl : l.length ≤ 1000000) :
    Rets Tryd.prog 140 #[.slice q l.length c, .int .i64 i, .slice (some ⟨g2, 0, none⟩) 1 1] w fun v w' =>
    ∃ q' c', v = .slice q' (l.length + 1) c' ∧ OwnRow w' (fun i => own i ∨ fresh w i) 107 2 (.slice q' (l.length + 1) c') (l.length + 1) (fxsC (l.take i ++ b :: l.drop i)) ∧ Kp own w w' := by
  refine ent [_, _, _] Tryd.func140 ((vcTryd140 _ _ _ _ _ _ _ w _).mpr ?_)
  unfold VCTryd140
  have hc := hr.lens.2
  have news : ∀ {w' : World}, Big w' g2 107 (fxC b) → ∀ j u, (fxC b)[j]? = some u → w'.cell? ((⟨g2, 0, none⟩ : Addr).add j) = some u := fun hb j u hj => by
    rw [ad_add, Nat.zero_add, hb.cell]; exact hj
  have hb2 : (fxC b).length = 2 := rfl
  refine ⟨⟨by omega, by omega⟩, bif_eq (fun e => absurd e (by decide)) (fun _ => bif_eq (fun e => ?_) (fun hne => wr64 (by omega) ?_))⟩
  · have ei : i = l.length := by omega
    refine append_own (m := 1) (xs := fxsC l) (news := fxC b) und105 elem107 (by omega) hr rfl (news hb) (fxC_one b) (by omega) (by omega) fun v' w' r' k' => ?_
    obtain ⟨q', c', rfl⟩ := r'.slice
    refine ⟨_, _, _, rfl, k'.keeps0, _, rfl, _, _, rfl, ?_, k'⟩
    subst ei
    rw [List.take_length, List.drop_length, fxsC_app]
    simpa [fxsC] using r'
  obtain ⟨g, rfl⟩ := row_some hr (by omega)
  refine ⟨_, _, run_cap_row und105 w, _, rfl, (Kp.refl none_ _).keeps0, bif_dec (fun hgt => ?_) (fun hle => ?_)⟩
  · -- no room: a new row
    refine ⟨⟨by omega, by omega⟩, wr64 (by omega) (wr64 (by omega) ?_)⟩
    simp only [Int.toNat_natCast, Nat.sub_zero, cut_zero]
    have ek : ((l.length : Int) + ((1 : Nat) : Int) - (i : Int)) = ((l.length + 1 - i : Nat) : Int) := by omega
    rw [ek]
    have hr1 := hr.front (i := i) (by omega)
    rw [fxsC_take] at hr1
    refine zeros_grow (k := l.length + 1 - i) und105 und3 elem107 zero107.info zero107.size (by omega) hr1 ⟨_, rfl⟩ (by omega) (by omega) (by omega) fun g1 c1 w1 r1 hg1 k1 => ?_
    have en : i + (l.length + 1 - i) = l.length + 1 := by omega
    rw [en] at r1 ⊢
    have hc1 := r1.lens.2
    have hzl := zerosL_len zero107.size (l.length + 1 - i)
    generalize zerosL (.agg #[.string ⟨#[]⟩, .slice none 0 0]) (l.length + 1 - i) = Z at *
    refine ⟨_, _, _, rfl, k1.keeps0, ⟨by omega, by omega⟩, ?_⟩
    have hm : Nat.min 1 (l.length + 1 - i) = 1 := Nat.min_eq_left (by omega)
    refine copy_own_any (o := i) (dLen := l.length + 1 - i) (sLen := 1) (cs := fxC b) und105 elem107 (by omega) r1 (by rw [hm]; rfl) (by omega) (by omega) (news (hb.kp k1 id)) (fxC_one b) fun w2 r2 k2 => ?_
    have kk2 : Kp none_ w w2 := (k1.wide.trans k2).narrow (Nat.le_refl _)
    have tl : (fxsC (l.take i)).length = i * 2 := by rw [fxsC_len, List.length_take]; omega
    have e2 : (fxsC (l.take i) ++ Z).take (i * 2) ++ fxC b ++ (fxsC (l.take i) ++ Z).drop (i * 2 + (fxC b).length) = fxsC (l.take i ++ [b]) ++ Z.drop 2 := by
      rw [fxsC_app, ← tl, List.take_left, List.drop_append, List.drop_eq_nil_of_le (by omega)]
      simp [fxsC, hb2]
    rw [e2] at r2
    rw [hm]
    refine ⟨_, rfl, k2.keeps0, wr64 (by omega) ⟨⟨by omega, by omega⟩, ⟨by omega, by omega⟩, ?_⟩⟩
    have ei : ((i : Int) + ((1 : Nat) : Int)) = ((i + 1 : Nat) : Int) := by omega
    rw [ei]
    simp only [Int.toNat_natCast]
    have hold := hr.kp kk2 fun _ _ _ _ _ => id
    have hold' := hold.kp (Kp.refl none_ w2).drew fun _ _ _ _ _ => id
    have r2' := r2.kp (Kp.refl none_ w2).drew fun _ _ _ _ _ => id
    rw [cut_at (g := g) (cap := c) (o := i) (by omega)]
    have hm2 : Nat.min (l.length - i) (l.length + 1 - (i + 1)) = l.length - i := by rw [show l.length + 1 - (i + 1) = l.length - i by omega]; exact Nat.min_self _
    refine copy_own_any (o := i + 1) (dLen := l.length + 1 - (i + 1)) (sLen := l.length - i) (cs := fxsC (l.drop i)) (a := ⟨g, i * 2, none⟩) und105 elem107 (by omega) r2' (by rw [hm2, fxsC_len, List.length_drop]) (by omega) (by omega) (fun j u hj => ?_) (fxsC_one _) fun w3 r3 k3 => ?_
    · rw [← fxsC_drop] at hj
      obtain ⟨x, ex, hx⟩ := hold'.drop_at (o := i) (by omega) j u hj
      rw [cut_at (by omega)] at ex
      cases ex; exact hx
    · rw [hm2]
      refine ⟨_, rfl, k3.keeps0, _, rfl, _, _, rfl, ?_, ?_⟩
      · have t2 : (fxsC (l.take i ++ [b])).length = (i + 1) * 2 := by rw [fxsC_len, List.length_append, List.length_take]; simp; omega
        have dl : (fxsC (l.drop i)).length = (l.length - i) * 2 := by rw [fxsC_len, List.length_drop]
        have e3 : (fxsC (l.take i ++ [b]) ++ Z.drop 2).take ((i + 1) * 2) ++ fxsC (l.drop i) ++ (fxsC (l.take i ++ [b]) ++ Z.drop 2).drop ((i + 1) * 2 + (fxsC (l.drop i)).length) = fxsC (l.take i ++ b :: l.drop i) := by
          have hd : (fxsC (l.take i ++ [b]) ++ Z.drop 2).drop ((i + 1) * 2 + (fxsC (l.drop i)).length) = [] := List.drop_eq_nil_of_le (by rw [List.length_append, List.length_drop, hzl]; omega)
          rw [hd, ← t2, List.take_left, List.append_nil, ← fxsC_app]
          simp
        rw [e3] at r3
        exact r3.mono fun i hi _ => .inr hi
      · have := ((kk2.drew).wide.trans k3).narrow (E := w.heap.size) (Nat.le_refl _)
        exact this.wide
  · -- there is room
    refine wr64 (by omega) ⟨⟨by omega, by omega⟩, wr64 (by omega) ?_⟩
    have en : ((l.length : Int) + ((1 : Nat) : Int)) = ((l.length + 1 : Nat) : Int) := by omega
    have ei : ((i : Int) + ((1 : Nat) : Int)) = ((i + 1 : Nat) : Int) := by omega
    rw [en, ei]
    simp only [Int.toNat_natCast, Nat.sub_zero, cut_zero]
    obtain ⟨ys, hys, rx⟩ := hr.extend (k := 1) (by omega)
    obtain ⟨gg, cur, egg, _, hog, hcur, hnc, hcm, hcs, htk⟩ := rx.parts (by omega)
    cases egg
    rw [cut_at (by omega)]
    refine ⟨⟨by omega, by omega⟩, c173 hcur hb (fun e => hg2 (by rw [e]; exact hog)) (by omega) ⟨_, rfl, (Kp.refl none_ _).keeps0, ?_⟩⟩
    refine bif_not (fun _ => wr64 (by omega) ?_) (fun h => by cases h)
    simp only [Int.toNat_natCast]
    refine ⟨⟨by omega, by omega⟩, ⟨by omega, by omega⟩, ?_⟩
    have rxd := rx.kp (Kp.refl none_ w).drew fun _ _ _ _ _ => id
    have hm : Nat.min (l.length + 1 - i) (l.length + 1 - (i + 1)) = l.length - i := by
      rw [show l.length + 1 - (i + 1) = l.length - i by omega]
      exact Nat.min_eq_right (by omega)
    have tl : (fxsC (l.take i)).length = i * 2 := by rw [fxsC_len, List.length_take]; omega
    have dl : (fxsC (l.drop i)).length = (l.length - i) * 2 := by rw [fxsC_len, List.length_drop]
    rw [cut_at (g := g) (cap := c) (o := i) (by omega)]
    refine copy_own_any (o := i + 1) (dLen := l.length + 1 - (i + 1)) (sLen := l.length + 1 - i) (cs := fxsC (l.drop i)) (a := ⟨g, i * 2, none⟩) und105 elem107 (by omega) rxd (by rw [hm, dl]) (by omega) (by omega) (fun j u hj => ?_) (fxsC_one _) fun w1 r1 k1 => ?_
    · have hj' : ((fxsC l ++ ys).drop (i * 2))[j]? = some u := by
        rw [List.drop_append, fxsC_drop, List.getElem?_append_left (List.getElem?_eq_some_iff.1 hj).1]
        exact hj
      obtain ⟨x, ex, hx⟩ := rxd.drop_at (o := i) (by omega) j u hj'
      rw [cut_at (by omega)] at ex
      cases ex; exact hx
    · rw [hm]
      refine ⟨_, rfl, k1.keeps0, ⟨by omega, by omega⟩, ?_⟩
      have K1 : Kp own w w1 := Kp.of_drew k1
      have hm2 : Nat.min 1 (l.length + 1 - i) = 1 := Nat.min_eq_left (by omega)
      rw [← cut_at (g := g) (cap := c) (o := i) (size := 2) (by omega)]
      refine copy_own_any (o := i) (dLen := l.length + 1 - i) (sLen := 1) (cs := fxC b) und105 elem107 (by omega) r1 (by rw [hm2]; rfl) (by omega) (by omega) (news (hb.kp K1 hg2)) (fxC_one b) fun w2 r2 k2 => ?_
      rw [hm2]
      refine ⟨_, rfl, k2.keeps0, _, rfl, _, _, rfl, ?_, K1.trans k2⟩
      have ml : (fxsC l).length = l.length * 2 := fxsC_len l
      have e2 : (fxsC l ++ ys).take ((i + 1) * 2) ++ fxsC (l.drop i) ++ (fxsC l ++ ys).drop ((i + 1) * 2 + (fxsC (l.drop i)).length) = fxsC (l.take i) ++ ((fxsC (l.drop i) ++ ys).take 2) ++ fxsC (l.drop i) := by
        have hd : (fxsC l ++ ys).drop ((i + 1) * 2 + (fxsC (l.drop i)).length) = [] := List.drop_eq_nil_of_le (by rw [List.length_append, ml, hys, dl]; omega)
        rw [hd, List.append_nil]
        congr 1
        rw [split_row l i (by omega), List.append_assoc, List.take_append, tl, List.take_of_length_le (by omega), show (i + 1) * 2 - i * 2 = 2 by omega]
      rw [e2] at r2
      have hX : ((fxsC (l.drop i) ++ ys).take 2).length = (fxC b).length := by
        rw [List.length_take, List.length_append, dl, hys, hb2]; omega
      rw [put_mid _ _ _ _ _ tl hX] at r2
      have e3 : fxsC (l.take i) ++ fxC b ++ fxsC (l.drop i) = fxsC (l.take i ++ b :: l.drop i) := by
        rw [fxsC_app, fxsC, List.append_assoc]
      rw [e3] at r2
      exact r2.mono fun i hi _ => .inl hi
end Go.Proofs.YtbpknjldphckgaaDoor
