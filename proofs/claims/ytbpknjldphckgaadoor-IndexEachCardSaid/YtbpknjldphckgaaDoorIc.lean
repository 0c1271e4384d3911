/- Index: a member put in, taken out. -/
import Derived.Test.YtbpknjldphckgaaDoorIb
namespace Go.Proofs.YtbpknjldphckgaaDoor
open Go Go.SX Go.Proofs Go.Lib
set_option maxRecDepth 100000
set_option linter.unusedVariables false
set_option linter.unusedSimpArgs false
theorem zero50 : ZeroOk Tryd.prog 50 7 (.agg #[.string ⟨#[]⟩, .int .i64 0, .int .i64 0, .int .i64 0, .int .i64 0, .int .u32 0, .int .i64 0]) := by
  refine ⟨?_, rfl, fun u hu => ?_⟩
  · have h : (Tryd.prog.info? 50).map (fun i => i.zero) = some (some (.agg #[.string ⟨#[]⟩, .int .i64 0, .int .i64 0, .int .i64 0, .int .i64 0, .int .u32 0, .int .i64 0])) := by kernel_rfl
    obtain ⟨i, hi, hh⟩ := Option.map_eq_some_iff.1 h
    exact ⟨i, hi, hh⟩
  · simp [Value.cells] at hu
    rcases hu with rfl | rfl | rfl | rfl <;> simp [Value.oneCell']
theorem und3 : Tryd.prog.underlying 3 = some (.int .i64) := Tryd.underlying3
theorem row_some {w : World} {own : Nat → Prop} {q : Option Addr} {c n m : Nat} {xs : List Value} (hr : OwnRow w own 50 7 (.slice q m c) n xs) (hn : 0 < n) : ∃ g, q = some ⟨g, 0, none⟩ := by
  obtain ⟨g, _, e, _⟩ := hr.parts hn
  exact ⟨g, e⟩
theorem c131 {w : World} {own : Nat → Prop} {q : Option Addr} {c i : Nat} {l : List Mb} (hr : OwnRow w own 50 7 (.slice q l.length c) l.length (memsC l)) (hi : i < l.length) : Rets Tryd.prog 131 #[.slice q l.length c, .int .i64 i, .int .i64 ((i + 1 : Nat) : Int)] w fun v w' =>
    ∃ q' c', v = .slice q' (l.length - 1) c' ∧ OwnRow w' own 50 7 (.slice q' (l.length - 1) c') (l.length - 1) (memsC (l.take i ++ l.drop (i + 1))) ∧ Kp own w w' := by
  refine ent [_, _, _] Tryd.func131 ((vcTryd131 _ _ _ _ _ w _).mpr ?_)
  unfold VCTryd131
  have hc := hr.lens.2
  obtain ⟨g, rfl⟩ := row_some hr (by omega)
  simp only [Int.toNat_natCast, Nat.sub_zero, cut_zero]
  refine ⟨⟨by omega, by omega⟩, ⟨by omega, by omega⟩, ⟨by omega, by omega⟩, bif_eq (fun e => absurd e (by omega)) (fun _ => ⟨⟨by omega, by omega⟩, ⟨by omega, by omega⟩, ?_⟩)⟩
  have hr1 := (hr.front (i := i) (by omega)).kp (Kp.refl none_ w).drew fun _ _ _ _ _ => id
  rw [memsC_take] at hr1
  refine append_room (m := l.length - (i + 1)) (news := memsC (l.drop (i + 1))) und42 elem50 (by omega) hr1 ⟨_, rfl⟩ (by rw [memsC_len, List.length_drop]) (fun j u hj => ?_) (memsC_one _) (by omega) fun w1 r1 k1 => ?_
  · have hne : c ≠ i + 1 := fun e => by
      have : l.drop (i + 1) = [] := List.drop_eq_nil_of_le (by omega)
      rw [this] at hj; simp [memsC] at hj
    rw [← memsC_drop] at hj
    exact hr.drop_at hne j u hj
  · refine ⟨_, _, _, rfl, k1.keeps0, ⟨by omega, by omega⟩, ⟨by omega, by omega⟩, ?_⟩
    have en : i + (l.length - (i + 1)) = l.length - 1 := by omega
    rw [en] at r1 ⊢
    rw [← memsC_app] at r1
    refine clear_own (d := l.length - (l.length - 1)) und42 elem50 zero50.run (zero50.ones (by omega) _) zero50.size r1 (by omega) (by omega) ⟨_, rfl⟩ fun w2 r2 k2 => ⟨rfl, k2.keeps0, _, rfl, _, _, rfl, r2, ?_⟩
    have k1' : Kp own w w1 := Kp.of_drew k1
    exact k1'.trans k2
theorem ext168 : Extern.find Tryd.f168 = some (Extern.SlicesOverlaps.overlaps #[42, 42] #[4]) := by rfl
theorem c168 {w : World} {g g2 o la ca lb cb : Nat} {cur cur2 : Array Value} {e2 : TypeId} {K : Value → World → Prop} (hg : w.heap[g]? = some (.cells cur 50 (0, 0))) (hg2 : w.heap[g2]? = some (.cells cur2 e2 (0, 0))) (hne : g2 ≠ g) (hcur : cur.size ≠ 0) (hK : K (.bool false) w) :
    RetsX Tryd.prog 168 #[.slice (some ⟨g2, 0, none⟩) la ca, .slice (some ⟨g, o, none⟩) lb cb] w K :=
  overlaps_own Tryd.func168 (by kernel_rfl) (by kernel_rfl) (by rfl) ext168 und42 elem50 hg hg2 hne hcur hK
theorem mbC_one (b : Mb) : ∀ u ∈ mbC b, u.oneCell' = true := fun u hu => memsC_one [b] u (by simpa [memsC] using hu)
theorem split_row (l : List Mb) (i : Nat) (hi : i ≤ l.length) : memsC l = memsC (l.take i) ++ memsC (l.drop i) := by rw [← memsC_app, List.take_append_drop]
theorem put_mid (A B X Y : List Value) (n : Nat) (hA : A.length = n) (hX : X.length = Y.length) : (A ++ X ++ B).take n ++ Y ++ (A ++ X ++ B).drop (n + Y.length) = A ++ Y ++ B := by
  subst hA
  rw [← hX]
  simp [List.drop_append]
theorem c130 {w : World} {own : Nat → Prop} {q : Option Addr} {c i g2 : Nat} {l : List Mb} {b : Mb} (hr : OwnRow w own 50 7 (.slice q l.length c) l.length (memsC l)) (hi : i ≤ l.length) (hb : Big w g2 50 (mbC b)) (hg2 : ¬ own g2) (hl : l.length ≤ 1000000) :
    Rets Tryd.prog 130 #[.slice q l.length c, .int .i64 i, .slice (some ⟨g2, 0, none⟩) 1 1] w fun v w' =>
    ∃ q' c', v = .slice q' (l.length + 1) c' ∧ OwnRow w' (fun i => own i ∨ fresh w i) 50 7 (.slice q' (l.length + 1) c') (l.length + 1) (memsC (l.take i ++ b :: l.drop i)) ∧ Kp own w w' := by
  refine ent [_, _, _] Tryd.func130 ((vcTryd130 _ _ _ _ _ _ _ w _).mpr ?_)
  unfold VCTryd130
  have hc := hr.lens.2
  have news : ∀ {w' : World}, Big w' g2 50 (mbC b) → ∀ j u, (mbC b)[j]? = some u → w'.cell? ((⟨g2, 0, none⟩ : Addr).add j) = some u := fun hb j u hj => by
    rw [ad_add, Nat.zero_add, hb.cell]; exact hj
  have hb7 : (mbC b).length = 7 := rfl
  refine ⟨⟨by omega, by omega⟩, bif_eq (fun e => absurd e (by decide)) (fun _ => bif_eq (fun e => ?_) (fun hne => wr64 (by omega) ?_))⟩
  · have ei : i = l.length := by omega
    refine append_own (m := 1) (xs := memsC l) (news := mbC b) und42 elem50 (by omega) hr rfl (news hb) (mbC_one b) (by omega) (by omega) fun v' w' r' k' => ?_
    obtain ⟨q', c', rfl⟩ := r'.slice
    refine ⟨_, _, _, rfl, k'.keeps0, _, rfl, _, _, rfl, ?_, k'⟩
    subst ei
    rw [List.take_length, List.drop_length, memsC_app]
    simpa [memsC] using r'
  obtain ⟨g, rfl⟩ := row_some hr (by omega)
  refine ⟨_, _, run_cap_row und42 w, _, rfl, (Kp.refl none_ _).keeps0, bif_dec (fun hgt => ?_) (fun hle => ?_)⟩
  · -- no room: a new row
    refine ⟨⟨by omega, by omega⟩, wr64 (by omega) (wr64 (by omega) ?_)⟩
    simp only [Int.toNat_natCast, Nat.sub_zero, cut_zero]
    have ek : ((l.length : Int) + ((1 : Nat) : Int) - (i : Int)) = ((l.length + 1 - i : Nat) : Int) := by omega
    rw [ek]
    have hr1 := hr.front (i := i) (by omega)
    rw [memsC_take] at hr1
    refine zeros_grow (k := l.length + 1 - i) und42 und3 elem50 zero50.info zero50.size (by omega) hr1 ⟨_, rfl⟩ (by omega) (by omega) (by omega) fun g1 c1 w1 r1 hg1 k1 => ?_
    have en : i + (l.length + 1 - i) = l.length + 1 := by omega
    rw [en] at r1 ⊢
    have hc1 := r1.lens.2
    have hzl := zerosL_len zero50.size (l.length + 1 - i)
    generalize zerosL (.agg #[.string ⟨#[]⟩, .int .i64 0, .int .i64 0, .int .i64 0, .int .i64 0, .int .u32 0, .int .i64 0]) (l.length + 1 - i) = Z at *
    refine ⟨_, _, _, rfl, k1.keeps0, ⟨by omega, by omega⟩, ?_⟩
    have hm : Nat.min 1 (l.length + 1 - i) = 1 := Nat.min_eq_left (by omega)
    refine copy_own_any (o := i) (dLen := l.length + 1 - i) (sLen := 1) (cs := mbC b) und42 elem50 (by omega) r1 (by rw [hm]; rfl) (by omega) (by omega) (news (hb.kp k1 id)) (mbC_one b) fun w2 r2 k2 => ?_
    have kk2 : Kp none_ w w2 := (k1.wide.trans k2).narrow (Nat.le_refl _)
    have tl : (memsC (l.take i)).length = i * 7 := by rw [memsC_len, List.length_take]; omega
    have e2 : (memsC (l.take i) ++ Z).take (i * 7) ++ mbC b ++ (memsC (l.take i) ++ Z).drop (i * 7 + (mbC b).length) = memsC (l.take i ++ [b]) ++ Z.drop 7 := by
      rw [memsC_app, ← tl, List.take_left, List.drop_append, List.drop_eq_nil_of_le (by omega)]
      simp [memsC, hb7]
    rw [e2] at r2
    rw [hm]
    refine ⟨_, rfl, k2.keeps0, wr64 (by omega) ⟨⟨by omega, by omega⟩, ⟨by omega, by omega⟩, ?_⟩⟩
    have ei : ((i : Int) + ((1 : Nat) : Int)) = ((i + 1 : Nat) : Int) := by omega
    rw [ei]
    simp only [Int.toNat_natCast]
    have hold := hr.kp kk2 fun _ _ _ _ _ => id
    have hold' := hold.kp (Kp.refl none_ w2).drew fun _ _ _ _ _ => id
    have r2' := r2.kp (Kp.refl none_ w2).drew fun _ _ _ _ _ => id
    rw [cut_at (g := g) (cap := c) (o := i) (by omega)]
    have hm2 : Nat.min (l.length - i) (l.length + 1 - (i + 1)) = l.length - i := by rw [show l.length + 1 - (i + 1) = l.length - i by omega]; exact Nat.min_self _
    refine copy_own_any (o := i + 1) (dLen := l.length + 1 - (i + 1)) (sLen := l.length - i) (cs := memsC (l.drop i)) (a := ⟨g, i * 7, none⟩) und42 elem50 (by omega) r2' (by rw [hm2, memsC_len, List.length_drop]) (by omega) (by omega) (fun j u hj => ?_) (memsC_one _) fun w3 r3 k3 => ?_
    · rw [← memsC_drop] at hj
      obtain ⟨x, ex, hx⟩ := hold'.drop_at (o := i) (by omega) j u hj
      rw [cut_at (by omega)] at ex
      cases ex; exact hx
    · rw [hm2]
      refine ⟨_, rfl, k3.keeps0, _, rfl, _, _, rfl, ?_, ?_⟩
      · have t2 : (memsC (l.take i ++ [b])).length = (i + 1) * 7 := by rw [memsC_len, List.length_append, List.length_take]; simp; omega
        have dl : (memsC (l.drop i)).length = (l.length - i) * 7 := by rw [memsC_len, List.length_drop]
        have e3 : (memsC (l.take i ++ [b]) ++ Z.drop 7).take ((i + 1) * 7) ++ memsC (l.drop i) ++ (memsC (l.take i ++ [b]) ++ Z.drop 7).drop ((i + 1) * 7 + (memsC (l.drop i)).length) = memsC (l.take i ++ b :: l.drop i) := by
          have hd : (memsC (l.take i ++ [b]) ++ Z.drop 7).drop ((i + 1) * 7 + (memsC (l.drop i)).length) = [] := List.drop_eq_nil_of_le (by rw [List.length_append, List.length_drop, hzl]; omega)
          rw [hd, ← t2, List.take_left, List.append_nil, ← memsC_app]
          simp
        rw [e3] at r3
        exact r3.mono fun i hi _ => .inr hi
      · have := ((kk2.drew).wide.trans k3).narrow (E := w.heap.size) (Nat.le_refl _)
        exact this.wide
  · -- there is room
    refine wr64 (by omega) ⟨⟨by omega, by omega⟩, wr64 (by omega) ?_⟩
    have en : ((l.length : Int) + ((1 : Nat) : Int)) = ((l.length + 1 : Nat) : Int) := by omega
    have ei : ((i : Int) + ((1 : Nat) : Int)) = ((i + 1 : Nat) : Int) := by omega
    rw [en, ei]
    simp only [Int.toNat_natCast, Nat.sub_zero, cut_zero]
    obtain ⟨ys, hys, rx⟩ := hr.extend (k := 1) (by omega)
    obtain ⟨gg, cur, egg, _, hog, hcur, hnc, hcm, hcs, htk⟩ := rx.parts (by omega)
    cases egg
    rw [cut_at (by omega)]
    refine ⟨⟨by omega, by omega⟩, c168 hcur hb (fun e => hg2 (by rw [e]; exact hog)) (by omega) ⟨_, rfl, (Kp.refl none_ _).keeps0, ?_⟩⟩
    refine bif_not (fun _ => wr64 (by omega) ?_) (fun h => by cases h)
    simp only [Int.toNat_natCast]
    refine ⟨⟨by omega, by omega⟩, ⟨by omega, by omega⟩, ?_⟩
    have rxd := rx.kp (Kp.refl none_ w).drew fun _ _ _ _ _ => id
    have hm : Nat.min (l.length + 1 - i) (l.length + 1 - (i + 1)) = l.length - i := by
      rw [show l.length + 1 - (i + 1) = l.length - i by omega]
      exact Nat.min_eq_right (by omega)
    have tl : (memsC (l.take i)).length = i * 7 := by rw [memsC_len, List.length_take]; omega
    have dl : (memsC (l.drop i)).length = (l.length - i) * 7 := by rw [memsC_len, List.length_drop]
    rw [cut_at (g := g) (cap := c) (o := i) (by omega)]
    refine copy_own_any (o := i + 1) (dLen := l.length + 1 - (i + 1)) (sLen := l.length + 1 - i) (cs := memsC (l.drop i)) (a := ⟨g, i * 7, none⟩) und42 elem50 (by omega) rxd (by rw [hm, dl]) (by omega) (by omega) (fun j u hj => ?_) (memsC_one _) fun w1 r1 k1 => ?_
    · have hj' : ((memsC l ++ ys).drop (i * 7))[j]? = some u := by
        rw [List.drop_append, memsC_drop, List.getElem?_append_left (List.getElem?_eq_some_iff.1 hj).1]
        exact hj
      obtain ⟨x, ex, hx⟩ := rxd.drop_at (o := i) (by omega) j u hj'
      rw [cut_at (by omega)] at ex
      cases ex; exact hx
    · rw [hm]
      refine ⟨_, rfl, k1.keeps0, ⟨by omega, by omega⟩, ?_⟩
      have K1 : Kp own w w1 := Kp.of_drew k1
      have hm2 : Nat.min 1 (l.length + 1 - i) = 1 := Nat.min_eq_left (by omega)
      rw [← cut_at (g := g) (cap := c) (o := i) (size := 7) (by omega)]
      refine copy_own_any (o := i) (dLen := l.length + 1 - i) (sLen := 1) (cs := mbC b) und42 elem50 (by omega) r1 (by rw [hm2]; rfl) (by omega) (by omega) (news (hb.kp K1 hg2)) (mbC_one b) fun w2 r2 k2 => ?_
      rw [hm2]
      refine ⟨_, rfl, k2.keeps0, _, rfl, _, _, rfl, ?_, K1.trans k2⟩
      have ml : (memsC l).length = l.length * 7 := memsC_len l
      have e2 : (memsC l ++ ys).take ((i + 1) * 7) ++ memsC (l.drop i) ++ (memsC l ++ ys).drop ((i + 1) * 7 + (memsC (l.drop i)).length) = memsC (l.take i) ++ ((memsC (l.drop i) ++ ys).take 7) ++ memsC (l.drop i) := by
        have hd : (memsC l ++ ys).drop ((i + 1) * 7 + (memsC (l.drop i)).length) = [] := List.drop_eq_nil_of_le (by rw [List.length_append, ml, hys, dl]; omega)
        rw [hd, List.append_nil]
        congr 1
        rw [split_row l i (by omega), List.append_assoc, List.take_append, tl, List.take_of_length_le (by omega), show (i + 1) * 7 - i * 7 = 7 by omega]
      rw [e2] at r2
      have hX : ((memsC (l.drop i) ++ ys).take 7).length = (mbC b).length := by
        rw [List.length_take, List.length_append, dl, hys, hb7]; omega
      rw [put_mid _ _ _ _ _ tl hX] at r2
      have e3 : memsC (l.take i) ++ mbC b ++ memsC (l.drop i) = memsC (l.take i ++ b :: l.drop i) := by
        rw [memsC_app, memsC, List.append_assoc]
      rw [e3] at r2
      exact r2.mono fun i hi _ => .inl hi
end Go.Proofs.YtbpknjldphckgaaDoor
