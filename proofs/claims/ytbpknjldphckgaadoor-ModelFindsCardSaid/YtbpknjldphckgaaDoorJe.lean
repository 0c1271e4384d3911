/- Model: whether files are alike; the document's maps. -/
import Derived.Test.YtbpknjldphckgaaDoorJd
namespace Go.Proofs.YtbpknjldphckgaaDoor
open Go Go.SX Go.Proofs Go.Lib
set_option maxRecDepth 100000
set_option linter.unusedVariables false
set_option linter.unusedSimpArgs false
theorem toList_ba (l : List UInt8) : (ba l).toList = l := by rw [ByteArray.toList_eq, ba_list]
theorem isGo136 : isGo Tryd.prog 136 = true := by kernel_rfl
theorem c136 {w : World} (x y : Fx) (hx : DatAt w x) (hy : DatAt w y) : Rets Tryd.prog 136 #[fxV x, fxV y] w fun v w' => v = .bool (decide (x.fil = y.fil)) ∧ Kp none_ w w' := by
  refine ent [_, _] Tryd.func136 ((vcTryd136 _ _ _ _ _ _ _ _ w _).mpr ?_)
  unfold VCTryd136
  have k1 : Kp none_ w (w.alloc (.cells #[.string (ba x.s), .slice x.q x.d.length x.c] 107)) := (Kp.refl none_ w).alloc1 _
  have k2 : Kp none_ w ((w.alloc (.cells #[.string (ba x.s), .slice x.q x.d.length x.c] 107)).alloc (.cells #[.string (ba y.s), .slice y.q y.d.length y.c] 107)) := k1.alloc1 _
  simp only [toList_ba]
  refine bif_b (fun h => ⟨ba x.d, ba_size _, hx.by_.kp0 k2, ba y.d, ba_size _, hy.by_.kp0 k2, fun _ => ⟨_, rfl, ?_, k2⟩⟩) (fun h _ => ⟨_, rfl, ?_, k2⟩)
  · rw [toList_ba, toList_ba]
    have h : x.s = y.s := by simpa using h
    congr 1
    rw [Bool.eq_iff_iff]
    simp [Fx.fil, h]
  · have h : x.s ≠ y.s := by simpa using h
    congr 1
    rw [eq_comm, decide_eq_false_iff_not]
    exact fun e => h (congrArg Prod.fst e)
theorem map_eq {l m : List Fx} (hl : l.length = m.length) (h : ∀ k (hk : k < l.length), (l[k]).fil = (m[k]'(by omega)).fil) : l.map Fx.fil = m.map Fx.fil := by
  apply List.ext_getElem (by simpa using hl)
  intro i h1 h2
  simp only [List.getElem_map]
  exact h i (by simpa using h1)
theorem map_ne {l m : List Fx} {k : Nat} (h1 : k < l.length) (h2 : k < m.length) (h : (l[k]).fil ≠ (m[k]).fil) : l.map Fx.fil ≠ m.map Fx.fil := fun e => h (by
  have : (l.map Fx.fil)[k]'(by simpa using h1) = (m.map Fx.fil)[k]'(by simpa using h2) := by simp only [e]
  simpa using this)
theorem c135 {w : World} {q r : Option Addr} {c d n m : Nat} {L M : List Fil} (hq : FRd w q n L) (hr : FRd w r m M) (hL : L.length ≤ 1000000) : Rets Tryd.prog 135 #[.slice q n c, .slice r m d, .func (.func 136) #[] #[]] w fun v w' => v = .bool (decide (L = M)) ∧ Kp none_ w w' := by
  obtain ⟨l, rfl, rfl, hx, hdx⟩ := hq
  obtain ⟨k, rfl, rfl, hy, hdy⟩ := hr
  have hl : l.length ≤ 1000000 := by simpa using hL
  refine ent [_, _, _] Tryd.func135 ((vcTryd135 _ _ _ _ _ _ _ w _).mpr ?_)
  unfold VCTryd135
  refine bif_ne (fun hne => ⟨_, rfl, ?_, Kp.refl _ _⟩) (fun he => ?_)
  · rw [decide_eq_false]
    exact fun e => hne (by have := congrArg List.length e; simp at this; omega)
  have he : l.length = k.length := by omega
  refine ⟨fun i w' => ∃ j : Nat, i = j ∧ j ≤ l.length ∧ Kp none_ w w' ∧ ∀ x (hk : x < l.length), x < j → (l[x]).fil = (k[x]'(by omega)).fil, fun i _ => (l.length - i).toNat, ⟨0, rfl, by omega, Kp.refl _ _, fun x hk h => by omega⟩, ?_⟩
  rintro i w3 ⟨j, rfl, hj, k3, ha⟩
  refine bif_dec (fun h1 => ?_) (fun h1 => ⟨_, rfl, ?_, k3⟩)
  · have hjl : j < l.length := by omega
    have hjk : j < k.length := by omega
    refine ⟨⟨by omega, by omega⟩, fx_at (hx.kp0 k3) hjl fun x _ mx => ⟨_, _, _, _, ⟨mx.c0, mx.c1, trivial⟩, ⟨by omega, by omega⟩, ?_⟩⟩
    obtain ⟨k4, z4, _⟩ := laid2 (w := w3) (ba l[j].s) (.slice l[j].q l[j].d.length l[j].c)
    simp only
    generalize ((w3.alloc (.cells #[.string { data := #[] }, .slice none 0 0] 107)).setCell ⟨w3.heap.size, 0, none⟩ (.string (ba l[j].s))).setCell ⟨w3.heap.size, 1, none⟩ (.slice l[j].q l[j].d.length l[j].c) = w4 at *
    refine fx_at ((hy.kp0 k3).kp0 k4) hjk fun y _ my => ⟨_, _, _, _, ⟨my.c0, my.c1, trivial⟩, ?_⟩
    obtain ⟨k5, z5, _⟩ := laid2 (w := w4) (ba k[j].s) (.slice k[j].q k[j].d.length k[j].c)
    generalize ((w4.alloc (.cells #[.string { data := #[] }, .slice none 0 0] 107)).setCell ⟨w4.heap.size, 0, none⟩ (.string (ba k[j].s))).setCell ⟨w4.heap.size, 1, none⟩ (.slice k[j].q k[j].d.length k[j].c) = w5 at *
    intro _
    have K5 := (k3.trans k4).trans k5
    refine ⟨isGo136, (c136 l[j] k[j] ((hdx _ (List.getElem_mem hjl)).kp0 K5) ((hdy _ (List.getElem_mem hjk)).kp0 K5)).mono ?_⟩
    rintro v w6 ⟨rfl, k6⟩
    have z46 : w4.heap.size < w5.heap.size := z5
    refine ⟨_, rfl, k6.keeps fun b hb => ⟨?_, id⟩, bif_not (fun hh _ => ⟨_, rfl, ?_, K5.trans k6⟩) (fun hh => wr64 (by omega) ⟨⟨j + 1, by omega, by omega, K5.trans k6, fun x hk hxj => ?_⟩, by first | omega | (dsimp only; omega)⟩)⟩
    · simp only [List.mem_cons, List.not_mem_nil, or_false] at hb
      rcases hb with rfl | rfl <;> omega
    · rw [decide_eq_false (map_ne hjl hjk (of_decide_eq_false hh))]
    · by_cases e : x = j
      · subst e; exact of_decide_eq_true hh
      · exact ha x hk (by omega)
  · rw [decide_eq_true (map_eq he fun x hk => ha x hk (by omega))]
theorem c84 {w : World} {q r : Option Addr} {c d n m : Nat} {L M : List Fil} (hq : FRd w q n L) (hr : FRd w r m M) (hL : L.length ≤ 1000000) : Rets Tryd.prog 84 #[.slice q n c, .slice r m d] w fun v w' => v = .bool (decide (L = M)) ∧ Kp none_ w w' := by
  refine ent [_, _] Tryd.func84 ((vcTryd84 _ _ _ _ _ _ w _).mpr ?_)
  unfold VCTryd84
  refine (c135 hq hr hL).mono ?_
  rintro v w1 ⟨rfl, k1⟩
  exact ⟨_, rfl, k1.keeps0, _, rfl, rfl, k1⟩
theorem c85 {w : World} {q r : Option Addr} {c d n m : Nat} {L M : List Fil} (hq : FRd w q n L) (hr : FRd w r m M) (hL : L.length ≤ 1000000) : Rets Tryd.prog 85 #[.slice q n c, .slice r m d] w fun v w' => v = .bool (decide (L = M)) ∧ Kp none_ w w' := by
  obtain ⟨l, rfl, rfl, hx, hdx⟩ := hq
  obtain ⟨k, rfl, rfl, hy, hdy⟩ := hr
  have hl : l.length ≤ 1000000 := by simpa using hL
  refine ent [_, _] Tryd.func85 ((vcTryd85 _ _ _ _ _ _ w _).mpr ?_)
  unfold VCTryd85
  refine bif_ne (fun hne => ⟨_, rfl, ?_, Kp.refl _ _⟩) (fun he => ?_)
  · rw [decide_eq_false]
    exact fun e => hne (by have := congrArg List.length e; simp at this; omega)
  have he : l.length = k.length := by omega
  refine ⟨fun i w' => ∃ j : Nat, i = j ∧ j ≤ l.length ∧ Kp none_ w w' ∧ ∀ x (hk : x < l.length), x < j → (l[x]).fil = (k[x]'(by omega)).fil, fun i _ => (l.length - i).toNat, ⟨0, rfl, by omega, Kp.refl _ _, fun x hk h => by omega⟩, ?_⟩
  rintro i w3 ⟨j, rfl, hj, k3, ha⟩
  have kd := k3.drew
  refine bif_dec (fun h1 => ?_) (fun h1 => ⟨_, rfl, ?_, k3⟩)
  · have hjl : j < l.length := by omega
    have hjk : j < k.length := by omega
    refine ⟨⟨by omega, by omega⟩, fx_at (hx.kp0 kd) hjl fun x _ mx => ⟨_, mx.c0, ⟨by omega, by omega⟩, fx_at (hy.kp0 kd) hjk fun y _ my => ⟨_, my.c0, ?_⟩⟩⟩
    rw [toList_ba, toList_ba]
    refine bif_not (fun hh => ⟨_, rfl, ?_, kd⟩) (fun hs => ⟨⟨by omega, by omega⟩, fx_at (hx.kp0 kd) hjl fun x _ mx => ⟨_, _, _, mx.c1, ba l[j].d, ba_size _, (hdx _ (List.getElem_mem hjl)).by_.kp0 kd, ⟨by omega, by omega⟩, fx_at (hy.kp0 kd) hjk fun y _ my => ⟨_, _, _, my.c1, ba k[j].d, ba_size _, (hdy _ (List.getElem_mem hjk)).by_.kp0 kd, ?_⟩⟩⟩)
    · have hh : l[j].s ≠ k[j].s := by simpa using hh
      rw [decide_eq_false (map_ne hjl hjk fun e => hh (congrArg Prod.fst e))]
    · rw [toList_ba, toList_ba]
      have hs : l[j].s = k[j].s := by simpa using hs
      refine bif_not (fun hh => ⟨_, rfl, ?_, kd⟩) (fun hh => wr64 (by omega) ⟨⟨j + 1, by omega, by omega, kd, fun x hk hxj => ?_⟩, by first | omega | (dsimp only; omega)⟩)
      · have hh : l[j].d ≠ k[j].d := by simpa using hh
        rw [decide_eq_false (map_ne hjl hjk fun e => hh (congrArg Prod.snd e))]
      · have hh : l[j].d = k[j].d := by simpa using hh
        by_cases e : x = j
        · subst e
          show (l[x].s, l[x].d) = (k[x].s, k[x].d)
          rw [hs, hh]
        · exact ha x hk (by omega)
  · rw [decide_eq_true (map_eq he fun x hk => ha x hk (by omega))]
/-- Whether files are a map. -/
theorem c86 {w : World} {q : Option Addr} {c n : Nat} {L : List Fil} (h : FRd w q n L) (hL : L.length ≤ 1000000) : Rets Tryd.prog 86 #[.slice q n c] w fun v w' => ∃ t, v = .bool t ∧ Kp none_ w w' ∧ (t = true → Asc Prod.fst L) := by
  obtain ⟨l, rfl, rfl, hx, hdx⟩ := h
  have hl : l.length ≤ 1000000 := by simpa using hL
  refine ent [_] Tryd.func86 ((vcTryd86 _ _ _ w _).mpr ?_)
  unfold VCTryd86
  refine ⟨fun i w' => ∃ j : Nat, i = j ∧ 1 ≤ j ∧ j ≤ l.length + 1 ∧ Kp none_ w w' ∧ ∀ x (hk : x + 1 < l.length), x + 1 < j → Op.bytesLess (l[x]).s (l[x + 1]).s = true, fun i _ => (l.length + 1 - i).toNat, ⟨1, rfl, by omega, by omega, Kp.refl _ _, fun x hk h => by omega⟩, ?_⟩
  rintro i w3 ⟨j, rfl, h1j, hj, k3, ha⟩
  have kd := k3.drew
  refine bif_dec (fun h1 => ?_) (fun h1 => ⟨_, rfl, _, rfl, k3, fun _ => asc_map.2 (asc_of fun x hk => ha x hk (by omega))⟩)
  have hjl : j < l.length := by omega
  have ej : ((j : Int) - 1) = ((j - 1 : Nat) : Int) := by omega
  refine wr64 (by omega) ?_
  rw [ej]
  refine ⟨⟨by omega, by omega⟩, fx_at (hx.kp0 kd) (i := j - 1) (by omega) fun x _ mx => ⟨_, mx.c0, ⟨by omega, by omega⟩, fx_at (hx.kp0 kd) hjl fun y _ my => ⟨_, my.c0, ?_⟩⟩⟩
  rw [toList_ba, toList_ba]
  refine bif_not (fun hh => ⟨_, rfl, _, rfl, kd, fun h => by cases h⟩) (fun hh => wr64 (by omega) ⟨⟨j + 1, by omega, by omega, by omega, kd, fun x hk hxj => ?_⟩, by first | omega | (dsimp only; omega)⟩)
  by_cases e : x + 1 = j
  · subst e; exact hh
  · exact ha x hk (by omega)
theorem findK_map {l : List Fx} (s : List UInt8) : findK Prod.fst (l.map Fx.fil) s = findK kF l s := by
  induction l with
  | nil => rfl
  | cons x r ih => simp only [List.map_cons, findK, ih]
theorem c87 {w : World} {q : Option Addr} {c n : Nat} {L : List Fil} (h : FRd w q n L) (hL : L.length ≤ 1000000) (s : ByteArray) : Rets Tryd.prog 87 #[.slice q n c, .string s] w fun v w' => v = .int .i64 (idxO (findK Prod.fst L (bytesL s))) ∧ w' = w := by
  obtain ⟨l, rfl, rfl, hx, hdx⟩ := h
  have hl : l.length ≤ 1000000 := by simpa using hL
  rw [findK_map]
  refine ent [_, _] Tryd.func87 ((vcTryd87 _ _ _ _ w _).mpr ?_)
  unfold VCTryd87
  refine ⟨fun i w' => ∃ j : Nat, i = j ∧ j ≤ l.length ∧ w' = w ∧ ∀ k (hk : k < l.length), k < j → (l[k]).s ≠ bytesL s, fun i _ => (l.length - i).toNat, ⟨0, rfl, by omega, rfl, fun k hk h => by omega⟩, ?_⟩
  rintro i w' ⟨j, rfl, hj, rfl, ha⟩
  refine bif_dec (fun h1 => ⟨⟨by omega, by omega⟩, fx_at hx (by omega) fun x _ m => ⟨_, m.c0, ?_⟩⟩) (fun h1 => ⟨_, rfl, ?_, rfl⟩)
  · have hjl : j < l.length := by omega
    rw [beq_ba]
    refine bif_b (fun hh => ⟨_, rfl, ?_, rfl⟩) (fun hh => wr64 (by omega) ⟨⟨j + 1, by omega, by omega, rfl, fun k hk hkj => ?_⟩, by first | omega | (dsimp only; omega)⟩)
    · rw [findK_at (k := kF) hjl (by simpa using hh) ha]; rfl
    · by_cases e : k = j
      · subst e; simpa using hh
      · exact ha k hk (by omega)
  · rw [findK_not (k := kF) fun k hk => ha k hk (by omega)]; rfl
/-- Whether files are more, or greater, than are gone through. -/
theorem c82 {w : World} {q : Option Addr} {c : Nat} {l : List Fx} (h : FxsAt w q l) (hc : l.length ≤ 9223372036854775807) : Rets Tryd.prog 82 #[.slice q l.length c] w fun v w' => ∃ t, v = .bool t ∧ w' = w ∧ (t = false → l.length ≤ 250 ∧ ∀ x ∈ l, x.s.length ≤ 300 ∧ x.d.length ≤ 70000) := by
  refine ent [_] Tryd.func82 ((vcTryd82 _ _ _ w _).mpr ?_)
  unfold VCTryd82
  refine ⟨fun i w' => ∃ j : Nat, i = j ∧ j ≤ 300 ∧ j ≤ l.length ∧ w' = w ∧ ∀ k (hk : k < l.length), k < j → (l[k]).s.length ≤ 300 ∧ (l[k]).d.length ≤ 70000, fun i _ => (l.length - i).toNat, ⟨0, rfl, by omega, by omega, rfl, fun k hk h => by omega⟩, ?_⟩
  rintro i w' ⟨j, rfl, hj, hjl, rfl, ha⟩
  have fin : (300 ≤ j ∨ l.length ≤ j) → ∃ v, Ending.returned (Value.bool (decide ((l.length : Int) > 250))) = Ending.returned v ∧ ∃ t, v = .bool t ∧ w' = w' ∧ (t = false → l.length ≤ 250 ∧ ∀ x ∈ l, x.s.length ≤ 300 ∧ x.d.length ≤ 70000) := fun hh => ⟨_, rfl, _, rfl, rfl, fun ht => by
    have hn := of_decide_eq_false ht
    refine ⟨by omega, fun b hb => ?_⟩
    obtain ⟨k, hk, e⟩ := List.getElem_of_mem hb
    rw [← e]
    exact ha k hk (by omega)⟩
  refine bif_dec (fun h1 => bif_dec (fun h2 => ⟨⟨by omega, by omega⟩, fx_at h (by omega) fun x _ m => ⟨_, m.c0, bif_dec (fun h3 => ⟨_, rfl, _, rfl, rfl, fun h => by cases h⟩) (fun h3 => ⟨⟨by omega, by omega⟩, fx_at h (by omega) fun x _ m => ⟨_, _, _, m.c1, bif_dec (fun h4 => ⟨_, rfl, _, rfl, rfl, fun h => by cases h⟩) (fun h4 => wr64 (by omega) ⟨⟨j + 1, by omega, by omega, by omega, rfl, fun k hk hkj => ?_⟩, by first | omega | (dsimp only; omega)⟩)⟩⟩)⟩⟩) (fun h2 => fin (by omega))) (fun h1 => fin (by omega))
  rw [ba_size] at h3
  by_cases e : k = j
  · subst e; exact ⟨by omega, by omega⟩
  · exact ha k hk (by omega)
end Go.Proofs.YtbpknjldphckgaaDoor
