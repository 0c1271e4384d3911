/- Model: copies; a map with a name, without one; a name's data. -/
import Derived.Test.YtbpknjldphckgaaDoorJc
namespace Go.Proofs.YtbpknjldphckgaaDoor
open Go Go.SX Go.Proofs Go.Lib
set_option maxRecDepth 100000
set_option linter.unusedVariables false
set_option linter.unusedSimpArgs false
/-- A file's struct, laid cell by cell. -/
theorem laid2 {w : World} (s : ByteArray) (v : Value) : Kp none_ w (((w.alloc (.cells #[.string { data := #[] }, .slice none 0 0] 107)).setCell ⟨w.heap.size, 0, none⟩ (.string s)).setCell ⟨w.heap.size, 1, none⟩ v) ∧
    w.heap.size < (((w.alloc (.cells #[.string { data := #[] }, .slice none 0 0] 107)).setCell ⟨w.heap.size, 0, none⟩ (.string s)).setCell ⟨w.heap.size, 1, none⟩ v).heap.size ∧
    (((w.alloc (.cells #[.string { data := #[] }, .slice none 0 0] 107)).setCell ⟨w.heap.size, 0, none⟩ (.string s)).setCell ⟨w.heap.size, 1, none⟩ v).cell? ⟨w.heap.size, 0, none⟩ = some (.string s) := by
  have k0 : Kp none_ w (w.alloc (.cells #[.string { data := #[] }, .slice none 0 0] 107)) := (Kp.refl none_ w).alloc1 _
  have B0 : Big (w.alloc (.cells #[.string { data := #[] }, .slice none 0 0] 107)) w.heap.size 107 [.string { data := #[] }, .slice none 0 0] := Big.new _ _ 107
  have k1 := (k0.setCell (x := ⟨w.heap.size, 0, none⟩) (.string s) (.inr (Nat.le_refl _))).setCell (x := ⟨w.heap.size, 1, none⟩) v (.inr (Nat.le_refl _))
  have B1 := (B0.set 0 (.string s)).set 1 v
  exact ⟨k1, B1.lt, by rw [B1.cell]; rfl⟩
def bigL (L : List Fil) : Prop := L.length ≤ 1000000 ∧ ∀ x ∈ L, x.2.length ≤ 1000000000
theorem c139 {w : World} {q : Option Addr} {c n : Nat} {L : List Fil} (h : FRd w q n L) (hb : bigL L) : Rets Tryd.prog 139 #[.slice q n c] w fun v w' =>
    FOwn w' (fun i => w.heap.size ≤ i) v L ∧ Kp none_ w w' := by
  obtain ⟨l, rfl, rfl, hx, hd⟩ := h
  have hl : l.length ≤ 1000000 := by simpa using hb.1
  have hdl : ∀ x ∈ l, x.d.length ≤ 1000000000 := fun x hx => hb.2 x.fil (List.mem_map_of_mem hx)
  refine ent [_] Tryd.func139 ((vcTryd139 _ _ _ w _).mpr ?_)
  unfold VCTryd139
  refine make_cap2 (n := l.length) (by omega) und105 elem107 (by omega) fun w1 r1 k1 => ?_
  refine ⟨_, _, _, rfl, k1.keeps0, fun i q n c w' => ∃ (j : Nat) (l' : List Fx) (own : Nat → Prop), i = j ∧ j ≤ l.length ∧ j = n ∧ l'.length = j ∧ l'.map Fx.fil = (l.take j).map Fx.fil ∧ (∀ i, own i → w.heap.size ≤ i) ∧ OwnRow w' own 107 2 (.slice q n c) j (fxsC l') ∧ (∀ x ∈ l', DatAt w' x ∧ DatIn (fun i => w.heap.size ≤ i ∧ ¬ own i) x) ∧ Kp (fun i => w.heap.size ≤ i) w w', fun i _ _ _ _ => (l.length - i).toNat,
    ⟨0, [], fresh w, rfl, by omega, rfl, rfl, by simp, fun i h => h, r1, (fun x hx => by cases hx), k1.wide⟩, ?_⟩
  rintro i q2 n2 c2 w2 ⟨j, l', own, rfl, hj, rfl, hlen, hmap, how, r2, hd2, k2⟩
  refine bif_dec (fun h1 => ?_) (fun h1 => ?_)
  · have hjl : j < l.length := by omega
    refine ⟨⟨by omega, by omega⟩, fx_at (hx.far k2 (Nat.le_refl _)) hjl fun x _ mx => ⟨_, _, _, _, ⟨mx.c0, mx.c1, trivial⟩, fun _ => ?_⟩⟩
    obtain ⟨k3, z3, c3⟩ := laid2 (w := w2) (ba l[j].s) (.slice l[j].q l[j].d.length l[j].c)
    have k3 := k3.drew
    have z3 : w2.heap.size < (((w2.alloc (.cells #[.string { data := #[] }, .slice none 0 0] 107)).setCell ⟨w2.heap.size, 0, none⟩ (.string (ba l[j].s))).setCell ⟨w2.heap.size, 1, none⟩ (.slice l[j].q l[j].d.length l[j].c)).drew.heap.size := z3
    have c3 : (((w2.alloc (.cells #[.string { data := #[] }, .slice none 0 0] 107)).setCell ⟨w2.heap.size, 0, none⟩ (.string (ba l[j].s))).setCell ⟨w2.heap.size, 1, none⟩ (.slice l[j].q l[j].d.length l[j].c)).drew.cell? ⟨w2.heap.size, 0, none⟩ = some (.string (ba l[j].s)) := c3
    generalize (((w2.alloc (.cells #[.string { data := #[] }, .slice none 0 0] 107)).setCell ⟨w2.heap.size, 0, none⟩ (.string (ba l[j].s))).setCell ⟨w2.heap.size, 1, none⟩ (.slice l[j].q l[j].d.length l[j].c)).drew = w3 at *
    have hdj := hd _ (List.getElem_mem hjl)
    have K3 := k2.trans k3.wide
    refine (c138 ((hdj.by_.kp0 (K3.narrow (Nat.le_refl _)))) (hdl _ (List.getElem_mem hjl))).mono ?_
    rintro v w4 ⟨⟨s4, d4, q4, c4⟩, rfl, e4, hd4, hi4, k4⟩
    have e4 : d4 = l[j].d := e4
    have z24 : w2.heap.size < w4.heap.size := Nat.lt_of_lt_of_le z3 k4.size
    refine ⟨_, _, _, rfl, k4.k0 z3, k4.cell0 c3, ?_⟩
    have hr4 := ((r2.mono (own' := fun i => own i ∧ i < w2.heap.size) fun i hi hl => ⟨hi, hl⟩).kp (k3.trans k4) fun _ _ _ _ _ => id)
    refine push_fx (own := fun i => own i ∧ i < w2.heap.size) (w := w4) (l := l') (v := .slice q2 j c2) (n := j) ⟨l[j].s, l[j].d, q4, c4⟩ hr4 hlen.symm (by omega) fun q5 c5 w5 r5 k5 k5' => ⟨_, _, _, rfl, ?_, wr64 (by omega) ⟨⟨j + 1, l' ++ [⟨l[j].s, l[j].d, q4, c4⟩], fun i => (own i ∧ i < w2.heap.size) ∨ fresh w4 i, by omega, by omega, by omega, by simp; omega, ?_, ?_, ?_, ?_, ?_⟩, by first | omega | (dsimp only; omega)⟩⟩
    · refine kso k5' (fun hh => Nat.lt_irrefl _ hh.2) (by rw [alloc_size]; omega)
    · rw [List.map_append, hmap, List.take_succ_eq_append_getElem hjl, List.map_append]
      rfl
    · rintro i (hi | hi)
      · exact how i hi.1
      · exact Nat.le_trans (Nat.le_trans k2.size (Nat.le_of_lt z24)) hi
    · simp only [hlen] at r5 ⊢; exact r5
    · intro x hx
      rcases List.mem_append.1 hx with hx | hx
      · obtain ⟨da, di⟩ := hd2 x hx
        have da4 := da.kp0 (k3.trans k4)
        have di4 : DatIn (fun i => w.heap.size ≤ i ∧ ¬ ((own i ∧ i < w2.heap.size) ∨ fresh w4 i)) x := di.mono da fun i hl hi => ⟨hi.1, fun hh => hh.elim (fun h => hi.2 h.1) fun h => by
          have h : w4.heap.size ≤ i := h
          omega⟩
        refine ⟨da4.kp di4 k5 fun i hl hi hh => hi.2 (.inl hh), di4⟩
      · rw [List.mem_singleton] at hx
        subst hx
        subst e4
        have da4 : DatAt w4 ⟨l[j].s, l[j].d, q4, c4⟩ := ⟨hd4.by_, hd4.le⟩
        have di4 : DatIn (fun i => w.heap.size ≤ i ∧ ¬ ((own i ∧ i < w2.heap.size) ∨ fresh w4 i)) ⟨l[j].s, l[j].d, q4, c4⟩ := fun h0 a ha => by
          have hw3 : w3.heap.size ≤ a.block := hi4 h0 a ha
          have hlt := da4.by_.lt (by rwa [ba_size]) a ha
          have := k2.size
          refine ⟨by omega, fun hh => hh.elim (fun h => by have := h.2; omega) fun h => ?_⟩
          have h : w4.heap.size ≤ a.block := h
          omega
        exact ⟨da4.kp di4 k5 fun i hl hi hh => hi.2 (.inl hh), di4⟩
    · refine K3.trans (k4.wide.trans (k5.mono fun i _ hi => how i hi.1))
  · have ej : j = l.length := by omega
    subst ej
    rw [List.take_length] at hmap
    refine ⟨_, rfl, ⟨l', own, hmap, how, ?_, hd2⟩, k2.narrow (Nat.le_refl _)⟩
    rw [hlen]; exact r2
/-- What a name's data are. -/
theorem findD_has {L : List Fil} (ha : Asc Prod.fst L) {s : List UInt8} (hh : has Prod.fst L s = true) : ∃ hp : pos Prod.fst L s < L.length, findD L s = L[pos Prod.fst L s].2 := by
  obtain ⟨hp, he⟩ := has_get ha hh
  refine ⟨hp, ?_⟩
  have hx : (L.find? fun x => x.1 == s) = some L[pos Prod.fst L s] := by
    have hs : (L.find? fun x => x.1 == s).isSome = true := by
      rw [List.find?_isSome]
      exact ⟨_, List.getElem_mem hp, by rw [he]; simp⟩
    obtain ⟨y, hy⟩ := Option.isSome_iff_exists.1 hs
    rw [hy]
    have h1 := List.find?_some hy
    obtain ⟨i, hi, e⟩ := List.getElem_of_mem (List.mem_of_find?_eq_some hy)
    have h1 : y.1 = s := by simpa using h1
    congr 1
    rw [← e]
    have : i = pos Prod.fst L s := by
      rcases Nat.lt_trichotomy i (pos Prod.fst L s) with h | h | h
      · exact absurd (by rw [e, h1, he]) (less_ne (asc_get ha _ _ h hp))
      · exact h
      · exact absurd (by rw [e, h1, he]) (less_ne (asc_get ha _ _ h hi))
    subst this
    rfl
  unfold findD
  rw [hx]
theorem findD_not {L : List Fil} {s : List UInt8} (hh : has Prod.fst L s = false) : findD L s = [] := by
  have : (L.find? fun x => x.1 == s) = none := by
    rw [List.find?_eq_none]
    intro x hx h
    have : has Prod.fst L s = true := has_iff.2 ⟨x, hx, by simpa using h⟩
    rw [hh] at this; cases this
  unfold findD
  rw [this]
/-- Bytes that are read. -/
structure BRd (w : World) (q : Option Addr) (n c : Nat) (d : List UInt8) : Prop where
  by_ : BytesAt w q (ba d)
  len : n = d.length
  le : d.length ≤ c ∧ c ≤ maxLen
theorem BRd.kp0 {w w' : World} {q : Option Addr} {n c : Nat} {d : List UInt8} (h : BRd w q n c d) (k : Kp none_ w w') : BRd w' q n c d := ⟨h.by_.kp0 k, h.len, h.le⟩
theorem fil_get {l : List Fx} {i : Nat} (h : i < (l.map Fx.fil).length) : (l.map Fx.fil)[i] = (l[i]'(by simpa using h)).fil := by simp
theorem c88 {w : World} {q : Option Addr} {c n : Nat} {L : List Fil} (h : FRd w q n L) (ha : Asc Prod.fst L) (hb : bigL L) (s : ByteArray) : Rets Tryd.prog 88 #[.slice q n c, .string s] w fun v w' =>
    ∃ q' n' c', v = .tuple #[.slice q' n' c', .bool (has Prod.fst L (bytesL s))] ∧ BRd w' q' n' c' (findD L (bytesL s)) ∧ Kp none_ w w' := by
  refine ent [_, _] Tryd.func88 ((vcTryd88 _ _ _ _ w _).mpr ?_)
  unfold VCTryd88
  refine (c137 h ha hb.1 s).mono ?_
  rintro v w1 ⟨rfl, k1⟩
  refine ⟨_, _, rfl, k1.keeps0, bif_not (fun hh => ⟨_, rfl, none, 0, 0, by rw [hh], ?_, k1⟩) (fun hh => ?_)⟩
  · rw [findD_not hh]
    exact ⟨fun i hi => absurd hi (by rw [ba_size]; simp), rfl, by simp [maxLen]⟩
  · obtain ⟨hp, he⟩ := findD_has ha hh
    rw [he]
    obtain ⟨l, rfl, rfl, hx, hd⟩ := h
    generalize pos Prod.fst (l.map Fx.fil) (bytesL s) = p at *
    have hpl : p < l.length := by simpa using hp
    rw [fil_get hp]
    have hdp := hd _ (List.getElem_mem hpl)
    refine ⟨⟨by omega, by omega⟩, fx_at (hx.kp0 k1) hpl fun x _ mx => ⟨_, _, _, mx.c1, (c138 (hdp.by_.kp0 k1) (hb.2 _ (List.mem_map_of_mem (List.getElem_mem hpl)))).mono ?_⟩⟩
    rintro v w2 ⟨x2, rfl, e2, d2, _, k2⟩
    refine ⟨_, _, _, rfl, k2.keeps0, _, rfl, _, _, _, by rw [hh], ⟨?_, rfl, ?_⟩, k1.trans k2⟩
    · have := d2.by_
      rw [e2] at this
      exact this
    · have := d2.le
      rw [e2] at this
      exact this
theorem fxs_set : ∀ (l : List Fx) (i : Nat) (b : Fx), i < l.length → fxsC (l.set i b) = ((fxsC l).set (i * 2 + 0) (.string (ba b.s))).set (i * 2 + 1) (.slice b.q b.d.length b.c)
  | [], i, b, h => by simp at h
  | x :: r, 0, b, _ => by simp [fxsC, fxC]
  | x :: r, i + 1, b, h => by
    have ih := fxs_set r i b (by simpa using h)
    have hl : (fxC x).length = 2 := rfl
    rw [List.set_cons_succ, fxsC, fxsC, ih]
    have e : ∀ k, (i + 1) * 2 + k = (fxC x).length + (i * 2 + k) := fun k => by rw [hl]; omega
    have ap : ∀ (L : List Value) k v, (fxC x ++ L).set ((fxC x).length + k) v = fxC x ++ L.set k v := fun L k v => by
      rw [List.set_append_right _ _ (by omega)]
      congr 2
      omega
    rw [e 0, e 1, ap, ap]
theorem c90 {w : World} {q : Option Addr} {c n : Nat} {L : List Fil} (h : FRd w q n L) (ha : Asc Prod.fst L) (hb : bigL L) (s : ByteArray) : Rets Tryd.prog 90 #[.slice q n c, .string s] w fun v w' =>
    FOwn w' (fun i => w.heap.size ≤ i) v (withoutK Prod.fst L (bytesL s)) ∧ Kp none_ w w' := by
  refine ent [_, _] Tryd.func90 ((vcTryd90 _ _ _ _ w _).mpr ?_)
  unfold VCTryd90
  refine (c139 h hb).mono ?_
  rintro v w1 ⟨F1, k1⟩
  obtain ⟨q1, c1, rfl, R1⟩ := F1.rd
  refine ⟨_, _, _, rfl, k1.keeps0, (c137 R1 ha hb.1 s).mono ?_⟩
  rintro v w2 ⟨rfl, k2⟩
  have F2 := F1.kp0 k2
  rw [withoutK_eq ha]
  refine ⟨_, _, rfl, k2.keeps0, bif_b (fun hh => ?_) (fun hh => ?_)⟩
  · obtain ⟨hp, _⟩ := findD_has ha hh
    rw [if_pos hh]
    have hbl := hb.1
    obtain ⟨l, own, rfl, ho, hr, hd⟩ := F2
    generalize pos Prod.fst (l.map Fx.fil) (bytesL s) = p at *
    have hpl : p < l.length := by simpa using hp
    simp only [List.length_map] at *
    refine wr64 (by omega) ((c141 (i := p) hr hpl).mono ?_)
    rintro v w3 ⟨q3, c3, rfl, r3, k3⟩
    refine ⟨_, _, _, rfl, k3.keeps0, _, rfl, ⟨l.take p ++ l.drop (p + 1), own, by simp, ho, ?_, fun x hx => ?_⟩, ((k1.trans k2).wide.trans (k3.mono fun i _ hi => ho i hi)).narrow (Nat.le_refl _)⟩
    · have : (l.take p ++ l.drop (p + 1)).length = l.length - 1 := by simp; omega
      rw [this]; exact r3
    · have hx : x ∈ l := by
        rcases List.mem_append.1 hx with h | h
        · exact List.mem_of_mem_take h
        · exact List.mem_of_mem_drop h
      obtain ⟨da, di⟩ := hd x hx
      exact ⟨da.kp di k3 fun i _ hi => hi.2, di⟩
  · rw [if_neg (by rw [hh]; decide)]
    exact ⟨_, rfl, F2, k1.trans k2⟩
theorem c89 {w : World} {q q2 : Option Addr} {c n c2 n2 : Nat} {L : List Fil} {d : List UInt8} (h : FRd w q n L) (ha : Asc Prod.fst L) (hb : bigL L) (s : ByteArray) (hd2 : BRd w q2 n2 c2 d) (hdl : d.length ≤ 1000000000) : Rets Tryd.prog 89 #[.slice q n c, .string s, .slice q2 n2 c2] w fun v w' =>
    FOwn w' (fun i => w.heap.size ≤ i) v (withK Prod.fst L (bytesL s) (bytesL s, d)) ∧ Kp none_ w w' := by
  refine ent [_, _, _] Tryd.func89 ((vcTryd89 _ _ _ _ _ _ _ w _).mpr ?_)
  unfold VCTryd89
  obtain ⟨hby, rfl, hle⟩ := hd2
  refine (c139 h hb).mono ?_
  rintro v w1 ⟨F1, k1⟩
  obtain ⟨q1, c1, rfl, R1⟩ := F1.rd
  refine ⟨_, _, _, rfl, k1.keeps0, (c138 (hby.kp0 k1) hdl).mono ?_⟩
  rintro v w2 ⟨⟨s7, d7, q7, c7⟩, rfl, e7, hd7, hi7, k2⟩
  have e7 : d7 = d := e7
  subst e7
  refine ⟨_, _, _, rfl, k2.keeps0, fun _ => ?_⟩
  obtain ⟨k3, z3, _⟩ := laid2 (w := w2) s (.slice q7 d7.length c7)
  simp only
  generalize ((w2.alloc (.cells #[.string { data := #[] }, .slice none 0 0] 107)).setCell ⟨w2.heap.size, 0, none⟩ (.string s)).setCell ⟨w2.heap.size, 1, none⟩ (.slice q7 d7.length c7) = w3 at *
  refine (c137 (R1.kp0 (k2.trans k3)) ha hb.1 s).mono ?_
  rintro v w4 ⟨rfl, k4⟩
  have K14 := (k2.trans k3).trans k4
  have F4 := F1.cut.kp0 K14
  have D4 : DatAt w4 ⟨bytesL s, d7, q7, c7⟩ := (show DatAt w2 ⟨bytesL s, d7, q7, c7⟩ from ⟨hd7.by_, hd7.le⟩).kp0 (k3.trans k4)
  have I4 : ∀ {own : Nat → Prop}, (∀ i, own i → w.heap.size ≤ i ∧ i < w1.heap.size) → ∀ {w' : World}, w4.heap.size ≤ w'.heap.size → DatIn (fun i => w.heap.size ≤ i ∧ ¬ (own i ∨ fresh w' i)) ⟨bytesL s, d7, q7, c7⟩ := fun ho w' hw h0 a e => by
    have h1 : w1.heap.size ≤ a.block := hi7 h0 a e
    have h2 := D4.by_.lt (by rw [ba_size]; exact h0) a e
    have h3 := k1.size
    refine ⟨by omega, fun hh => hh.elim (fun h => by have := (ho _ h).2; omega) fun h => ?_⟩
    have h : w'.heap.size ≤ a.block := h
    omega
  have z24 : w2.heap.size < w4.heap.size := Nat.lt_of_lt_of_le z3 k4.size
  have z12 := k2.size
  have es : ba (bytesL s) = s := ba_of s
  have hbl := hb.1
  refine ⟨_, _, rfl, k4.k0 z3, bif_b (fun hh => ?_) (fun hh => ?_)⟩
  · obtain ⟨hp, _⟩ := findD_has ha hh
    rw [withK_has ha _ hh]
    obtain ⟨l, own, rfl, ho, hr, hd⟩ := F4
    generalize pos Prod.fst (l.map Fx.fil) (bytesL s) = p at *
    have hpl : p < l.length := by simpa using hp
    simp only [List.length_map] at *
    obtain ⟨g, rfl⟩ := row_some hr (by omega)
    have hlen := fxsC_len l
    obtain ⟨hog, u0, f0, s0⟩ := hr.setCell (k := p * 2 + 0) (by omega)
    have ap : ∀ k, Apart ⟨g, k, none⟩ w2.heap.size [0, 1] := fun k => .inl (by
      have := (ho g hog).2
      show g ≠ w2.heap.size
      omega)
    obtain ⟨r0, kk0⟩ := s0 (.string s)
    obtain ⟨_, u1, f1, s1⟩ := r0.setCell (k := p * 2 + 1) (by simp only [List.length_set]; omega)
    obtain ⟨r1, kk1⟩ := s1 (.slice q7 d7.length c7)
    refine ⟨⟨by omega, by omega⟩, ?_⟩
    rw [ptr_some]
    simp only [ad_add, Int.toNat_natCast, Nat.zero_add]
    have KK := kk0.trans kk1
    have r2 := r1
    have := fxs_set l p ⟨bytesL s, d7, q7, c7⟩ hpl
    simp only [es] at this
    rw [← this] at r2
    refine ⟨u0, f0, ap _, u1, f1, ap _, fun _ => ⟨_, rfl, ⟨l.set p ⟨bytesL s, d7, q7, c7⟩, own, by rw [List.map_set], fun i hi => (ho i hi).1, by rw [List.length_set]; exact r2, fun x hx => ?_⟩, ?_⟩⟩
    · rcases List.mem_or_eq_of_mem_set hx with hx | rfl
      · obtain ⟨da, di⟩ := hd x hx
        exact ⟨da.kp di KK fun i _ hi => hi.2, fun h0 a e => ⟨(di h0 a e).1.1, (di h0 a e).2⟩⟩
      · have di := I4 ho (w' := w4) (Nat.le_refl _)
        exact ⟨D4.kp di KK fun i _ hi hh => hi.2 (.inl hh), fun h0 a e => ⟨(di h0 a e).1, fun hh => (di h0 a e).2 (.inl hh)⟩⟩
    · exact ((k1.trans K14).wide.trans (KK.mono fun i _ hi => (ho i hi).1)).narrow (Nat.le_refl _)
  · rw [withK_not ha _ hh]
    intro _
    have hple := pos_le (k := Prod.fst) L (bytesL s)
    obtain ⟨l, own, rfl, ho, hr, hd⟩ := F4
    generalize pos Prod.fst (l.map Fx.fil) (bytesL s) = p at *
    simp only [List.length_map] at *
    have k5 : Kp none_ w4 (w4.alloc (.cells #[.string s, .slice q7 d7.length c7] 107)) := (Kp.refl none_ _).alloc1 _
    have B5 : Big (w4.alloc (.cells #[.string s, .slice q7 d7.length c7] 107)) w4.heap.size 107 (fxC ⟨bytesL s, d7, q7, c7⟩) := by
      have := Big.new w4 #[.string s, .slice q7 d7.length c7] 107
      unfold fxC
      simp only [es]
      exact this
    generalize w4.alloc (.cells #[.string s, .slice q7 d7.length c7] 107) = w5 at *
    refine (c140 (i := p) (hr.kp k5 fun _ _ _ _ _ => id) hple B5 (fun hh => by have := (ho _ hh).2; omega) hbl).mono ?_
    rintro v w6 ⟨q6, c6, rfl, r6, k6⟩
    refine ⟨_, _, _, rfl, kso k6 (fun hh => by have := (ho _ hh).2; omega) (Nat.lt_of_lt_of_le z24 k5.size), fun _ => ⟨_, rfl, ⟨l.take p ++ ⟨bytesL s, d7, q7, c7⟩ :: l.drop p, fun i => own i ∨ fresh w5 i, by simp, ?_, ?_, fun x hx => ?_⟩, ?_⟩⟩
    · rintro i (hi | hi)
      · exact (ho i hi).1
      · have hi : w5.heap.size ≤ i := hi
        have := k5.size
        have := k1.size
        omega
    · have : (l.take p ++ ⟨bytesL s, d7, q7, c7⟩ :: l.drop p).length = l.length + 1 := by simp; omega
      rw [this]; exact r6
    · have hc : x = ⟨bytesL s, d7, q7, c7⟩ ∨ x ∈ l := by
        rcases List.mem_append.1 hx with h | h
        · exact .inr (List.mem_of_mem_take h)
        · rcases List.mem_cons.1 h with h | h
          · exact .inl h
          · exact .inr (List.mem_of_mem_drop h)
      rcases hc with rfl | hx
      · have di := I4 ho (w' := w5) k5.size
        exact ⟨(D4.kp0 k5).kp di k6 fun i _ hi hh => hi.2 (.inl hh), di⟩
      · obtain ⟨da, di⟩ := hd x hx
        have di' : DatIn (fun i => w.heap.size ≤ i ∧ ¬ (own i ∨ fresh w5 i)) x := di.mono da fun i hl hi => ⟨hi.1.1, fun hh => hh.elim hi.2 fun h => by
          have h : w5.heap.size ≤ i := h
          have := k5.size
          omega⟩
        exact ⟨(da.kp0 k5).kp di' k6 fun i _ hi hh => hi.2 (.inl hh), di'⟩
    · exact (((k1.trans K14).trans k5).wide.trans (k6.mono fun i _ hi => (ho i hi).1)).narrow (Nat.le_refl _)
end Go.Proofs.YtbpknjldphckgaaDoor
