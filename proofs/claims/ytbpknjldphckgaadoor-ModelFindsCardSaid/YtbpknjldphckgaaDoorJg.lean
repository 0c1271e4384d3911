/- Model: names in a folder; lists of names. -/
import Derived.Test.YtbpknjldphckgaaDoorJf
import Derived.Test.YtbpknjldphckgaaDoorVmb
namespace Go.Proofs.YtbpknjldphckgaaDoor
open Go Go.SX Go.Proofs Go.Lib
set_option maxRecDepth 100000
set_option linter.unusedVariables false
set_option linter.unusedSimpArgs false
theorem c211 (s p : ByteArray) (w : World) : Rets Tryd.prog 211 #[.string s, .string p] w fun v w' => v = .bool ((bytesL p).isPrefixOf (bytesL s)) ∧ w' = w := by
  refine ent [_, _] Tryd.func211 ((vcTryd211 _ _ w _).mpr ?_)
  unfold VCTryd211
  have hs := bytesL_size s
  have hp := bytesL_size p
  refine bif_dec (fun h => ⟨⟨by omega, by omega⟩, _, rfl, ?_, rfl⟩) (fun h => ⟨_, rfl, ?_, rfl⟩)
  · rw [beq_str, bytesL_extract, Int.toNat_natCast]
    congr 1
    rw [Bool.eq_iff_iff]
    simp only [beq_iff_eq, List.drop_zero, Nat.sub_zero, List.isPrefixOf_iff_prefix]
    rw [List.prefix_iff_eq_take, hp]
    exact eq_comm
  · congr 1
    symm
    rw [← Bool.not_eq_true, List.isPrefixOf_iff_prefix]
    intro hh
    have := hh.length_le
    omega
theorem c200 (s p : ByteArray) (w : World) : Rets Tryd.prog 200 #[.string s, .string p] w fun v w' => ∃ r, v = .tuple #[.string r, .bool ((bytesL p).isPrefixOf (bytesL s))] ∧ w' = w := by
  refine ent [_, _] Tryd.func200 ((vcTryd200 _ _ w _).mpr ?_)
  unfold VCTryd200
  refine (c211 s p w).mono ?_
  rintro v wx ⟨rfl, e⟩
  obtain rfl := e.symm
  refine ⟨_, rfl, (Kp.refl none_ _).keeps0, bif_not (fun h => ⟨_, rfl, _, by rw [h], rfl⟩) (fun h => ?_)⟩
  have hs := bytesL_size s
  have hp := bytesL_size p
  have hl := (List.isPrefixOf_iff_prefix.1 h).length_le
  exact ⟨⟨by omega, by omega⟩, _, rfl, _, by rw [h], rfl⟩
theorem c188 (s p : ByteArray) (w : World) : Rets Tryd.prog 188 #[.string s, .string p] w fun v w' => ∃ r, v = .tuple #[.string r, .bool ((bytesL p).isPrefixOf (bytesL s))] ∧ w' = w := by
  refine ent [_, _] Tryd.func188 ((vcTryd188 _ _ w _).mpr ?_)
  unfold VCTryd188
  refine (c200 s p w).mono ?_
  rintro v wx ⟨r, rfl, e⟩
  obtain rfl := e.symm
  exact ⟨_, _, rfl, (Kp.refl none_ _).keeps0, _, rfl, _, rfl, rfl⟩
theorem c170 {w : World} (hml : ML w) (f s : ByteArray) (hf : f.size ≤ 1000000) : Rets Tryd.prog 170 #[.string f, .string s] w fun v w' => ∃ r, v = .tuple #[.string r, .bool (inF (bytesL f) (bytesL s))] ∧ Kp none_ w w' := by
  refine ent [_, _] Tryd.func170 ((vcTryd170 _ _ w _).mpr ?_)
  unfold VCTryd170
  refine (c104 hml s).mono ?_
  rintro v w1 ⟨rfl, k1⟩
  rw [beq_str]
  have e0 : bytesL ({ data := #[] } : ByteArray) = [] := rfl
  rw [e0]
  refine ⟨_, rfl, k1.keeps0, bif_not (fun h => ⟨_, rfl, _, by unfold inF; rw [h]; rfl, k1⟩) (fun h => bif_b (fun h2 => ⟨_, rfl, _, by unfold inF; rw [h, h2]; rfl, k1⟩) (fun h2 => (c104 (hml.kp0 k1) f).mono ?_))⟩
  rintro v w2 ⟨rfl, k2⟩
  refine ⟨_, rfl, k2.keeps0, bif_not (fun h3 => ⟨_, rfl, _, by unfold inF; rw [h, h2, h3]; rfl, k1.trans k2⟩) (fun h3 => ⟨by omega, (c188 _ _ w2).mono ?_⟩)⟩
  rintro v w3 ⟨r, rfl, rfl⟩
  have e1 : bytesL (f ++ { data := #[(47 : UInt8)] }) = bytesL f ++ [47] := by
    show (f ++ { data := #[(47 : UInt8)] } : ByteArray).data.toList = _
    rw [ByteArray.data_append]; simp
  rw [e1]
  exact ⟨_, _, rfl, (Kp.refl none_ _).keeps0, _, rfl, _, by unfold inF; rw [h, h2, h3]; rfl, k1.trans k2⟩
theorem c134 {w : World} (hml : ML w) (f s : ByteArray) (hf : f.size ≤ 1000000) : Rets Tryd.prog 134 #[.string f, .string s] w fun v w' => v = .bool (inF (bytesL f) (bytesL s)) ∧ Kp none_ w w' := by
  refine ent [_, _] Tryd.func134 ((vcTryd134 _ _ w _).mpr ?_)
  unfold VCTryd134
  refine (c170 hml f s hf).mono ?_
  rintro v w1 ⟨r, rfl, k1⟩
  exact ⟨_, _, rfl, k1.keeps0, _, rfl, rfl, k1⟩
theorem c132 (f s : ByteArray) (w : World) : Rets Tryd.prog 132 #[.string f, .string s] w fun v w' => v = .bool (inF (bytesL f) (bytesL s)) ∧ Kp none_ w w' := by
  refine ent [_, _] Tryd.func132 ((vcTryd132 _ _ w _).mpr ?_)
  unfold VCTryd132
  have hs := bytesL_size s
  have hf := bytesL_size f
  refine (c29 s w).mono ?_
  rintro v w1 ⟨rfl, k1⟩
  simp only [beq_str]
  have e0 : bytesL ({ data := #[] } : ByteArray) = [] := rfl
  rw [e0]
  refine ⟨_, rfl, k1.keeps0, bif_not (fun h => ⟨_, rfl, by unfold inF; rw [h]; rfl, k1⟩) (fun h => bif_not (fun h2 => ?_) (fun h2 => ?_))⟩
  · refine (c29 f w1).mono ?_
    rintro v w2 ⟨rfl, k2⟩
    have K := k1.trans k2
    refine ⟨_, rfl, k2.keeps0, bif_not (fun h3 => ⟨_, rfl, by unfold inF; rw [h, h2, h3]; rfl, K⟩) (fun h3 => bif_b (fun h4 => by rw [h2] at h4; cases h4) (fun _ => ?_))⟩
    have eI : inF (bytesL f) (bytesL s) = (bytesL f ++ [47]).isPrefixOf (bytesL s) := by unfold inF; rw [h, h2, h3]; simp
    rw [eI, prefix_slash]
    refine bif_dec (fun h5 => ⟨⟨by omega, by omega⟩, ?_⟩) (fun h5 => ⟨_, rfl, ?_, K⟩)
    · rw [bytesL_extract, Int.toNat_natCast, List.drop_zero, Nat.sub_zero]
      rw [decide_eq_true (show (bytesL f).length < (bytesL s).length by omega), Bool.true_and, hf]
      refine bif_b (fun h6 => ⟨⟨by omega, by omega⟩, _, rfl, ?_, K⟩) (fun h6 => ⟨_, rfl, ?_, K⟩)
      · rw [h6, Bool.true_and, byteAt_get (by omega), List.getElem?_eq_getElem (by omega)]
        congr 1
        rw [Bool.eq_iff_iff]
        simp only [beq_iff_eq, Option.some.injEq]
        constructor
        · intro e
          refine UInt8.toNat_inj.1 ?_
          show _ = 47
          omega
        · intro e
          rw [e]; rfl
      · rw [h6]; rfl
    · rw [decide_eq_false (by omega)]; rfl
  · refine bif_b (fun h3 => ⟨_, rfl, by unfold inF; rw [h, h2]; rfl, k1⟩) (fun h3 => by rw [h2] at h3; cases h3)
/-- A row of names. -/
def StrsAt (w : World) (q : Option Addr) (l : List (List UInt8)) : Prop := ∀ i (h : i < l.length), ∃ a, q = some a ∧ w.cell? (a.add i) = some (.string (ba l[i]))
theorem StrsAt.kp {S : Nat → Prop} {w w' : World} {q : Option Addr} {l : List (List UInt8)} (h : StrsAt w q l) (k : Kp S w w') (hs : ∀ x, q = some x → x.block < w.heap.size → 0 < l.length → ¬ S x.block) : StrsAt w' q l := fun i hi => by
  obtain ⟨a, e, hc⟩ := h i hi
  have hl := cell_lt hc
  rw [add_block] at hl
  exact ⟨a, e, k.cell hc (by rw [add_block]; exact hs a e hl (by omega))⟩
theorem StrsAt.kp0 {w w' : World} {q : Option Addr} {l : List (List UInt8)} (h : StrsAt w q l) (k : Kp none_ w w') : StrsAt w' q l := h.kp k fun _ _ _ _ => id
def strsC (l : List (List UInt8)) : List Value := l.map fun s => .string (ba s)
theorem strs_of {w : World} {own : Nat → Prop} {q : Option Addr} {n c : Nat} {l : List (List UInt8)} (h : OwnRow w own 9 1 (.slice q n c) l.length (strsC l)) : StrsAt w q l := fun i hi => h.at (by simp [strsC, hi])
theorem str_at {w : World} {q : Option Addr} {l : List (List UInt8)} (h : StrsAt w q l) {i : Nat} (hi : i < l.length) {K : Addr → Prop} (hK : ∀ x, q = some x → w.cell? (x.add (((i : Int).toNat) * 1)) = some (.string (ba l[i])) → K x) : Ptr q K := by
  obtain ⟨x, e, m⟩ := h i hi
  subst e
  rw [ptr_some]
  exact hK x rfl (by rwa [Int.toNat_natCast, Nat.mul_one])
theorem c192 {w : World} {q r : Option Addr} {c d : Nat} {l m : List (List UInt8)} (hq : StrsAt w q l) (hr : StrsAt w r m) (hl : l.length ≤ 1000000) : Rets Tryd.prog 192 #[.slice q l.length c, .slice r m.length d] w fun v w' => v = .bool (l == m) ∧ Kp none_ w w' := by
  refine ent [_, _] Tryd.func192 ((vcTryd192 _ _ _ _ _ _ w _).mpr ?_)
  unfold VCTryd192
  have no : l ≠ m → (l == m) = false := fun h => by simpa using h
  refine bif_ne (fun hne => ⟨_, rfl, by rw [no]; exact fun e => hne (by rw [e]), Kp.refl _ _⟩) (fun he => ?_)
  have he : l.length = m.length := by omega
  refine ⟨fun i w' => ∃ j : Nat, i = j ∧ j ≤ l.length ∧ Kp none_ w w' ∧ ∀ x (hk : x < l.length), x < j → l[x] = m[x]'(by omega), fun i _ => (l.length - i).toNat, ⟨0, rfl, by omega, Kp.refl _ _, fun x hk h => by omega⟩, ?_⟩
  rintro i w3 ⟨j, rfl, hj, k3, ha⟩
  have kd := k3.drew
  refine bif_dec (fun h1 => ?_) (fun h1 => ⟨_, rfl, ?_, k3⟩)
  · have hjl : j < l.length := by omega
    have hjm : j < m.length := by omega
    refine ⟨⟨by omega, by omega⟩, str_at (hq.kp0 kd) hjl fun x _ mx => ⟨_, mx, ⟨by omega, by omega⟩, str_at (hr.kp0 kd) hjm fun y _ my => ⟨_, my, ?_⟩⟩⟩
    rw [toList_ba, toList_ba]
    refine bif_not (fun hh => ⟨_, rfl, ?_, kd⟩) (fun hh => wr64 (by omega) ⟨⟨j + 1, by omega, by omega, kd, fun x hk hxj => ?_⟩, by first | omega | (dsimp only; omega)⟩)
    · rw [no]
      intro e
      subst e
      simp at hh
    · by_cases e : x = j
      · subst e; simpa using hh
      · exact ha x hk (by omega)
  · have : l = m := List.ext_getElem he fun i h1 h2 => ha i h1 (by omega)
    subst this
    simp
/-- The names in a folder. -/
theorem c193 {w : World} (hml : ML w) {q : Option Addr} {c n : Nat} {L : List Fil} (h : FRd w q n L) (hL : L.length ≤ 1000000) (f : ByteArray) (hf : f.size ≤ 1000000) : Rets Tryd.prog 193 #[.slice q n c, .string f] w fun v w' =>
    ∃ q' c', v = .slice q' (underF L (bytesL f)).length c' ∧ StrsAt w' q' (underF L (bytesL f)) ∧ Kp none_ w w' := by
  obtain ⟨l, rfl, rfl, hx, hdx⟩ := h
  have hl : l.length ≤ 1000000 := by simpa using hL
  refine ent [_, _] Tryd.func193 ((vcTryd193 _ _ _ _ w _).mpr ?_)
  unfold VCTryd193
  have stp : ∀ j (hj : j < l.length), underF ((l.take (j + 1)).map Fx.fil) (bytesL f) = if inF (bytesL f) l[j].s = true then underF ((l.take j).map Fx.fil) (bytesL f) ++ [l[j].s] else underF ((l.take j).map Fx.fil) (bytesL f) := fun j hj => by
    rw [List.take_succ_eq_append_getElem hj, List.map_append]
    unfold underF
    rw [List.filter_append, List.map_append]
    split <;> rename_i hh <;> simp [hh]
  refine ⟨fun i q n c w' => ∃ j : Nat, i = j ∧ j ≤ l.length ∧ n = (underF ((l.take j).map Fx.fil) (bytesL f)).length ∧ n ≤ j ∧ OwnRow w' (fun i => w.heap.size ≤ i) 9 1 (.slice q n c) n (strsC (underF ((l.take j).map Fx.fil) (bytesL f))) ∧ Kp (fun i => w.heap.size ≤ i) w w', fun i _ _ _ _ => (l.length - i).toNat, ⟨0, rfl, by omega, by simp [underF], by omega, by simpa [underF, strsC] using OwnRow.nil _ _ _ _, Kp.refl _ _⟩, ?_⟩
  rintro i q3 n4 c5 w6 ⟨j, rfl, hj, rfl, hnj, r6, k6⟩
  refine bif_dec (fun h1 => ?_) (fun h1 => ⟨_, rfl, q3, c5, ?_, ?_, k6.narrow (Nat.le_refl _)⟩)
  · have hjl : j < l.length := by omega
    refine ⟨⟨by omega, by omega⟩, fx_at (hx.far k6 (Nat.le_refl _)) hjl fun x _ mx => ⟨_, _, _, _, ⟨mx.c0, mx.c1, trivial⟩, fun _ => ?_⟩⟩
    obtain ⟨k7, z7, _⟩ := laid2 (w := w6) (ba l[j].s) (.slice l[j].q l[j].d.length l[j].c)
    simp only
    generalize ((w6.alloc (.cells #[.string { data := #[] }, .slice none 0 0] 107)).setCell ⟨w6.heap.size, 0, none⟩ (.string (ba l[j].s))).setCell ⟨w6.heap.size, 1, none⟩ (.slice l[j].q l[j].d.length l[j].c) = w7 at *
    have K7 := (k6.trans k7.wide).narrow (Nat.le_refl _)
    refine (c134 (hml.kp0 K7) f (ba l[j].s) hf).mono ?_
    rw [bytesL_ba]
    rintro v w8 ⟨rfl, k8⟩
    have z68 : w6.heap.size < w8.heap.size := Nat.lt_of_lt_of_le z7 k8.size
    have hs := stp j hjl
    have r8 := (r6.mono (own' := fun i => w.heap.size ≤ i ∧ i < w6.heap.size) fun i hi hl => ⟨hi, hl⟩).kp (k7.trans k8) fun _ _ _ _ _ => id
    have K8 := K7.trans k8
    refine ⟨_, rfl, k8.k0 z7, bif_b (fun hh => ?_) (fun hh => wr64 (by omega) ⟨⟨j + 1, by omega, by omega, ?_, by omega, ?_, K8.wide⟩, by first | omega | (dsimp only; omega)⟩)⟩
    · rw [if_pos hh] at hs
      refine append_new (own := fun i => w.heap.size ≤ i ∧ i < w6.heap.size) (xs := strsC (underF ((l.take j).map Fx.fil) (bytesL f))) #[.string (ba l[j].s)] und46 elem9 (by omega) r8 rfl (fun u hu => by simp at hu; subst hu; simp [Value.oneCell']) (by omega) fun q' c' w9 r9 k9 k9' => ⟨_, _, _, rfl, kso k9' (fun hh => Nat.lt_irrefl _ hh.2) (by rw [alloc_size]; omega), wr64 (by omega) ⟨⟨j + 1, by omega, by omega, by rw [hs]; simp, by omega, ?_, K8.wide.trans (k9.mono fun i _ hi => hi.1)⟩, by first | omega | (dsimp only; omega)⟩⟩
      rw [hs]
      have := K8.size
      have r9 := r9.mono (own' := fun i => w.heap.size ≤ i) fun i hi _ => hi.elim (fun h => h.1) fun hf => Nat.le_trans this hf
      simpa [strsC] using r9
    · rw [hs, if_neg (by rw [hh]; decide)]
    · rw [hs, if_neg (by rw [hh]; decide)]
      exact r8.mono fun i hi _ => hi.1
  · rw [List.take_of_length_le (by omega)]
  · rw [List.take_of_length_le (by omega)] at r6
    exact strs_of r6
end Go.Proofs.YtbpknjldphckgaaDoor
