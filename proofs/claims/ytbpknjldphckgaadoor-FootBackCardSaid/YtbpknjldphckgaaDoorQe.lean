import Derived.Test.YtbpknjldphckgaaDoorQd
namespace Go.Proofs.YtbpknjldphckgaaDoor
open Go Go.SX Go.SX.Crc Go.Proofs Go.Lib
set_option maxRecDepth 100000
set_option linter.unusedVariables false
set_option linter.unusedSimpArgs false
/-! ### The document's names -/
theorem bytesL_extract (s : ByteArray) (a b : Nat) : bytesL (s.extract a b) = ((bytesL s).drop a).take (b - a) := by
  show (s.extract a b).data.toList = _
  rw [ByteArray.data_extract, Array.toList_extract]
theorem byteAt_get {s : ByteArray} {i : Nat} (h : i < s.size) : byteAt s (i : Int) = ((bytesL s)[i]'(by rw [bytesL_size]; exact h)).toNat := by
  unfold byteAt
  rw [Int.toNat_natCast]
  have : s[i]? = some s[i] := getElem?_pos s i h
  rw [this, bytesL_get h]
theorem elem9 : elemOk Tryd.prog 9 1 = true := by kernel_rfl
theorem und46 : Tryd.prog.underlying 46 = some (.slice 9) := Tryd.underlying46
theorem strs_row {w : World} {own : Nat → Prop} {e : TypeId} {q : Option Addr} {n c : Nat} {ss : List ByteArray} (h : OwnRow w own e 1 (.slice q n c) ss.length (ss.map Value.string)) : Strs w q ss := fun i hi => by
  obtain ⟨a, e, hc⟩ := h.at (j := i) (u := .string ss[i]) (by simp [hi])
  exact ⟨a, e, hc⟩
theorem c107 (s : ByteArray) (hs : s.size ≤ 100000) (w : World) : Rets Tryd.prog 107 #[.string s] w fun v w' => ∃ q c ss, v = .slice q ss.length c ∧ Strs w' q ss ∧ ss.map bytesL = partsL 47 (bytesL s) ∧ ss.length ≤ s.size + 1 ∧ Kp none_ w w' := by
  refine ent [_] Tryd.func107 ((vcTryd107 _ w _).mpr ?_)
  unfold VCTryd107
  have hsz := bytesL_size s
  generalize hl : bytesL s = l at *
  refine ⟨fun i f q n c w' => ∃ (j g : Nat) (ss : List ByteArray), i = j ∧ f = g ∧ g ≤ j ∧ j ≤ s.size ∧ n = ss.length ∧ ss.length ≤ j ∧ OwnRow w' (fun i => w.heap.size ≤ i) 9 1 (.slice q ss.length c) ss.length (ss.map Value.string) ∧ (47 : UInt8) ∉ (l.drop g).take (j - g) ∧ ss.map bytesL ++ partsL 47 (l.drop g) = partsL 47 l ∧ Kp (fun i => w.heap.size ≤ i) w w', fun i _ _ _ _ _ => (s.size - i).toNat,
    ⟨0, 0, [], rfl, rfl, by omega, by omega, rfl, by simp, OwnRow.nil _ _ _ _, by simp, by simp, Kp.refl _ _⟩, ?_⟩
  rintro i f q n c w1 ⟨j, g, ss, rfl, rfl, hgj, hj, rfl, hn, hr, hno, hp, k1⟩
  have push : ∀ (b : Nat), g ≤ b → b ≤ s.size → ∀ {K : Value → World → Prop},
      (∀ q' c' w2, OwnRow w2 (fun i => w.heap.size ≤ i) 9 1 (.slice q' (ss.length + 1) c') (ss.length + 1) ((ss ++ [s.extract g b]).map Value.string) → Kp (fun i => w.heap.size ≤ i) w w2 → Keeps (w1.alloc (.cells #[.string (s.extract g b)] 9)) w2 [] → K (.slice q' (ss.length + 1) c') w2) →
      Runs Tryd.prog (Builtin.append_ #[46, 46] 46 #[.slice q ss.length c, .slice (some ⟨w1.heap.size, 0, none⟩) 1 1]) (w1.alloc (.cells #[.string (s.extract g b)] 9)) K := by
    intro b hgb hb K hK
    refine append_new (own := fun i => w.heap.size ≤ i) (xs := ss.map Value.string) #[.string (s.extract g b)] und46 elem9 (by omega) hr rfl (by simp [Value.oneCell']) (by omega) fun q' c' w2 r2 k2 k3 => ?_
    have z1 := k1.size
    refine hK q' c' w2 ?_ (k1.trans k2) (k3.keeps0)
    rw [List.map_append]
    exact r2.mono fun i hi _ => hi.elim id fun hf => Nat.le_trans z1 hf
  refine bif_dec (fun hlt => ⟨⟨by omega, hlt⟩, ?_⟩) (fun hge => ?_)
  · have hjs : j < s.size := by omega
    have hjl : j < l.length := by omega
    have e1 : byteAt s (j : Int) = ((l[j]'hjl).toNat : Int) := by subst hl; exact byteAt_get hjs
    rw [e1]
    refine bif_eq (fun h47 => ?_) (fun h47 => ?_)
    · have hc : l[j]'hjl = 47 := by
        apply UInt8.toNat_inj.1
        show (l[j]'hjl).toNat = 47
        omega
      simp only [Int.toNat_natCast]
      refine ⟨by omega, by omega, push j hgj hj fun q' c' w2 r2 k2 kp => ⟨_, _, _, rfl, kp, wr64 (by omega) (wr64 (by omega) ⟨⟨j + 1, j + 1, ss ++ [s.extract g j], by omega, by omega, by omega, by omega, by simp, by simp; omega, by simpa using r2, by simp, ?_, k2⟩, by first | omega | (dsimp only; omega)⟩)⟩⟩
      rw [List.map_append, ← hp, List.append_assoc]
      congr 1
      have hspl : l.drop g = (l.drop g).take (j - g) ++ 47 :: l.drop (j + 1) := by
        have h1 := List.take_append_drop (j - g) (l.drop g)
        rw [List.drop_drop, show g + (j - g) = j by omega, List.drop_eq_getElem_cons hjl, hc] at h1
        exact h1.symm
      rw [hspl, partsL_hit hno, List.map_singleton, bytesL_extract, hl]
      rfl
    · refine wr64 (by omega) ⟨⟨j + 1, g, ss, by omega, rfl, by omega, by omega, rfl, by omega, hr, ?_, hp, k1⟩, by first | omega | (dsimp only; omega)⟩
      rw [show j + 1 - g = (j - g) + 1 by omega, drop_get (by omega)]
      simp only [List.mem_append, List.mem_singleton, not_or]
      refine ⟨hno, fun h => h47 ?_⟩
      have e : l[g + (j - g)]'(by omega) = l[j]'hjl := by congr 1; omega
      rw [← e, ← h]
      rfl
  · have hjs : j = s.size := by omega
    subst hjs
    simp only [Int.toNat_natCast]
    refine ⟨by omega, push s.size hgj (Nat.le_refl _) fun q' c' w2 r2 k2 kp => ⟨_, _, _, rfl, kp, _, rfl, q', c', ss ++ [s.extract g s.size], by simp, strs_row (by simpa using r2), ?_, by simp; omega, k2.narrow (Nat.le_refl _)⟩⟩
    rw [List.map_append, ← hp]
    congr 1
    have : (l.drop g).take (s.size - g) = l.drop g := List.take_of_length_le (by rw [List.length_drop]; omega)
    rw [this] at hno
    rw [partsL_none hno, List.map_singleton, bytesL_extract, hl, this]
theorem c29 (s : ByteArray) (w : World) : Rets Tryd.prog 29 #[.string s] w fun v w' => v = .bool (okName (bytesL s)) ∧ Kp none_ w w' := by
  refine ent [_] Tryd.func29 ((vcTryd29 _ w _).mpr ?_)
  unfold VCTryd29
  rw [okName_eq]
  have hsz := bytesL_size s
  refine bif_dec (fun h => ⟨_, rfl, ?_, Kp.refl _ _⟩) (fun h => bif_dec (fun h2 => ⟨_, rfl, ?_, Kp.refl _ _⟩) (fun h2 => ?_))
  · rw [decide_eq_false (by omega)]; rfl
  · rw [decide_eq_false (by omega)]; rfl
  rw [decide_eq_true (by omega), Bool.true_and]
  refine ⟨fun i w' => ∃ j : Nat, i = j ∧ j ≤ s.size ∧ ((bytesL s).take j).all okByte = true ∧ w' = w, fun i _ => (s.size - i).toNat, ⟨0, rfl, by omega, by simp, rfl⟩, ?_⟩
  rintro i w1 ⟨j, rfl, hj, hall, rfl⟩
  refine bif_dec (fun hlt => ⟨⟨by omega, hlt⟩, ?_⟩) (fun hge => ?_)
  · have hjs : j < s.size := by omega
    have hjl : j < (bytesL s).length := by omega
    have e1 : byteAt s (j : Int) = (((bytesL s)[j]'hjl).toNat : Int) := byteAt_get hjs
    rw [e1]
    have bad : okByte ((bytesL s)[j]'hjl) = false → ∃ v, Ending.returned (Value.bool false) = Ending.returned v ∧ v = .bool ((bytesL s).all okByte && (partsL 47 (bytesL s)).all fun p => !(p == []) && !(p == [46]) && !(p == [46, 46])) ∧ Kp none_ w1 w1 := fun h => ⟨_, rfl, by rw [all_drop hjl hall h]; rfl, Kp.refl _ _⟩
    refine bif_dec (fun h => bad ?_) (fun h => ⟨⟨by omega, hlt⟩, bif_dec (fun h' => bad ?_) (fun h' => wr64 (by omega) ⟨⟨j + 1, by omega, by omega, ?_, by first | rfl | trivial⟩, by first | omega | (dsimp only; omega)⟩)⟩)
    · unfold okByte; exact decide_eq_false (by omega)
    · unfold okByte; exact decide_eq_false (by omega)
    · rw [List.take_succ_eq_append_getElem hjl, List.all_append, hall]
      have : okByte (bytesL s)[j] = true := by unfold okByte; exact decide_eq_true (by omega)
      simpa using this
  · have : j = s.size := by omega
    rw [this, ← hsz, List.take_length] at hall
    rw [hall, Bool.true_and]
    refine (c107 s (by omega) w1).mono ?_
    rintro v w2 ⟨q, c, ss, rfl, hS, hp, hn, k2⟩
    refine ⟨_, _, _, rfl, k2.keeps0, ?_⟩
    rw [← hp, List.all_map]
    refine ⟨fun i w' => ∃ j : Nat, i = j ∧ j ≤ ss.length ∧ ((ss.take j).all ((fun p => !(p == []) && !(p == [46]) && !(p == [46, 46])) ∘ bytesL)) = true ∧ w' = w2, fun i _ => (ss.length - i).toNat, ⟨0, rfl, by omega, by simp, rfl⟩, ?_⟩
    rintro i w3 ⟨j, rfl, hj, hall, rfl⟩
    refine bif_dec (fun hlt => ⟨⟨by omega, hlt⟩, strs_get hS (i := j) (by omega) fun a ha => ?_⟩) (fun hge => ⟨_, rfl, ?_, k2⟩)
    · have hj' : j < ss.length := by omega
      simp only [beq_str]
      have e0 : bytesL ({ data := #[] } : ByteArray) = [] := rfl
      have e1 : bytesL ({ data := #[46] } : ByteArray) = [46] := rfl
      have e2 : bytesL ({ data := #[46, 46] } : ByteArray) = [46, 46] := rfl
      rw [e0, e1, e2]
      have bad : (!(bytesL ss[j] == []) && !(bytesL ss[j] == [46]) && !(bytesL ss[j] == [46, 46])) = false → ∃ v, Ending.returned (Value.bool false) = Ending.returned v ∧ v = .bool (ss.all ((fun p => !(p == []) && !(p == [46]) && !(p == [46, 46])) ∘ bytesL)) ∧ Kp none_ w1 w3 := fun h => by
        refine ⟨_, rfl, ?_, k2⟩
        have : (ss.all ((fun p => !(p == []) && !(p == [46]) && !(p == [46, 46])) ∘ bytesL)) = false := by
          rw [← Bool.not_eq_true, List.all_eq_true]
          intro hh
          have := hh ss[j] (List.getElem_mem hj')
          simp only [Function.comp] at this
          rw [this] at h; cases h
        rw [this]
      refine bif_b (fun h0 => bad (by rw [h0]; rfl)) (fun h0 => ⟨⟨by omega, hlt⟩, strs_get hS (i := j) hj' fun a ha => bif_b (fun h1 => bad (by rw [h0, h1]; rfl)) (fun h1 => ⟨⟨by omega, hlt⟩, strs_get hS (i := j) hj' fun a ha => bif_b (fun h2 => bad (by rw [h0, h1, h2]; rfl)) (fun h2 => wr64 (by omega) ⟨⟨j + 1, by omega, by omega, ?_, by first | rfl | trivial⟩, by first | omega | (dsimp only; omega)⟩)⟩)⟩)
      rw [List.take_succ_eq_append_getElem hj', List.all_append, hall]
      simp only [List.all_cons, List.all_nil, Function.comp, h0, h1, h2]
      rfl
    · have : j = ss.length := by omega
      rw [this, List.take_length] at hall
      rw [hall]
end Go.Proofs.YtbpknjldphckgaaDoor
