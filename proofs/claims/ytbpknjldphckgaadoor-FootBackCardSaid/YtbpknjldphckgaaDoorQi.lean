import Derived.Test.YtbpknjldphckgaaDoorQh
namespace Go.Proofs.YtbpknjldphckgaaDoor
open Go Go.SX Go.SX.Crc Go.Proofs Go.Lib
set_option maxRecDepth 100000
set_option linter.unusedVariables false
set_option linter.unusedSimpArgs false
theorem bytes_at {w : World} {q : Option Addr} {l : List UInt8} (h : BytesAt w q (ba l)) {i : Nat} (hi : i < l.length) {K : Addr → Int → Prop} (hK : ∀ a, q = some a → K a (l[i]).toNat) :
    Ptr q fun a => ∃ x, w.cell? (a.add i) = some (.int .u8 x) ∧ K a x := by
  obtain ⟨a, e, hc⟩ := h i (by rw [ba_size]; omega)
  subst e
  rw [ptr_some]
  refine ⟨_, hc, ?_⟩
  rw [ba_get]
  exact hK a rfl
theorem c32 {w : World} {q : Option Addr} {c : Nat} {l : List UInt8} (hb : BytesAt w q (ba l)) (hc : l.length ≤ c) (hl : l.length ≤ 1000000) (a : Int) :
    Rets Tryd.prog 32 #[.slice q l.length c, .int .i64 a] w fun v w' => v = .tuple #[.string (ba (stoneF l a).1), .int .i64 (stoneF l a).2.1, .int .i64 (stoneF l a).2.2] ∧ Kp none_ w w' := by
  refine ent [_, _] Tryd.func32 ((vcTryd32 _ _ _ _ w _).mpr ?_)
  unfold VCTryd32
  simp only [empty_ba]
  generalize hF : stoneF l a = F
  have hF0 : (a < 0 ∨ a > l.length) → F = ([], 0, 1) := fun h => by rw [← hF]; unfold stoneF; rw [if_pos h]
  refine bif_dec (fun h => ⟨_, rfl, by rw [hF0 (.inl h)], Kp.refl _ _⟩) (fun h0 => bif_dec (fun h => ⟨_, rfl, by rw [hF0 (.inr h)], Kp.refl _ _⟩) (fun h1 => ?_))
  obtain ⟨A, rfl⟩ := Int.eq_ofNat_of_zero_le (show 0 ≤ a by omega)
  have hA : A ≤ l.length := by omega
  have hdl : (l.drop A).length = l.length - A := List.length_drop
  simp only [Int.toNat_natCast]
  have hF1 : F = (if 4 ≤ (l.drop A).length ∧ (l.drop A).take 4 ≠ tomb then ([], 0, 3) else
      if (l.drop A).length < 5 ∨ (l.drop A).length < 9 + nlen (l.drop A) 4 then ([], 0, 2) else
      if numAt (l.drop A) (5 + nlen (l.drop A) 4) 4 ≠ (sumL ((l.drop A).take (5 + nlen (l.drop A) 4))).toNat then ([], 0, 4) else
      if okName (((l.drop A).drop 5).take (nlen (l.drop A) 4)) = false then ([], 0, 6) else
      (((l.drop A).drop 5).take (nlen (l.drop A) 4), (A : Int) + (9 + nlen (l.drop A) 4 : Nat), 0)) := by
    rw [← hF]; unfold stoneF; rw [if_neg (by omega)]; rfl
  clear hF hF0
  have hbm := bytes_from hb hA hc
  have hcap : (l.drop A).length ≤ c - A := by omega
  generalize l.drop A = m at *
  generalize cutA q c A 1 = q0 at *
  refine ⟨⟨by omega, by omega⟩, bif_dec (fun h4 => ?_) (fun h4 => ?_)⟩
  · have h44 : BytesAt w (cutA q0 (c - A) 0 1) (ba (m.take 4)) := by
      have := bytes_drop hbm (a := 0) (k := 4) (by omega) hcap
      exact this
    refine ⟨⟨by omega, by omega⟩, ba (m.take 4), by rw [ba_size, List.length_take]; omega, h44, ?_⟩
    rw [beq_ba]
    refine bif_not (fun hbad => ⟨_, rfl, ?_, Kp.refl _ _⟩) (fun hgood => ?_)
    · rw [hF1, if_pos ⟨by omega, fun h => by rw [h] at hbad; exact absurd hbad (by decide)⟩]
    rw [if_neg (fun h => h.2 (by simpa [bytesL, tomb] using hgood))] at hF1
    refine bif_dec (fun h5 => ⟨_, rfl, ?_, Kp.refl _ _⟩) (fun h5 => ?_)
    · rw [if_pos (.inl (by omega))] at hF1
      rw [hF1]
    have hm4 : 4 < m.length := by omega
    have hn4 : nlen m 4 < 256 := by rw [nlen_eq hm4]; exact UInt8.toNat_lt _
    refine ⟨by omega, bytes_at hbm hm4 fun a1 ha1 => ?_⟩
    rw [← nlen_eq hm4]
    refine wr64 (by omega) (wr64 (by omega) (bif_dec (fun h9 => ⟨_, rfl, ?_, Kp.refl _ _⟩) (fun h9 => ?_)))
    · rw [if_pos (.inr (by omega))] at hF1
      rw [hF1]
    rw [if_neg (by omega)] at hF1
    refine ⟨by omega, bytes_at hbm hm4 fun a2 ha2 => ?_⟩
    rw [← nlen_eq hm4]
    have e5 : (5 : Int) + (nlen m 4 : Int) = ((5 + nlen m 4 : Nat) : Int) := by omega
    refine wr64 (by omega) ?_
    rw [e5]
    refine wr64 (by omega) ⟨by omega, ?_⟩
    simp only [Int.toNat_natCast, Nat.sub_zero]
    have kd : Kp none_ w w.drew := (Kp.refl none_ w).drew
    rw [← hdl]
    refine (c114 (hbm.kp0 kd) (by omega) (5 + nlen m 4) (by omega)).mono ?_
    rintro v wx ⟨rfl, e⟩
    obtain rfl := e.symm
    have ht : (m.take (5 + nlen m 4)).length = 5 + nlen m 4 := by rw [List.length_take]; omega
    have hb2 : BytesAt w.drew (cutA q0 (c - A) 0 1) (ba (m.take (5 + nlen m 4))) := by
      have := bytes_drop (hbm.kp0 kd) (a := 0) (k := 5 + nlen m 4) (by omega) hcap
      exact this
    have hnum := num_lt m (5 + nlen m 4)
    have hsum := u32_lt (sumL (m.take (5 + nlen m 4)))
    have c115' := c115 (c := c - A) hb2 (by rw [ht]; omega)
    rw [ht] at c115'
    refine ⟨_, rfl, (Kp.refl none_ _).keeps0, c115'.mono ?_⟩
    rintro v wx ⟨rfl, e⟩
    obtain rfl := e.symm
    refine ⟨_, rfl, (Kp.refl none_ _).keeps0, wr64 (by omega) (bif_ne (fun hne => ⟨_, rfl, ?_, kd⟩) (fun heq => ?_))⟩
    · rw [if_pos (fun h => hne (by rw [h]))] at hF1
      rw [hF1]
    rw [if_neg (fun h => h (by exact_mod_cast heq))] at hF1
    have hb3 : BytesAt w.drew (cutA q0 (c - A) 5 1) (ba ((m.drop 5).take (nlen m 4))) := bytes_drop (hbm.kp0 kd) (by omega) hcap
    have hsz : (ba ((m.drop 5).take (nlen m 4))).size = 5 + nlen m 4 - 5 := by rw [ba_size, List.length_take, List.length_drop]; omega
    refine ⟨by omega, by omega, _, hsz, hb3, (c29 _ _).mono ?_⟩
    have ebl : bytesL (ba ((m.drop 5).take (nlen m 4))) = (m.drop 5).take (nlen m 4) := ba_list _
    rw [ebl]
    rintro v w2 ⟨rfl, k2⟩
    refine ⟨_, rfl, k2.keeps0, bif_not (fun hb => ⟨_, rfl, ?_, kd.trans k2⟩) (fun hb => ⟨by omega, by omega, _, hsz, hb3.kp0 k2, wr64 (by omega) (wr64 (by omega) ⟨_, rfl, ?_, kd.trans k2⟩)⟩)⟩
    · rw [if_pos hb] at hF1
      rw [hF1]
    · rw [if_neg (by rw [hb]; decide)] at hF1
      have e6 : (A : Int) + ((5 + nlen m 4 : Nat) : Int) + 4 = (A : Int) + ((9 + nlen m 4 : Nat) : Int) := by omega
      rw [hF1, e6]
  · rw [if_neg (fun h => by omega)] at hF1
    refine bif_dec (fun h5 => ⟨_, rfl, ?_, Kp.refl _ _⟩) (fun h5 => ?_)
    · rw [if_pos (.inl (by omega))] at hF1
      rw [hF1]
    have hm4 : 4 < m.length := by omega
    have hn4 : nlen m 4 < 256 := by rw [nlen_eq hm4]; exact UInt8.toNat_lt _
    refine ⟨by omega, bytes_at hbm hm4 fun a1 ha1 => ?_⟩
    rw [← nlen_eq hm4]
    refine wr64 (by omega) (wr64 (by omega) (bif_dec (fun h9 => ⟨_, rfl, ?_, Kp.refl _ _⟩) (fun h9 => ?_)))
    · rw [if_pos (.inr (by omega))] at hF1
      rw [hF1]
    rw [if_neg (by omega)] at hF1
    refine ⟨by omega, bytes_at hbm hm4 fun a2 ha2 => ?_⟩
    rw [← nlen_eq hm4]
    have e5 : (5 : Int) + (nlen m 4 : Int) = ((5 + nlen m 4 : Nat) : Int) := by omega
    refine wr64 (by omega) ?_
    rw [e5]
    refine wr64 (by omega) ⟨by omega, ?_⟩
    simp only [Int.toNat_natCast, Nat.sub_zero]
    have kd : Kp none_ w w.drew := (Kp.refl none_ w).drew
    rw [← hdl]
    refine (c114 (hbm.kp0 kd) (by omega) (5 + nlen m 4) (by omega)).mono ?_
    rintro v wx ⟨rfl, e⟩
    obtain rfl := e.symm
    have ht : (m.take (5 + nlen m 4)).length = 5 + nlen m 4 := by rw [List.length_take]; omega
    have hb2 : BytesAt w.drew (cutA q0 (c - A) 0 1) (ba (m.take (5 + nlen m 4))) := by
      have := bytes_drop (hbm.kp0 kd) (a := 0) (k := 5 + nlen m 4) (by omega) hcap
      exact this
    have hnum := num_lt m (5 + nlen m 4)
    have hsum := u32_lt (sumL (m.take (5 + nlen m 4)))
    have c115' := c115 (c := c - A) hb2 (by rw [ht]; omega)
    rw [ht] at c115'
    refine ⟨_, rfl, (Kp.refl none_ _).keeps0, c115'.mono ?_⟩
    rintro v wx ⟨rfl, e⟩
    obtain rfl := e.symm
    refine ⟨_, rfl, (Kp.refl none_ _).keeps0, wr64 (by omega) (bif_ne (fun hne => ⟨_, rfl, ?_, kd⟩) (fun heq => ?_))⟩
    · rw [if_pos (fun h => hne (by rw [h]))] at hF1
      rw [hF1]
    rw [if_neg (fun h => h (by exact_mod_cast heq))] at hF1
    have hb3 : BytesAt w.drew (cutA q0 (c - A) 5 1) (ba ((m.drop 5).take (nlen m 4))) := bytes_drop (hbm.kp0 kd) (by omega) hcap
    have hsz : (ba ((m.drop 5).take (nlen m 4))).size = 5 + nlen m 4 - 5 := by rw [ba_size, List.length_take, List.length_drop]; omega
    refine ⟨by omega, by omega, _, hsz, hb3, (c29 _ _).mono ?_⟩
    have ebl : bytesL (ba ((m.drop 5).take (nlen m 4))) = (m.drop 5).take (nlen m 4) := ba_list _
    rw [ebl]
    rintro v w2 ⟨rfl, k2⟩
    refine ⟨_, rfl, k2.keeps0, bif_not (fun hb => ⟨_, rfl, ?_, kd.trans k2⟩) (fun hb => ⟨by omega, by omega, _, hsz, hb3.kp0 k2, wr64 (by omega) (wr64 (by omega) ⟨_, rfl, ?_, kd.trans k2⟩)⟩)⟩
    · rw [if_pos hb] at hF1
      rw [hF1]
    · rw [if_neg (by rw [hb]; decide)] at hF1
      have e6 : (A : Int) + ((5 + nlen m 4 : Nat) : Int) + 4 = (A : Int) + ((9 + nlen m 4 : Nat) : Int) := by omega
      rw [hF1, e6]
/-! ### What is put is taken -/
theorem leN_take4 (X : W32) (b : List UInt8) : leN ((le4 X ++ b).take 4) = X.toNat := by
  have : (le4 X ++ b).take 4 = le4 X := by rw [show 4 = (le4 X).length by rfl, List.take_left]
  rw [this, leN_le4]
theorem stoneF_put {x : List UInt8} (h : okName x = true) (a b : List UInt8) : stoneF (a ++ stoneB x ++ b) a.length = (x, (a.length : Int) + (9 + x.length : Nat), 0) := by
  have hx := okName_len h
  have hlb := stoneB_len x
  unfold stoneF
  rw [if_neg (by simp only [List.length_append]; omega)]
  have hm : (a ++ stoneB x ++ b).drop (a.length : Int).toNat = stoneB x ++ b := by
    rw [Int.toNat_natCast, List.append_assoc, List.drop_left]
  simp only [hm]
  have hlen : (stoneB x ++ b).length = 9 + x.length + b.length := by rw [List.length_append, hlb]
  have hc : (UInt8.ofNat x.length).toNat = x.length := by rw [UInt8.toNat_ofNat', Nat.mod_eq_of_lt (by omega)]
  have hform : stoneB x ++ b = 84 :: 79 :: 77 :: 66 :: UInt8.ofNat x.length :: (x ++ (le4 (sumL (stoneH x)) ++ b)) := by simp [stoneB, stoneH, tomb]
  have h4 : (stoneB x ++ b).take 4 = tomb := by rw [hform]; rfl
  have hn : nlen (stoneB x ++ b) 4 = x.length := by rw [hform]; exact hc
  have h5 : (stoneB x ++ b).drop 5 = x ++ (le4 (sumL (stoneH x)) ++ b) := by rw [hform]; rfl
  have htk : (stoneB x ++ b).take (5 + x.length) = stoneH x := by
    rw [stoneB, List.append_assoc, ← stoneH_len x, List.take_left]
  have hnum : numAt (stoneB x ++ b) (5 + x.length) 4 = (sumL (stoneH x)).toNat := by
    unfold numAt
    rw [stoneB, List.append_assoc, ← stoneH_len x, List.drop_left]
    exact leN_take4 _ _
  rw [if_neg (fun h => h.2 h4), hn, if_neg (by rw [hlen]; omega), hnum, htk, if_neg (fun h => h rfl), h5, List.take_left, if_neg (by rw [h]; decide)]
/-! ### Tables in variables -/
theorem mk_tab {w : World} {K : World → World → Prop} (hK : ∀ w4 w7, Kp none_ w w7 → Tab w7 ⟨w4.heap.size, 0, none⟩ → w.heap.size ≤ w4.heap.size → w4.heap.size < w7.heap.size → K w4 w7) :
    Rets Tryd.prog 26 #[] w fun v w4 => ∃ x : Array Value, v = .agg x ∧ Keeps w w4 [] ∧ Runs Tryd.prog (Instr.storeAt 25 (.pointer (some ⟨w4.heap.size, 0, none⟩)) (.agg x)) (w4.alloc (.cells (zeroA Tryd.prog 25) 25)) fun _ w7 => Keeps (w4.alloc (.cells (zeroA Tryd.prog 25) 25)) w7 [] ∧ K w4 w7 := by
  refine (c26 w).mono ?_
  rintro v w4 ⟨rfl, k4⟩
  have b := Big.new w4 (zeroA Tryd.prog 25) 25
  have ka : Kp none_ w4 (w4.alloc (.cells (zeroA Tryd.prog 25) 25)) := (Kp.refl none_ _).alloc1 _
  refine ⟨_, rfl, k4.keeps0, store_big b info25 (by rw [tabCells_len, size25]) (by rw [tabCells_len, zero25]) (fun v hv => ?_) fun w7 b7 k7 => ?_⟩
  · obtain ⟨i, _, rfl⟩ := List.mem_map.1 hv
    simp [Value.oneCell']
  · have hz := k4.size
    refine ⟨k7.keeps0, hK w4 w7 ?_ (fun i hi => ?_) hz b7.lt⟩
    · exact ((k4.trans ka).wide.trans (k7.mono fun i _ hi => by have hi : i = w4.heap.size := hi; show w.heap.size ≤ i; omega)).narrow (Nat.le_refl _)
    · rw [ad_add, Nat.zero_add, b7.cell]
      exact tabCells_get hi
end Go.Proofs.YtbpknjldphckgaaDoor
