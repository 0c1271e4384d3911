import Derived.Test.YtbpknjldphckgaaDoorQg
namespace Go.Proofs.YtbpknjldphckgaaDoor
open Go Go.SX Go.SX.Crc Go.Proofs Go.Lib
set_option maxRecDepth 100000
set_option linter.unusedVariables false
set_option linter.unusedSimpArgs false
/-! ### Tombstones, taken -/
theorem beq_ba (l : List UInt8) (t : ByteArray) : ((ba l).toList == t.toList) = (l == bytesL t) := by rw [ByteArray.toList_eq, ByteArray.toList_eq, ba_list]
theorem c33 {w : World} {q : Option Addr} {c : Nat} {l : List UInt8} (hb : BytesAt w q (ba l)) (hc : l.length ≤ c) (hl : l.length ≤ 1000000000) (a : Int) : Rets Tryd.prog 33 #[.slice q l.length c, .int .i64 a] w fun v w' => v = .bool (decide (0 ≤ a ∧ a + 4 ≤ l.length) && (l.drop a.toNat).take 4 == tomb) ∧ w' = w := by
  refine ent [_, _] Tryd.func33 ((vcTryd33 _ _ _ _ w _).mpr ?_)
  unfold VCTryd33
  refine bif_dec (fun h0 => wr64 (by omega) (bif_dec (fun h1 => wr64 (by omega) ⟨by omega, by omega, ba ((l.drop a.toNat).take 4), ?_, ?_, _, rfl, ?_, rfl⟩) (fun h1 => ⟨_, rfl, ?_, rfl⟩))) (fun h0 => ⟨_, rfl, ?_, rfl⟩)
  · rw [ba_size, List.length_take, List.length_drop]; omega
  · exact bytes_drop hb (by omega) hc
  · rw [beq_ba, decide_eq_true ⟨by omega, by omega⟩]; rfl
  · rw [decide_eq_false (by omega)]; rfl
  · rw [decide_eq_false (by omega)]; rfl
/-- The name's length that stands behind a mark. -/
def nlen (m : List UInt8) (i : Nat) : Nat := (m.getD i 0).toNat
/-- What is taken: the name, the place behind, the error. -/
def stoneF (l : List UInt8) (a : Int) : List UInt8 × Int × Int :=
  if a < 0 ∨ a > l.length then ([], 0, 1) else
  let m := l.drop a.toNat
  if 4 ≤ m.length ∧ m.take 4 ≠ tomb then ([], 0, 3) else
  if m.length < 5 ∨ m.length < 9 + nlen m 4 then ([], 0, 2) else
  if numAt m (5 + nlen m 4) 4 ≠ (sumL (m.take (5 + nlen m 4))).toNat then ([], 0, 4) else
  if okName ((m.drop 5).take (nlen m 4)) = false then ([], 0, 6) else
  ((m.drop 5).take (nlen m 4), a + (9 + nlen m 4 : Nat), 0)
theorem nlen_eq {m : List UInt8} {i : Nat} (h : i < m.length) : nlen m i = (m[i]).toNat := by unfold nlen; rw [getD_at h]
theorem numAt_one {m : List UInt8} {i : Nat} (h : i < m.length) : numAt m i 1 = nlen m i := by
  unfold numAt
  rw [nlen_eq h, List.drop_eq_getElem_cons h, List.take_succ_cons, List.take_zero, leN, leN]
  omega
theorem width1 : widthI 1 = 1 := by decide
theorem width4 : widthI 4 = 4 := by decide
/-- All that a tombstone's reader reads. -/
def rdS (m : List UInt8) : Nat × Bool := (bytR m 4 (0, false)).2
def rdN (m : List UInt8) : Nat × Nat × Bool := numR m 1 (rdS m)
def rdB (m : List UInt8) : List UInt8 × Nat × Bool := bytR m (rdN m).1 (rdN m).2
def rdG (m : List UInt8) : Nat × Nat × Bool := numR m 4 (rdB m).2
theorem stone_read (m : List UInt8) : (rdN m).1 < 256 ∧
    ((rdG m).2.2 = true ∧ (m.length < 5 ∨ m.length < 9 + nlen m 4) ∨ (rdG m).2.2 = false ∧ ¬ (m.length < 5 ∨ m.length < 9 + nlen m 4) ∧ (rdB m).1 = (m.drop 5).take (nlen m 4) ∧ (rdB m).2.1 = 5 + nlen m 4 ∧ (rdG m).1 = numAt m (5 + nlen m 4) 4 ∧ (rdG m).2.1 = 9 + nlen m 4) := by
  unfold rdG rdB rdN rdS
  by_cases h4 : 4 ≤ m.length
  · have e1 : bytR m 4 (0, false) = (m.take 4, 4, false) := by
      unfold bytR
      rw [if_neg (by simp), if_neg (by simp; omega)]
      simp
    rw [e1]
    by_cases h5 : 5 ≤ m.length
    · have e2 : numR m 1 (4, false) = (nlen m 4, 5, false) := by
        unfold numR
        rw [if_neg (by simp), width1, if_pos (by omega), numAt_one (by omega)]
      have hn : nlen m 4 < 256 := by rw [nlen_eq (by omega)]; exact UInt8.toNat_lt _
      simp only [e2]
      refine ⟨hn, ?_⟩
      by_cases hb : 5 + nlen m 4 ≤ m.length
      · have e3 : bytR m (nlen m 4 : Nat) (5, false) = ((m.drop 5).take (nlen m 4), 5 + nlen m 4, false) := by
          unfold bytR
          rw [if_neg (by simp), if_neg (by simp; omega)]
          simp
        rw [e3]
        by_cases h9 : 9 + nlen m 4 ≤ m.length
        · have e4 : numR m 4 (5 + nlen m 4, false) = (numAt m (5 + nlen m 4) 4, 9 + nlen m 4, false) := by
            unfold numR
            rw [if_neg (by simp), width4, if_pos (by show 5 + nlen m 4 + 4 ≤ _; omega)]
            simp only [Prod.mk.injEq, true_and, and_true]
            omega
          rw [e4]
          exact .inr ⟨rfl, by omega, rfl, rfl, rfl, rfl⟩
        · have e4 : (numR m 4 (5 + nlen m 4, false)).2.2 = true := by
            unfold numR
            rw [if_neg (by simp), width4, if_neg (by show ¬ 5 + nlen m 4 + 4 ≤ _; omega)]
          exact .inl ⟨e4, by omega⟩
      · have e3 : bytR m (nlen m 4 : Nat) (5, false) = ([], 5, true) := by
          unfold bytR
          rw [if_neg (by simp), if_pos (by simp; omega)]
        rw [e3]
        exact .inl ⟨rfl, by omega⟩
    · have e2 : numR m 1 (4, false) = (0, 4, true) := by
        unfold numR
        rw [if_neg (by simp), width1, if_neg (by show ¬ 4 + 1 ≤ _; omega)]
      rw [e2]
      exact ⟨by show 0 < 256; omega, .inl ⟨rfl, by omega⟩⟩
  · have e1 : bytR m 4 (0, false) = ([], 0, true) := by
      unfold bytR
      rw [if_neg (by simp), if_pos (by simp; omega)]
    rw [e1]
    exact ⟨by show 0 < 256; omega, .inl ⟨rfl, by omega⟩⟩
theorem num_lt (l : List UInt8) (a : Nat) : numAt l a 4 < 4294967296 := leN_lt32 (by rw [List.length_take]; omega)
theorem empty_ba : (ByteArray.mk #[]) = ba [] := rfl
theorem c31 {w : World} (hm : ML w) {t : Addr} (ht : Tab w t) {q : Option Addr} {c : Nat} {l : List UInt8} (hb : BytesAt w q (ba l)) (hc : l.length ≤ c) (hl : l.length ≤ 1000000) (a : Int) :
    Rets Tryd.prog 31 #[.pointer (some t), .slice q l.length c, .int .i64 a] w fun v w' => v = .tuple #[.string (ba (stoneF l a).1), .int .i64 (stoneF l a).2.1, .int .i64 (stoneF l a).2.2] ∧ Kp none_ w w' := by
  refine ent [_, _, _] Tryd.func31 ((vcTryd31 _ _ _ _ _ w _).mpr ?_)
  unfold VCTryd31
  simp only [empty_ba]
  generalize hF : stoneF l a = F
  have hF0 : (a < 0 ∨ a > l.length) → F = ([], 0, 1) := fun h => by rw [← hF]; unfold stoneF; rw [if_pos h]
  refine bif_dec (fun h => ⟨_, rfl, by rw [hF0 (.inl h)], Kp.refl _ _⟩) (fun h0 => bif_dec (fun h => ⟨_, rfl, by rw [hF0 (.inr h)], Kp.refl _ _⟩) (fun h1 => ?_))
  obtain ⟨A, rfl⟩ := Int.eq_ofNat_of_zero_le (show 0 ≤ a by omega)
  have hA : A ≤ l.length := by omega
  have hdl : (l.drop A).length = l.length - A := List.length_drop
  simp only [Int.toNat_natCast]
  have hF1 : F = (if 4 ≤ (l.drop A).length ∧ (l.drop A).take 4 ≠ tomb then ([], 0, 3) else
      if (l.drop A).length < 5 ∨ (l.drop A).length < 9 + nlen (l.drop A) 4 then ([], 0, 2) else
      if numAt (l.drop A) (5 + nlen (l.drop A) 4) 4 ≠ (sumL ((l.drop A).take (5 + nlen (l.drop A) 4))).toNat then ([], 0, 4) else
      if okName (((l.drop A).drop 5).take (nlen (l.drop A) 4)) = false then ([], 0, 6) else
      (((l.drop A).drop 5).take (nlen (l.drop A) 4), (A : Int) + (9 + nlen (l.drop A) 4 : Nat), 0)) := by
    rw [← hF]; unfold stoneF; rw [if_neg (by omega)]; rfl
  clear hF hF0
  have hbm := bytes_from hb hA hc
  have hcap : (l.drop A).length ≤ c - A := by omega
  have htk : ∀ k, k ≤ (l.drop A).length → BytesAt w (cutA q c A 1) (ba ((l.drop A).take k)) := fun k hk => by
    have := bytes_drop hb (a := A) (k := k) (by omega) hc
    exact this
  refine wr64 (by omega) (bif_dec (fun h4 => (c33 hb hc (by omega) A).mono ?_) (fun h4 => ?_))
  · rintro v wx ⟨rfl, e⟩
    obtain rfl := e.symm
    rw [decide_eq_true ⟨by omega, by omega⟩, Bool.true_and, Int.toNat_natCast]
    refine ⟨_, rfl, (Kp.refl none_ _).keeps0, bif_not (fun hbad => ⟨_, rfl, ?_, Kp.refl _ _⟩) (fun hgood => ⟨⟨by omega, by omega⟩, ?_⟩)⟩
    · rw [hF1, if_pos ⟨by omega, by simpa using hbad⟩]
    rw [if_neg (fun h => h.2 (by simpa using hgood))] at hF1
    rw [← hdl]
    refine (c109 hbm hcap).mono ?_
    rintro v w2 ⟨rfl, k2, d2⟩
    have z2 : w.heap.size < w2.heap.size := d2.lt
    refine ⟨_, rfl, k2.keeps0, ?_⟩
    have h4' : (l.drop A).length ≤ 1000000000 := by omega
    refine (c110 d2 h4' 4 (by omega)).mono ?_
    rintro v w3 ⟨q3, c3, rfl, _, _, k3, d3⟩
    refine ⟨_, _, _, rfl, k3.keeps0, (c111 d3 h4' 1).mono ?_⟩
    rintro v w4 ⟨rfl, k4, d4⟩
    obtain ⟨hn, hcase⟩ := stone_read (l.drop A)
    have eN : numR (l.drop A) 1 (bytR (l.drop A) 4 (0, false)).2 = rdN (l.drop A) := rfl
    rw [eN] at d4 ⊢
    refine ⟨_, rfl, k4.keeps0, wr64 (by omega) ((c110 d4 h4' _ (by omega)).mono ?_)⟩
    have eB : bytR (l.drop A) ((rdN (l.drop A)).1 : Int) (rdN (l.drop A)).2 = rdB (l.drop A) := rfl
    rw [eB]
    rintro v w5 ⟨q5, c5, rfl, _, b5, k5, d5⟩
    refine ⟨_, _, _, rfl, k5.keeps0, ba (rdB (l.drop A)).1, ba_size _, b5, (c112 d5).mono ?_⟩
    rintro v wx ⟨rfl, e⟩
    obtain rfl := e.symm
    have hle := d5.le
    have kk : Kp (fun i => w.heap.size ≤ i) w w5 := ((k2.wide.trans (k3.mono fun i _ h => Nat.le_of_eq h.symm)).trans (k4.mono fun i _ h => Nat.le_of_eq h.symm)).trans (k5.mono fun i _ h => Nat.le_of_eq h.symm)
    refine ⟨_, rfl, (Kp.refl none_ _).keeps0, wr64 (by omega) ⟨by omega, by omega, ?_⟩⟩
    have etk : ((l.drop A).take (rdB (l.drop A)).2.1).length = (rdB (l.drop A)).2.1 := by rw [List.length_take]; omega
    have e1 : ((A : Int) + ((rdB (l.drop A)).2.1 : Int)).toNat - A = ((l.drop A).take (rdB (l.drop A)).2.1).length := by rw [etk]; omega
    rw [e1]
    refine (c106 (ht.far kk (Nat.le_refl _)) ((htk _ hle).far kk (Nat.le_refl _)) (by rw [etk]; omega)).mono ?_
    rintro v wx ⟨rfl, e⟩
    obtain rfl := e.symm
    refine ⟨_, rfl, (Kp.refl none_ _).keeps0, (c111 d5 h4' 4).mono ?_⟩
    have eG : numR (l.drop A) 4 (rdB (l.drop A)).2 = rdG (l.drop A) := rfl
    rw [eG]
    rintro v w6 ⟨rfl, k6, d6⟩
    have k06 : Kp none_ w w6 := (kk.trans (k6.mono fun i _ h => Nat.le_of_eq h.symm)).narrow (Nat.le_refl _)
    refine ⟨_, rfl, k6.keeps0, (c113 d6).mono ?_⟩
    rintro v wx ⟨rfl, e⟩
    obtain rfl := e.symm
    refine ⟨_, rfl, (Kp.refl none_ _).keeps0, ?_⟩
    rcases hcase with ⟨g1, g2⟩ | ⟨g1, g2, g3, g4, g5, g6⟩
    · rw [g1]
      rw [if_pos g2] at hF1
      exact ⟨_, rfl, by rw [hF1], k06⟩
    rw [g1]
    rw [if_neg g2] at hF1
    rw [g3, g4, g5]
    refine bif_ne (fun hne => ⟨_, rfl, ?_, k06⟩) (fun heq => ?_)
    · rw [if_pos (fun h => hne (by rw [h]))] at hF1
      rw [hF1]
    rw [if_neg (fun h => h (by exact_mod_cast heq))] at hF1
    refine (c104 (hm.kp0 k06) _).mono ?_
    rintro v w7 ⟨rfl, k7⟩
    have ebl : bytesL (ba (((l.drop A).drop 5).take (nlen (l.drop A) 4))) = ((l.drop A).drop 5).take (nlen (l.drop A) 4) := ba_list _
    rw [ebl]
    refine ⟨_, rfl, k7.keeps0, bif_not (fun hb => ⟨_, rfl, ?_, k06.trans k7⟩) (fun hb => (c112 (d6.kp0 k7)).mono ?_)⟩
    · rw [if_pos hb] at hF1
      rw [hF1]
    · rintro v wx ⟨rfl, e⟩
      obtain rfl := e.symm
      rw [if_neg (by rw [hb]; decide)] at hF1
      refine ⟨_, rfl, (Kp.refl none_ _).keeps0, wr64 (by omega) ⟨_, rfl, ?_, k06.trans k7⟩⟩
      rw [hF1, g6]
  · rw [if_neg (fun h => by omega)] at hF1
    refine ⟨⟨by omega, by omega⟩, ?_⟩
    rw [← hdl]
    refine (c109 hbm hcap).mono ?_
    rintro v w2 ⟨rfl, k2, d2⟩
    have z2 : w.heap.size < w2.heap.size := d2.lt
    refine ⟨_, rfl, k2.keeps0, ?_⟩
    have h4' : (l.drop A).length ≤ 1000000000 := by omega
    refine (c110 d2 h4' 4 (by omega)).mono ?_
    rintro v w3 ⟨q3, c3, rfl, _, _, k3, d3⟩
    refine ⟨_, _, _, rfl, k3.keeps0, (c111 d3 h4' 1).mono ?_⟩
    rintro v w4 ⟨rfl, k4, d4⟩
    obtain ⟨hn, hcase⟩ := stone_read (l.drop A)
    have eN : numR (l.drop A) 1 (bytR (l.drop A) 4 (0, false)).2 = rdN (l.drop A) := rfl
    rw [eN] at d4 ⊢
    refine ⟨_, rfl, k4.keeps0, wr64 (by omega) ((c110 d4 h4' _ (by omega)).mono ?_)⟩
    have eB : bytR (l.drop A) ((rdN (l.drop A)).1 : Int) (rdN (l.drop A)).2 = rdB (l.drop A) := rfl
    rw [eB]
    rintro v w5 ⟨q5, c5, rfl, _, b5, k5, d5⟩
    refine ⟨_, _, _, rfl, k5.keeps0, ba (rdB (l.drop A)).1, ba_size _, b5, (c112 d5).mono ?_⟩
    rintro v wx ⟨rfl, e⟩
    obtain rfl := e.symm
    have hle := d5.le
    have kk : Kp (fun i => w.heap.size ≤ i) w w5 := ((k2.wide.trans (k3.mono fun i _ h => Nat.le_of_eq h.symm)).trans (k4.mono fun i _ h => Nat.le_of_eq h.symm)).trans (k5.mono fun i _ h => Nat.le_of_eq h.symm)
    refine ⟨_, rfl, (Kp.refl none_ _).keeps0, wr64 (by omega) ⟨by omega, by omega, ?_⟩⟩
    have etk : ((l.drop A).take (rdB (l.drop A)).2.1).length = (rdB (l.drop A)).2.1 := by rw [List.length_take]; omega
    have e1 : ((A : Int) + ((rdB (l.drop A)).2.1 : Int)).toNat - A = ((l.drop A).take (rdB (l.drop A)).2.1).length := by rw [etk]; omega
    rw [e1]
    refine (c106 (ht.far kk (Nat.le_refl _)) ((htk _ hle).far kk (Nat.le_refl _)) (by rw [etk]; omega)).mono ?_
    rintro v wx ⟨rfl, e⟩
    obtain rfl := e.symm
    refine ⟨_, rfl, (Kp.refl none_ _).keeps0, (c111 d5 h4' 4).mono ?_⟩
    have eG : numR (l.drop A) 4 (rdB (l.drop A)).2 = rdG (l.drop A) := rfl
    rw [eG]
    rintro v w6 ⟨rfl, k6, d6⟩
    have k06 : Kp none_ w w6 := (kk.trans (k6.mono fun i _ h => Nat.le_of_eq h.symm)).narrow (Nat.le_refl _)
    refine ⟨_, rfl, k6.keeps0, (c113 d6).mono ?_⟩
    rintro v wx ⟨rfl, e⟩
    obtain rfl := e.symm
    refine ⟨_, rfl, (Kp.refl none_ _).keeps0, ?_⟩
    rcases hcase with ⟨g1, g2⟩ | ⟨g1, g2, g3, g4, g5, g6⟩
    · rw [g1]
      rw [if_pos g2] at hF1
      exact ⟨_, rfl, by rw [hF1], k06⟩
    rw [g1]
    rw [if_neg g2] at hF1
    rw [g3, g4, g5]
    refine bif_ne (fun hne => ⟨_, rfl, ?_, k06⟩) (fun heq => ?_)
    · rw [if_pos (fun h => hne (by rw [h]))] at hF1
      rw [hF1]
    rw [if_neg (fun h => h (by exact_mod_cast heq))] at hF1
    refine (c104 (hm.kp0 k06) _).mono ?_
    rintro v w7 ⟨rfl, k7⟩
    have ebl : bytesL (ba (((l.drop A).drop 5).take (nlen (l.drop A) 4))) = ((l.drop A).drop 5).take (nlen (l.drop A) 4) := ba_list _
    rw [ebl]
    refine ⟨_, rfl, k7.keeps0, bif_not (fun hb => ⟨_, rfl, ?_, k06.trans k7⟩) (fun hb => (c112 (d6.kp0 k7)).mono ?_)⟩
    · rw [if_pos hb] at hF1
      rw [hF1]
    · rintro v wx ⟨rfl, e⟩
      obtain rfl := e.symm
      rw [if_neg (by rw [hb]; decide)] at hF1
      refine ⟨_, rfl, (Kp.refl none_ _).keeps0, wr64 (by omega) ⟨_, rfl, ?_, k06.trans k7⟩⟩
      rw [hF1, g6]
end Go.Proofs.YtbpknjldphckgaaDoor
