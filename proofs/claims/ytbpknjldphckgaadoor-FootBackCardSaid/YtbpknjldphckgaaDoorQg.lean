import Derived.Test.YtbpknjldphckgaaDoorQf
namespace Go.Proofs.YtbpknjldphckgaaDoor
open Go Go.SX Go.SX.Crc Go.Proofs Go.Lib
set_option maxRecDepth 100000
set_option linter.unusedVariables false
set_option linter.unusedSimpArgs false
/-! ### Tombstones -/
theorem und5 : Tryd.prog.underlying 5 = some (.int .u8) := Tryd.underlying5
theorem cut_zero (q : Option Addr) (c : Nat) : cutA q c 0 1 = q := by
  unfold cutA
  split
  · rfl
  · cases q <;> simp [Addr.add]
theorem byte_cell (x : UInt8) : strCells (ba [x]) = [.int .u8 x.toNat] := by simp [strCells, ba]
theorem c105 {w : World} {E : Nat} {q : Option Addr} {n c : Nat} {l : List UInt8} (h : Buf w E 5 (.slice q n c) l) (hE : E ≤ w.heap.size) (hl : l.length ≤ 1000000000) (X : W32) :
    Rets Tryd.prog 105 #[.slice q n c, .int .u32 X.toNat, .int .i64 4] w fun v w' => Buf w' E 5 v (l ++ le4 X) ∧ Kp (fun i => E ≤ i) w w' := by
  refine ent [_, _, _] Tryd.func105 ((vcTryd105 _ _ _ _ _ w _).mpr ?_)
  unfold VCTryd105
  refine (c157 4 w).mono ?_
  rintro v wx ⟨rfl, e⟩
  obtain rfl := e.symm
  refine ⟨_, rfl, (Kp.refl none_ _).keeps0, ?_⟩
  refine ⟨fun i m q n c w' => ∃ j : Nat, i = j ∧ j ≤ 4 ∧ m = ((X >>> (8 * j)).toNat : Int) ∧ Buf w' E 5 (.slice q n c) (l ++ (le4 X).take j) ∧ Kp (fun i => E ≤ i) w w', fun i _ _ _ _ _ => (4 - i).toNat, ⟨0, rfl, by omega, by simp, by simpa using h, Kp.refl _ _⟩, ?_⟩
  rintro i m q n c w1 ⟨j, rfl, hj, rfl, b1, k1⟩
  have hE1 : E ≤ w1.heap.size := Nat.le_trans hE k1.size
  have h4 : (widthI 4 : Int) = 4 := by decide
  rw [h4]
  refine bif_dec (fun hlt => ?_) (fun hge => ⟨_, rfl, ?_, k1⟩)
  · have hj' : j < 4 := by omega
    have hX := X.isLt
    refine wrm8 ?_
    have e1 : (X >>> (8 * j)).toNat = X.toNat / 2 ^ (8 * j) := by rw [BitVec.toNat_ushiftRight, Nat.shiftRight_eq_div_pow]
    have e2 : (((X >>> (8 * j)).toNat : Int) % 256) = (((le4 X)[j]'(by rw [le4_len]; exact hj')).toNat : Int) := by
      rw [e1]
      have hc : j = 0 ∨ j = 1 ∨ j = 2 ∨ j = 3 := by omega
      rcases hc with rfl | rfl | rfl | rfl <;> simp only [le4, List.getElem_cons_zero, List.getElem_cons_succ, UInt8.toNat_ofNat'] <;> simp <;> omega
    rw [e2]
    refine buf_lit (new := [(le4 X)[j]'(by rw [le4_len]; exact hj')]) und27 byte5 b1 hE1 (by rw [byte_cell]) rfl (by simp [le4_len]; omega) fun v2 w2 b2 k2 kp2 => ?_
    rw [List.append_assoc, ← List.take_succ_eq_append_getElem] at b2
    obtain ⟨q2, c2, rfl, _, _⟩ := b2.slice
    refine ⟨_, _, _, rfl, kp2, by omega, wr64 (by omega) ⟨⟨j + 1, by omega, by omega, ?_, ?_, k1.trans k2⟩, by first | omega | (dsimp only; omega)⟩⟩
    · rw [show (8 : Int) = ((8 : Nat) : Int) by rfl, shr32 _ (by omega)]
      congr 2
    · exact b2
  · have : j = 4 := by omega
    subst this
    rw [List.take_of_length_le (by rw [le4_len]; omega)] at b1
    exact b1
theorem c120 (X : W32) (w : World) : Rets Tryd.prog 120 #[.int .u32 X.toNat, .int .i64 4] w fun v w' => Buf w' w.heap.size 5 v (le4 X) ∧ Kp none_ w w' := by
  refine ent [_, _] Tryd.func120 ((vcTryd120 _ _ w _).mpr ?_)
  unfold VCTryd120
  have hX := X.isLt
  have tm : ∀ (y : Nat), (y : Int).tmod 256 = ((y % 256 : Nat) : Int) := fun y => by rw [Int.tmod_eq_emod_of_nonneg (by omega)]; omega
  have td : ∀ (y : Nat), (y : Int).tdiv 256 = ((y / 256 : Nat) : Int) := fun y => by rw [Int.tdiv_eq_ediv_of_nonneg (by omega)]; omega
  have byt : ∀ (j : Nat) (hj : j < 4), ((X.toNat / 256 ^ j % 256 : Nat) : Int) = (((le4 X)[j]'(by rw [le4_len]; exact hj)).toNat : Int) := fun j hj => by
    have hc : j = 0 ∨ j = 1 ∨ j = 2 ∨ j = 3 := by omega
    rcases hc with rfl | rfl | rfl | rfl <;> simp only [le4, List.getElem_cons_zero, List.getElem_cons_succ, UInt8.toNat_ofNat'] <;> simp <;> omega
  refine ⟨by decide, ?_⟩
  rw [tm]
  refine wr8 (by omega) ?_
  have b0 : Buf (w.alloc (.cells #[.int .u8 ((X.toNat % 256 : Nat) : Int)] 5)) w.heap.size 5 (.slice (some ⟨w.heap.size, 0, none⟩) 1 1) ((le4 X).take 1) := by
    refine .inr ⟨w.heap.size, 1, _, (0, 0), rfl, Nat.le_refl _, by rw [alloc_get, if_pos rfl], .inl rfl, by simp [le4], by simp [maxLen], rfl, ?_⟩
    simp [le4, strCells, ba]
  refine ⟨fun i q n c m w' => ∃ j : Nat, i = j ∧ 1 ≤ j ∧ j ≤ 4 ∧ m = ((X.toNat / 256 ^ (j - 1) : Nat) : Int) ∧ Buf w' w.heap.size 5 (.slice q n c) ((le4 X).take j) ∧ Kp (fun i => w.heap.size ≤ i) w w', fun i _ _ _ _ _ => (4 - i).toNat, ⟨1, rfl, by omega, by omega, by simp, b0, (Kp.refl _ w).alloc1 _⟩, ?_⟩
  rintro i q n c m w1 ⟨j, rfl, h1, hj, rfl, b1, k1⟩
  refine (c164 4 w1).mono ?_
  rintro v wx ⟨rfl, e⟩
  obtain rfl := e.symm
  have h4 : (widthI 4 : Int) = 4 := by decide
  rw [h4]
  refine ⟨_, rfl, (Kp.refl none_ _).keeps0, bif_dec (fun hlt => ⟨by decide, ?_⟩) (fun hge => ⟨_, rfl, ?_, k1.narrow (Nat.le_refl _)⟩)⟩
  · have hj' : j < 4 := by omega
    have e0 : X.toNat / 256 ^ j = X.toNat / 256 ^ (j - 1) / 256 := by
      rw [Nat.div_div_eq_div_mul, ← Nat.pow_succ]
      congr 2
      omega
    have hb := byt j hj'
    have hle : X.toNat / 256 ^ (j - 1) ≤ X.toNat := Nat.div_le_self _ _
    rw [e0] at hb
    generalize X.toNat / 256 ^ (j - 1) = y at *
    rw [td]
    refine wr32 (by omega) ⟨by decide, ?_⟩
    rw [tm]
    refine wr8 (by omega) ?_
    rw [hb]
    refine buf_lit (new := [(le4 X)[j]'(by rw [le4_len]; exact hj')]) und27 byte5 b1 k1.size (by rw [byte_cell]) rfl (by simp [le4_len]; omega) fun v2 w2 b2 k2 kp2 => ?_
    rw [← List.take_succ_eq_append_getElem] at b2
    obtain ⟨q2, c2, rfl, _, _⟩ := b2.slice
    refine ⟨_, _, _, rfl, kp2, wr64 (by omega) ⟨⟨j + 1, by omega, by omega, by omega, by rw [Nat.add_sub_cancel, e0], ?_, k1.trans k2⟩, by first | omega | (dsimp only; omega)⟩⟩
    exact b2
  · have : j = 4 := by omega
    subst this
    rw [List.take_of_length_le (by rw [le4_len]; omega)] at b1
    exact b1
theorem c108 {w : World} {q : Option Addr} {c : Nat} {l : List UInt8} (hb : BytesAt w q (ba l)) (hl : l.length ≤ 100000000) : Rets Tryd.prog 108 #[.slice q l.length c] w fun v w' => Buf w' w.heap.size 5 v (l ++ le4 (sumL l)) ∧ Kp none_ w w' := by
  refine ent [_] Tryd.func108 ((vcTryd108 _ _ _ w _).mpr ?_)
  unfold VCTryd108
  refine lit_buf und27 byte5 fun v1 w1 b1 k1 => ?_
  obtain ⟨q1, c1, rfl, _, _⟩ := b1.slice
  refine ⟨_, _, _, rfl, k1.keeps0, buf_app und27 byte5 b1 k1.size rfl (hb.kp0 k1) (by simp; omega) fun v2 w2 b2 k2 => ?_⟩
  rw [List.nil_append] at b2
  obtain ⟨q2, c2, rfl, _, _⟩ := b2.slice
  have k02 : Kp none_ w w2 := (k1.wide.trans k2).narrow (Nat.le_refl _)
  refine ⟨_, _, _, rfl, k2.keeps0, (c115 (hb.kp0 k02) (by omega)).mono ?_⟩
  rintro v wx ⟨rfl, e⟩
  obtain rfl := e.symm
  refine ⟨_, rfl, (Kp.refl none_ _).keeps0, (c120 (sumL l) w2).mono ?_⟩
  rintro v w3 ⟨b3, k3⟩
  obtain ⟨q3, c3, rfl, _, _⟩ := b3.slice
  have k03 := k02.trans k3
  refine ⟨_, _, _, rfl, k3.keeps0, buf_app und27 byte5 (b2.kp0 k3) k03.size rfl b3.bytes (by simp [le4_len]; omega) fun v4 w4 b4 k4 => ?_⟩
  obtain ⟨q4, c4, rfl, _, _⟩ := b4.slice
  exact ⟨_, _, _, rfl, k4.keeps0, _, rfl, b4, (k03.wide.trans k4).narrow (Nat.le_refl _)⟩
theorem c114 {w : World} {q : Option Addr} {c : Nat} {l : List UInt8} (hb : BytesAt w q (ba l)) (hl : l.length ≤ 1000000000) (a : Nat) (ha : a + 4 ≤ l.length) : Rets Tryd.prog 114 #[.slice q l.length c, .int .i64 a, .int .i64 4] w fun v w' => v = .int .i64 (numAt l a 4) ∧ w' = w := by
  refine ent [_, _, _] Tryd.func114 ((vcTryd114 _ _ _ _ _ w _).mpr ?_)
  unfold VCTryd114
  refine (c160 hb hl a 4 (by omega)).mono ?_
  rintro v wx ⟨hv, e⟩
  obtain rfl := e.symm
  have h4 : widthI 4 = 4 := by decide
  rw [h4, Int.toNat_natCast, if_pos ⟨by omega, ha⟩] at hv
  subst hv
  have : numAt l a 4 < 4294967296 := leN_lt32 (by rw [List.length_take]; omega)
  exact ⟨_, _, rfl, (Kp.refl none_ _).keeps0, wr64 (by omega) ⟨_, rfl, rfl, rfl⟩⟩
def tomb : List UInt8 := [84, 79, 77, 66]
/-- What stands ahead of a tombstone's sum. -/
def stoneH (l : List UInt8) : List UInt8 := tomb ++ [UInt8.ofNat l.length] ++ l
def stoneB (l : List UInt8) : List UInt8 := stoneH l ++ le4 (sumL (stoneH l))
theorem stoneH_len (l : List UInt8) : (stoneH l).length = 5 + l.length := by simp [stoneH, tomb]; omega
theorem stoneB_len (l : List UInt8) : (stoneB l).length = 9 + l.length := by rw [stoneB, List.length_append, stoneH_len, le4_len]; omega
theorem okName_len {l : List UInt8} (h : okName l = true) : l.length ≤ 64 := by
  unfold okName at h
  rw [Bool.and_eq_true] at h
  exact of_decide_eq_true h.1
theorem c28 (s : ByteArray) (hs : s.size ≤ 1000000000) (w : World) : Rets Tryd.prog 28 #[.string s] w fun v w' => v = .int .i64 (9 + s.size) ∧ w' = w := by
  refine ent [_] Tryd.func28 ((vcTryd28 _ w _).mpr ?_)
  unfold VCTryd28
  exact wr64 (by omega) ⟨_, rfl, rfl, rfl⟩
theorem c27 {w : World} (hm : ML w) {t : Addr} (ht : Tab w t) (s : ByteArray) : Rets Tryd.prog 27 #[.pointer (some t), .string s] w fun v w' =>
    ∃ q n c, v = .tuple #[.slice q n c, .int .i64 (if okName (bytesL s) = true then 0 else 6)] ∧ Buf w' w.heap.size 5 (.slice q n c) (if okName (bytesL s) = true then stoneB (bytesL s) else []) ∧ Kp none_ w w' := by
  refine ent [_, _] Tryd.func27 ((vcTryd27 _ _ w _).mpr ?_)
  unfold VCTryd27
  refine (c104 hm s).mono ?_
  rintro v w1 ⟨rfl, k1⟩
  refine ⟨_, rfl, k1.keeps0, bif_not (fun hb => ⟨_, rfl, none, 0, 0, ?_, ?_, k1⟩) (fun hb => ?_)⟩
  · rw [if_neg (by rw [hb]; decide)]
  · rw [if_neg (by rw [hb]; decide)]; exact Buf.nil _ _ _
  rw [if_pos hb, if_pos hb]
  have hsz := okName_len hb
  have hss := bytesL_size s
  refine conv_lit (new := tomb) und27 und5 (by simp [tomb, strCells, ba]) rfl (by simp [maxLen]) fun v2 w2 b2 k2 kp2 => ?_
  obtain ⟨q2, c2, rfl, _, _⟩ := b2.slice
  have b2 := b2.up k1.size
  have k02 := k1.trans k2
  refine ⟨_, _, _, rfl, kp2, wr8 (by omega) ?_⟩
  refine buf_lit (new := [UInt8.ofNat (bytesL s).length]) und27 byte5 b2 k02.size (by rw [byte_cell, UInt8.toNat_ofNat', hss, Nat.mod_eq_of_lt (by omega)]) rfl (by simp [tomb]) fun v3 w3 b3 k3 kp3 => ?_
  obtain ⟨q3, c3, rfl, _, _⟩ := b3.slice
  have k03 : Kp (fun i => w.heap.size ≤ i) w w3 := k02.wide.trans k3
  refine ⟨_, _, _, rfl, kp3, buf_str und27 und9 byte5 b3 k03.size s (by simp [tomb]; omega) fun v4 w4 b4 k4 => ?_⟩
  obtain ⟨q4, c4, rfl, hc4, _⟩ := b4.slice
  have k04 := k03.trans k4
  have b4 : Buf w4 w.heap.size 5 (.slice q4 (stoneH (bytesL s)).length c4) (stoneH (bytesL s)) := b4
  have hlen := stoneH_len (bytesL s)
  refine ⟨_, _, _, rfl, k4.keeps0, (c106 (ht.far k04 (Nat.le_refl _)) b4.bytes (by omega)).mono ?_⟩
  rintro v wx ⟨rfl, e⟩
  obtain rfl := e.symm
  refine ⟨_, rfl, (Kp.refl none_ _).keeps0, (c105 b4 k04.size (by omega) _).mono ?_⟩
  rintro v w5 ⟨b5, k5⟩
  obtain ⟨q5, c5, rfl, _, _⟩ := b5.slice
  exact ⟨_, _, _, rfl, k5.keeps0, _, rfl, _, _, _, rfl, b5, (k04.trans k5).narrow (Nat.le_refl _)⟩
theorem c30 {w : World} (s : ByteArray) (hs : s.size < 256) : Rets Tryd.prog 30 #[.string s] w fun v w' => Buf w' w.heap.size 5 v (stoneB (bytesL s)) ∧ Kp none_ w w' := by
  refine ent [_] Tryd.func30 ((vcTryd30 _ w _).mpr ?_)
  unfold VCTryd30
  have hss := bytesL_size s
  refine conv_lit (new := tomb) und27 und5 (by simp [tomb, strCells, ba]) rfl (by simp [maxLen]) fun v2 w2 b2 k2 kp2 => ?_
  obtain ⟨q2, c2, rfl, _, _⟩ := b2.slice
  refine ⟨_, _, _, rfl, kp2, wr8 (by omega) ?_⟩
  refine buf_lit (new := [UInt8.ofNat (bytesL s).length]) und27 byte5 b2 k2.size (by rw [byte_cell, UInt8.toNat_ofNat', hss, Nat.mod_eq_of_lt (by omega)]) rfl (by simp [tomb]) fun v3 w3 b3 k3 kp3 => ?_
  obtain ⟨q3, c3, rfl, _, _⟩ := b3.slice
  have k03 : Kp (fun i => w.heap.size ≤ i) w w3 := k2.wide.trans k3
  refine ⟨_, _, _, rfl, kp3, buf_str und27 und9 byte5 b3 k03.size s (by simp [tomb]; omega) fun v4 w4 b4 k4 => ?_⟩
  obtain ⟨q4, c4, rfl, hc4, _⟩ := b4.slice
  have k04 := k03.trans k4
  have b4 : Buf w4 w.heap.size 5 (.slice q4 (stoneH (bytesL s)).length c4) (stoneH (bytesL s)) := b4
  have hlen := stoneH_len (bytesL s)
  refine ⟨_, _, _, rfl, k4.keeps0, (c108 b4.bytes (by omega)).mono ?_⟩
  rintro v w5 ⟨b5, k5⟩
  obtain ⟨q5, c5, rfl, _, _⟩ := b5.slice
  exact ⟨_, _, _, rfl, k5.keeps0, _, rfl, b5.up k04.size, (k04.trans k5.wide).narrow (Nat.le_refl _)⟩
end Go.Proofs.YtbpknjldphckgaaDoor
