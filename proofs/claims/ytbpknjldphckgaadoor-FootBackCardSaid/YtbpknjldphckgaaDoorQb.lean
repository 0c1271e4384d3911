import Derived.Test.YtbpknjldphckgaaDoorQa
import Derived.Test.YtbpknjldphckgaaDoorSxBig
namespace Go.Proofs.YtbpknjldphckgaaDoor
open Go Go.SX Go.SX.Crc Go.Proofs Go.Lib
set_option maxRecDepth 100000
set_option linter.unusedVariables false
set_option linter.unusedSimpArgs false
/-! ### The table -/
def tabCells : List Value := (List.range 256).map fun i => .int .u32 (tab i).toNat
theorem tabCells_len : tabCells.length = 256 := by simp [tabCells]
theorem tabCells_get {i : Nat} (h : i < 256) : tabCells[i]? = some (.int .u32 (tab i).toNat) := by simp [tabCells, h]
theorem zero25 : (zeroA Tryd.prog 25).toList.length = 256 := by kernel_rfl
theorem size25 : sizeT Tryd.prog 25 = 256 := by kernel_rfl
theorem info25 : hasInfo Tryd.prog 25 = true := by kernel_rfl
/-- The table as far as it is made. -/
def tabPart (z : List Value) (j : Nat) : List Value := tabCells.take j ++ z.drop j
theorem tabPart_len {z : List Value} (hz : z.length = 256) {j : Nat} (hj : j ≤ 256) : (tabPart z j).length = 256 := by
  unfold tabPart
  rw [List.length_append, List.length_take, List.length_drop, tabCells_len]; omega
theorem tabPart_set {z : List Value} (hz : z.length = 256) {j : Nat} (hj : j < 256) : (tabPart z j).set j (.int .u32 (tab j).toNat) = tabPart z (j + 1) := by
  unfold tabPart
  apply List.ext_getElem?
  intro i
  rw [List.getElem?_set]
  simp only [List.getElem?_append, List.length_take, tabCells_len, List.getElem?_drop, List.getElem?_take, List.length_append, List.length_drop, hz]
  rw [show min j 256 = j by omega, show min (j + 1) 256 = j + 1 by omega]
  by_cases h1 : j = i
  · subst h1
    rw [if_pos rfl, if_pos (by omega), if_pos (by omega), if_pos (by omega), tabCells_get (by omega)]
  · rw [if_neg h1]
    by_cases h2 : i < j
    · rw [if_pos h2, if_pos h2, if_pos (by omega), if_pos (by omega)]
    · rw [if_neg h2, if_neg (by omega)]
      congr 1
      omega
theorem c26 (w : World) : Rets Tryd.prog 26 #[] w fun v w' => v = .agg tabCells.toArray ∧ Kp none_ w w' := by
  refine ent [] Tryd.func26 ((vcTryd26 w _).mpr ?_)
  unfold VCTryd26
  have bA := (Big.new w (zeroA Tryd.prog 25) 25).kp ((Kp.refl none_ _).alloc1 (.cells (zeroA Tryd.prog 25) 25)) id
  have bB := Big.new (w.alloc (.cells (zeroA Tryd.prog 25) 25)) (zeroA Tryd.prog 25) 25
  have k0 : Kp (fun i => w.heap.size ≤ i) w ((w.alloc (.cells (zeroA Tryd.prog 25) 25)).alloc (.cells (zeroA Tryd.prog 25) 25)) := ((Kp.refl _ w).alloc _ _).alloc _ _
  have sB : (w.alloc (.cells (zeroA Tryd.prog 25) 25)).heap.size = w.heap.size + 1 := alloc_size _ _
  generalize (w.alloc (.cells (zeroA Tryd.prog 25) 25)).heap.size = B at *
  generalize (w.alloc (.cells (zeroA Tryd.prog 25) 25)).alloc (.cells (zeroA Tryd.prog 25) 25) = w0 at *
  have hz := zero25
  generalize (zeroA Tryd.prog 25).toList = z at *
  refine ⟨fun i w' => ∃ j : Nat, i = j ∧ j ≤ 256 ∧ Kp (fun i => w.heap.size ≤ i) w w' ∧ Big w' w.heap.size 25 z ∧ Big w' B 25 (tabPart z j), fun i _ => (256 - i).toNat, ⟨0, rfl, by omega, k0, bA, by simpa [tabPart] using bB⟩, ?_⟩
  rintro i w1 ⟨j, rfl, hj, k1, a1, b1⟩
  refine bif_dec (fun hlt => ?_) (fun hge => ?_)
  · have hj' : j < 256 := by omega
    refine wr32 (by omega) ?_
    have e0 : (j : Int) = ((BitVec.ofNat 32 j : W32).toNat : Int) := by rw [BitVec.toNat_ofNat]; omega
    refine ⟨fun i n w' => ∃ k : Nat, i = k ∧ k ≤ 8 ∧ n = (turns k (BitVec.ofNat 32 j)).toNat ∧ w' = w1, fun i _ _ => (8 - i).toNat, ⟨0, rfl, by omega, e0, rfl⟩, ?_⟩
    rintro i n w2 ⟨k, rfl, hk, rfl, rfl⟩
    refine bif_dec (fun hlt8 => ?_) (fun hge8 => ?_)
    · refine (c103 _ w2).mono ?_
      rintro v wx ⟨rfl, e⟩
      obtain rfl := e.symm
      exact ⟨_, rfl, (Kp.refl none_ _).keeps0, wr64 (by omega) ⟨⟨k + 1, by omega, by omega, by rw [turns_succ], rfl⟩, by first | omega | (dsimp only; omega)⟩⟩
    · have hk8 : k = 8 := by omega
      subst hk8
      simp only [ad_add, Nat.mul_one, Nat.zero_add, Nat.add_zero, Int.toNat_natCast]
      have hl := tabPart_len hz (j := j) (by omega)
      refine ⟨⟨by omega, by omega⟩, ⟨(tabPart z j)[j]'(by omega), by rw [b1.cell]; exact List.getElem?_eq_getElem _⟩, b1.frz j, wr64 (by omega) ⟨⟨j + 1, by omega, by omega, ?_, a1.kp (Big.setKp j _ (S := one_ B) rfl) (fun h => by have h : w.heap.size = B := h; omega), ?_⟩, by first | omega | (dsimp only; omega)⟩⟩
      · exact k1.trans (Big.setKp j _ (show w.heap.size ≤ B by omega))
      · have := b1.set j (.int .u32 (tab j).toNat)
        rw [tabPart_set hz hj'] at this
        exact this
  · have hj256 : j = 256 := by omega
    subst hj256
    have e1 : tabPart z 256 = tabCells := by
      unfold tabPart
      rw [List.drop_eq_nil_of_le (by omega), List.take_of_length_le (by rw [tabCells_len]; omega), List.append_nil]
    rw [e1] at b1
    have c1 := b1.cellsOf
    rw [tabCells_len] at c1
    refine ⟨tabCells, c1, store_big a1 info25 (by rw [tabCells_len, size25]) (by rw [tabCells_len, hz]) (fun v hv => ?_) fun w2 a2 k2 => ?_⟩
    · obtain ⟨i, _, rfl⟩ := List.mem_map.1 hv
      simp [Value.oneCell']
    · have c2 := a2.cellsOf
      rw [tabCells_len] at c2
      exact ⟨k2.keeps0, tabCells, c2, _, rfl, rfl, (k1.trans (k2.mono fun i _ hi => by have hi : i = w.heap.size := hi; exact Nat.le_of_eq hi.symm)).narrow (Nat.le_refl _)⟩
/-- A table that was just made, stored in a variable. -/
theorem tab_new (w : World) (t : TypeId) : Tab (w.alloc (.cells tabCells.toArray t)) ⟨w.heap.size, 0, none⟩ := fun i hi => by
  rw [ad_add, Nat.zero_add]
  exact cell_alloc_new (by simpa using tabCells_get hi)
/-! ### Bits that are flipped -/
theorem c116 {w : World} {q : Option Addr} {c : Nat} {l : List UInt8} (hb : BytesAt w q (ba l)) (p : Nat) (hp : p < 8 * l.length) (hl : l.length ≤ 1000000000) : Rets Tryd.prog 116 #[.slice q l.length c, .int .i64 p] w fun v w' => v = .int .i64 ((l[p / 8]'(by omega)).toNat / 2 ^ (p % 8) % 2 : Nat) ∧ w' = w := by
  refine ent [_, _] Tryd.func116 ((vcTryd116 _ _ _ _ w _).mpr ?_)
  unfold VCTryd116
  have e1 : (p : Int).tdiv 8 = ((p / 8 : Nat) : Int) := by rw [Int.tdiv_eq_ediv_of_nonneg (by omega)]; omega
  have e2 : (p : Int).tmod 8 = ((p % 8 : Nat) : Int) := by rw [Int.tmod_eq_emod_of_nonneg (by omega)]; omega
  rw [e1, e2]
  refine ⟨by decide, wr64 (by omega) ⟨⟨by omega, by omega⟩, bytes_get hb (by omega) (by omega) fun a ha => ?_⟩⟩
  simp only [Int.toNat_natCast]
  generalize hc : (l[p / 8]'(by omega)) = x
  have hx := x.toNat_lt
  refine wr64 (by omega) ?_
  refine ⟨fun i n w' => ∃ k : Nat, i = k ∧ k ≤ p % 8 ∧ n = ((x.toNat / 2 ^ k : Nat) : Int) ∧ w' = w, fun i _ _ => (p % 8 - i).toNat, ⟨0, rfl, by omega, by simp, rfl⟩, ?_⟩
  rintro i n w1 ⟨k, rfl, hk, rfl, rfl⟩
  have hle : x.toNat / 2 ^ k ≤ x.toNat := Nat.div_le_self _ _
  have e0 : x.toNat / 2 ^ (k + 1) = x.toNat / 2 ^ k / 2 := by rw [Nat.pow_succ, ← Nat.div_div_eq_div_mul]
  have ek : k = p % 8 → x.toNat / 2 ^ k = x.toNat / 2 ^ (p % 8) := fun h => by rw [h]
  generalize x.toNat / 2 ^ k = y at *
  have em : (y : Int).tmod 2 = ((y % 2 : Nat) : Int) := by rw [Int.tmod_eq_emod_of_nonneg (by omega)]; omega
  have ed : (y : Int).tdiv 2 = ((y / 2 : Nat) : Int) := by rw [Int.tdiv_eq_ediv_of_nonneg (by omega)]; omega
  refine ⟨by decide, bif_dec (fun hlt => ⟨by decide, ?_⟩) (fun hge => ⟨by decide, _, rfl, ?_, by first | rfl | trivial⟩)⟩
  · rw [ed]
    exact wr64 (by omega) (wr64 (by omega) ⟨⟨k + 1, by omega, by omega, by rw [e0], by first | rfl | trivial⟩, by first | omega | (dsimp only; omega)⟩)
  · rw [em, ek (by omega)]
theorem flip8 : ∀ c : Fin 256, ∀ s : Fin 8, (if c.val / 2 ^ s.val % 2 = 1 then c.val - 2 ^ s.val else c.val + 2 ^ s.val) < 256 ∧ (c.val / 2 ^ s.val % 2 = 1 → 2 ^ s.val ≤ c.val) ∧ ∀ t : Fin 8, t ≠ s → (if c.val / 2 ^ s.val % 2 = 1 then c.val - 2 ^ s.val else c.val + 2 ^ s.val).testBit t.val = c.val.testBit t.val := by decide +kernel
/-- A byte with a bit turned. -/
def turnBit (x : UInt8) (s : Nat) : UInt8 := UInt8.ofNat (if x.toNat / 2 ^ s % 2 = 1 then x.toNat - 2 ^ s else x.toNat + 2 ^ s)
theorem turnBit_spec (x : UInt8) {s : Nat} (hs : s < 8) : ((turnBit x s).toNat = if x.toNat / 2 ^ s % 2 = 1 then x.toNat - 2 ^ s else x.toNat + 2 ^ s) ∧ (x.toNat / 2 ^ s % 2 = 1 → 2 ^ s ≤ x.toNat) ∧ ∀ t, t < 8 → t ≠ s → (turnBit x s).toNat.testBit t = x.toNat.testBit t := by
  obtain ⟨h1, h2, h3⟩ := flip8 ⟨x.toNat, x.toNat_lt⟩ ⟨s, hs⟩
  simp only at h1 h2 h3
  have e : (turnBit x s).toNat = if x.toNat / 2 ^ s % 2 = 1 then x.toNat - 2 ^ s else x.toNat + 2 ^ s := by
    unfold turnBit
    rw [UInt8.toNat_ofNat', Nat.mod_eq_of_lt h1]
  refine ⟨e, h2, fun t ht hne => ?_⟩
  rw [e]
  exact h3 ⟨t, ht⟩ (fun h => hne (by simpa using congrArg Fin.val h))
theorem bitL_set {m : List UInt8} {k : Nat} (hk : k < m.length) (x : UInt8) (i : Nat) : bitL (m.set k x) i = if i / 8 = k then x.toNat.testBit (i % 8) else bitL m i := by
  unfold bitL
  by_cases h : i / 8 = k
  · rw [if_pos h, h]
    simp [List.getD, hk]
  · rw [if_neg h]
    simp only [List.getD]
    rw [List.getElem?_set_ne (fun e => h e.symm)]
/-- Bytes that are others' but for 32 bits from a place on. -/
structure Flipped (l m : List UInt8) (a n : Nat) : Prop where
  len : m.length = l.length
  bit : ∀ i, i < 8 * l.length → (i < a ∨ a + n ≤ i) → bitL m i = bitL l i
theorem und27 : Tryd.prog.underlying 27 = some (.slice 5) := Tryd.underlying27
theorem c34 {w : World} {q : Option Addr} {c : Nat} {l : List UInt8} (hb : BytesAt w q (ba l)) (hl : l.length ≤ 1000000000) (a : Nat) (ha : a ≤ 1000000000) (b : Int) (hbits : 0 ≤ b ∧ b < 4294967296) :
    Rets Tryd.prog 34 #[.slice q l.length c, .int .i64 a, .int .u32 b] w fun v w' => ∃ m, Flipped l m a 32 ∧ Buf w' w.heap.size 5 v m ∧ Kp none_ w w' := by
  refine ent [_, _, _] Tryd.func34 ((vcTryd34 _ _ _ _ _ w _).mpr ?_)
  unfold VCTryd34
  refine lit_buf und27 byte5 fun v1 w1 b1 k1 => ?_
  obtain ⟨q1, c1, rfl, _, _⟩ := b1.slice
  refine ⟨_, _, _, rfl, k1.keeps0, buf_app und27 byte5 b1 k1.size rfl (hb.kp0 k1) (by simp; omega) fun v2 w2 b2 k2 => ?_⟩
  rw [List.nil_append] at b2
  obtain ⟨q2, c2, rfl, _, _⟩ := b2.slice
  refine ⟨_, _, _, rfl, k2.keeps0, ?_⟩
  have k02 : Kp (fun i => w.heap.size ≤ i) w w2 := k1.wide.trans k2
  refine ⟨fun i p n w' => ∃ j : Nat, i = j ∧ j ≤ 32 ∧ p = ((a + j : Nat) : Int) ∧ (0 ≤ n ∧ n < 4294967296) ∧ Kp (fun i => w.heap.size ≤ i) w w' ∧ ∃ m, Flipped l m a j ∧ Buf w' w.heap.size 5 (.slice q2 l.length c2) m, fun i _ _ _ => (32 - i).toNat, ⟨0, rfl, by omega, by simp, hbits, k02, l, ⟨rfl, fun _ _ _ => rfl⟩, b2⟩, ?_⟩
  rintro i p n w3 ⟨j, rfl, hj, rfl, hn, k3, m, hm, b3⟩
  refine bif_dec (fun hlt => ⟨by decide, ?_⟩) (fun hge => ?_)
  rotate_left
  · have : j = 32 := by omega
    subst this
    exact ⟨_, rfl, m, hm, b3, k3.narrow (Nat.le_refl _)⟩
  have nx : (0 ≤ n.tdiv 2 ∧ n.tdiv 2 < 4294967296) := by rw [Int.tdiv_eq_ediv_of_nonneg hn.1]; omega
  -- nothing turned here
  have skip : ∀ w', Kp (fun i => w.heap.size ≤ i) w w' → (∃ m, Flipped l m a (j + 1) ∧ Buf w' w.heap.size 5 (.slice q2 l.length c2) m) → Wr IntKind.u32 (n.tdiv 2) fun i55 => Wr IntKind.i64 (((a + j : Nat) : Int) + 1) fun i56 => Wr IntKind.i64 ((j : Int) + 1) fun i57 =>
      (∃ j : Nat, i57 = j ∧ j ≤ 32 ∧ i56 = ((a + j : Nat) : Int) ∧ (0 ≤ i55 ∧ i55 < 4294967296) ∧ Kp (fun i => w.heap.size ≤ i) w w' ∧ ∃ m, Flipped l m a j ∧ Buf w' w.heap.size 5 (.slice q2 l.length c2) m) ∧ (32 - i57).toNat < (32 - (j : Int)).toNat := fun w' k' h' =>
    wr32 nx (wr64 (by omega) (wr64 (by omega) ⟨⟨j + 1, by omega, by omega, by omega, nx, k', h'⟩, by omega⟩))
  have same : Flipped l m a (j + 1) := ⟨hm.len, fun i hi hc => hm.bit i hi (by omega)⟩
  refine bif_eq (fun hodd => ⟨by decide, ?_⟩) (fun heven => ⟨by decide, skip _ k3 ⟨m, same, b3⟩⟩)
  have ed : ((a + j : Nat) : Int).tdiv 8 = (((a + j) / 8 : Nat) : Int) := by rw [Int.tdiv_eq_ediv_of_nonneg (by omega)]; omega
  have em : ((a + j : Nat) : Int).tmod 8 = (((a + j) % 8 : Nat) : Int) := by rw [Int.tmod_eq_emod_of_nonneg (by omega)]; omega
  simp only [ed, em]
  refine wr64 (by omega) (bif_dec (fun hin => ?_) (fun hout => ⟨by decide, skip _ k3 ⟨m, same, b3⟩⟩))
  refine ⟨fun i u w' => ∃ k : Nat, i = k ∧ k ≤ (a + j) % 8 ∧ u = ((2 ^ k : Nat) : Int) ∧ w' = w3, fun i _ _ => (((a + j) % 8 : Nat) - i).toNat, ⟨0, rfl, by omega, by simp, rfl⟩, ?_⟩
  rintro i u w4 ⟨k, rfl, hk, rfl, rfl⟩
  have hp2 : 2 ^ k ≤ 2 ^ 8 := Nat.pow_le_pow_right (by omega) (by omega)
  refine ⟨by decide, bif_dec (fun hltk => ?_) (fun hgek => ?_)⟩
  · have e3 : ((2 ^ k : Nat) : Int) * 2 = ((2 ^ (k + 1) : Nat) : Int) := by rw [Nat.pow_succ]; omega
    rw [e3]
    have hp3 : 2 ^ (k + 1) ≤ 2 ^ 9 := Nat.pow_le_pow_right (by omega) (by omega)
    have h0 : 0 ≤ ((2 ^ (k + 1) : Nat) : Int) := Int.natCast_nonneg _
    have h1 : ((2 ^ (k + 1) : Nat) : Int) ≤ 512 := by exact_mod_cast hp3
    generalize hP : ((2 ^ (k + 1) : Nat) : Int) = P at *
    exact wr64 (by omega) (wr64 (by omega) ⟨⟨k + 1, by omega, by omega, hP.symm, by first | rfl | trivial⟩, by first | omega | (dsimp only; omega)⟩)
  have hks : k = (a + j) % 8 := by omega
  have hml := hm.len
  have hi8 : (a + j) / 8 < m.length := by omega
  have bb := b3.bytes
  rw [← hml]
  refine (c116 bb (a + j) (by omega) (by omega)).mono ?_
  rintro v wx ⟨rfl, e⟩
  obtain rfl := e.symm
  obtain ⟨g, rfl, hu, hfz, hset⟩ := b3.setAt hi8
  obtain ⟨t1, t2, t3⟩ := turnBit_spec (m[(a + j) / 8]) (s := (a + j) % 8) (by omega)
  obtain ⟨b5, k5⟩ := hset (turnBit (m[(a + j) / 8]) ((a + j) % 8))
  have hc := (m[(a + j) / 8]).toNat_lt
  have hcell : w4.cell? ⟨g, (a + j) / 8, none⟩ = some (.int .u8 (m[(a + j) / 8]).toNat) := by
    obtain ⟨a', e', hc'⟩ := bb ((a + j) / 8) (by rw [ba_size]; exact hi8)
    cases e'
    rw [ad_add, Nat.zero_add] at hc'
    rw [hc', ba_get]
  have fl : Flipped l (m.set ((a + j) / 8) (turnBit (m[(a + j) / 8]) ((a + j) % 8))) a (j + 1) := by
    refine ⟨by rw [List.length_set]; exact hml, fun i hi hcc => ?_⟩
    rw [bitL_set hi8]
    by_cases hik : i / 8 = (a + j) / 8
    · rw [if_pos hik, t3 _ (by omega) (by omega), ← hm.bit i hi (by omega)]
      unfold bitL
      rw [hik, getD_at hi8]
    · rw [if_neg hik]
      exact hm.bit i hi (by omega)
  refine ⟨_, rfl, (Kp.refl none_ _).keeps0, ?_⟩
  simp only [ptr_some, ad_add, Nat.mul_one, Nat.zero_add, Nat.add_zero, Int.toNat_natCast]
  generalize (m[(a + j) / 8]) = x at *
  rw [← hks] at *
  have hx8 := (turnBit x k).toNat_lt
  generalize h2k : 2 ^ k = P at *
  refine bif_eq (fun h1 => ?_) (fun h0 => ?_)
  · have hb1 : x.toNat / P % 2 = 1 := by exact_mod_cast h1
    rw [if_pos hb1] at t1
    have := t2 hb1
    refine wr64 (by omega) ⟨by decide, wr64 (by omega) ⟨by decide, wr64 (by omega) ⟨⟨by omega, by omega⟩, _, hcell, wr64 (by omega) (wr64 (by omega) (wr8 (by omega) ⟨⟨by omega, by omega⟩, hu, hfz, by decide, ?_⟩))⟩⟩⟩
    have e4 : (x.toNat : Int) + (0 - (P : Int)) = ((turnBit x k).toNat : Int) := by omega
    rw [e4]
    have := skip _ (k3.trans k5) ⟨_, fl, b5⟩
    rw [← hml] at this
    exact this
  · have hb1 : ¬ x.toNat / P % 2 = 1 := fun h => h0 (by exact_mod_cast h)
    rw [if_neg hb1] at t1
    refine ⟨by decide, wr64 (by omega) ⟨by decide, wr64 (by omega) ⟨⟨by omega, by omega⟩, _, hcell, wr64 (by omega) (wr64 (by omega) (wr8 (by omega) ⟨⟨by omega, by omega⟩, hu, hfz, by decide, ?_⟩))⟩⟩⟩
    have e4 : (x.toNat : Int) + (P : Int) = ((turnBit x k).toNat : Int) := by omega
    rw [e4]
    have := skip _ (k3.trans k5) ⟨_, fl, b5⟩
    rw [← hml] at this
    exact this
end Go.Proofs.YtbpknjldphckgaaDoor
