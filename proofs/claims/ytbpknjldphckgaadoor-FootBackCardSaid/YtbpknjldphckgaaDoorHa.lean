/- Feet: whether one may be, and its bytes. -/
import Derived.Test.YtbpknjldphckgaaDoorEh
import Derived.Test.YtbpknjldphckgaaDoorVch
namespace Go.Proofs.YtbpknjldphckgaaDoor
open Go Go.SX Go.SX.Crc Go.Proofs Go.Lib
set_option maxRecDepth 100000
set_option linter.unusedVariables false
set_option linter.unusedSimpArgs false
def ftV (n l u : Int) : Value := .agg #[.int .i64 n, .int .i64 l, .int .u32 u]
/-- Whether a foot may be. -/
def okF (n l : Int) : Bool := decide ((0 ≤ n ∧ n ≤ 200) ∧ (0 ≤ l ∧ l ≤ 16400))
def footM : List UInt8 := [70, 79, 79, 84]
def footJ (n l u : Int) (j : Nat) : List UInt8 := footM ++ (if 0 < j then le4 (w32 n) else []) ++ (if 1 < j then le4 (w32 l) else []) ++ (if 2 < j then le4 (w32 u) else [])
def footB (n l u : Int) : List UInt8 := footJ n l u 3 ++ le4 (sumL (footJ n l u 3))
theorem footJ_len (n l u : Int) (j : Nat) : (footJ n l u j).length ≤ 16 := by
  unfold footJ
  simp only [List.length_append]
  split <;> split <;> split <;> simp [footM, le4_len]
theorem footJ3_len (n l u : Int) : (footJ n l u 3).length = 16 := by simp [footJ, footM, le4_len]
theorem footB_len (n l u : Int) : (footB n l u).length = 20 := by rw [footB, List.length_append, footJ3_len, le4_len]
theorem c59 (n l u : Int) (w : World) : Rets Tryd.prog 59 #[ftV n l u] w fun v w' => v = .bool (okF n l) ∧ Kp none_ w w' := by
  refine ent [_] Tryd.func59 ((vcTryd59 _ _ _ w _).mpr ?_)
  unfold VCTryd59
  have ka : Kp none_ w (w.alloc (.cells #[.int .i64 n, .int .i64 l, .int .u32 u] 68)) := (Kp.refl none_ w).alloc1 _
  refine bif_dec (fun h1 => bif_dec (fun h2 => bif_dec (fun h3 _ => ⟨_, rfl, ?_, ka⟩) (fun h3 _ => ⟨_, rfl, ?_, ka⟩)) (fun h2 _ => ⟨_, rfl, ?_, ka⟩)) (fun h1 _ => ⟨_, rfl, ?_, ka⟩)
  · unfold okF; congr 1; exact decide_eq_decide.2 (by omega)
  all_goals (unfold okF; rw [decide_eq_false (by omega)])
theorem c58 (n l u : Int) (w : World) : Rets Tryd.prog 58 #[ftV n l u] w fun v w' => v = .bool (okF n l) ∧ Kp none_ w w' := by
  refine ent [_] Tryd.func58 ((vcTryd58 _ _ _ w _).mpr ?_)
  unfold VCTryd58
  have ka : Kp none_ w (w.alloc (.cells #[.int .i64 n, .int .i64 l, .int .u32 u] 71)) := (Kp.refl none_ w).alloc1 _
  refine bif_dec (fun h1 => bif_dec (fun h2 => bif_dec (fun h3 _ => ⟨_, rfl, ?_, ka⟩) (fun h3 _ => ⟨_, rfl, ?_, ka⟩)) (fun h2 _ => ⟨_, rfl, ?_, ka⟩)) (fun h1 _ => ⟨_, rfl, ?_, ka⟩)
  · unfold okF; congr 1; exact decide_eq_decide.2 (by omega)
  all_goals (unfold okF; rw [decide_eq_false (by omega)])
theorem c57 {w : World} {t : Addr} (ht : Tab w t) (n l u : Int) (hu : 0 ≤ u ∧ u < 4294967296) : Rets Tryd.prog 57 #[.pointer (some t), ftV n l u] w fun v w' =>
    ∃ q k c, v = .tuple #[.slice q k c, .int .i64 (if okF n l = true then 0 else 1)] ∧ Buf w' w.heap.size 5 (.slice q k c) (if okF n l = true then footB n l u else []) ∧ Kp none_ w w' := by
  refine ent [_, _] Tryd.func57 ((vcTryd57 _ _ _ _ w _).mpr ?_)
  unfold VCTryd57
  intro _
  have ka : Kp none_ w (w.alloc (.cells #[.int .i64 n, .int .i64 l, .int .u32 u] 68)) := (Kp.refl none_ w).alloc1 _
  have z0 : w.heap.size < (w.alloc (.cells #[.int .i64 n, .int .i64 l, .int .u32 u] 68)).heap.size := by rw [alloc_size]; omega
  generalize w.alloc (.cells #[.int .i64 n, .int .i64 l, .int .u32 u] 68) = w0 at *
  refine (c59 n l u w0).mono ?_
  rintro v w1 ⟨rfl, k1⟩
  have z1 := Nat.lt_of_lt_of_le z0 k1.size
  refine ⟨_, rfl, k1.k0 z0, bif_not (fun hb _ => ⟨_, rfl, none, 0, 0, ?_, ?_, ka.trans k1⟩) (fun hb => ?_)⟩
  · rw [if_neg (by rw [hb]; decide)]
  · rw [if_neg (by rw [hb]; decide)]; exact Buf.nil _ _ _
  rw [if_pos hb, if_pos hb]
  have hok := of_decide_eq_true hb
  refine conv_litK (new := footM) z1 und27 und5 (by simp [footM, strCells, ba]) rfl (by simp [maxLen]) fun v2 w2 b2 k2 kp2 => ?_
  obtain ⟨q2, c2, rfl, _, _⟩ := b2.slice
  refine ⟨_, _, _, rfl, kp2, wr32 (by omega) (wr32 (by omega) ?_)⟩
  refine ⟨fun i q n' c w' => ∃ j : Nat, i = j ∧ j ≤ 3 ∧ Kp (fun i => w1.heap.size ≤ i) w1 w' ∧ Buf w' w1.heap.size 5 (.slice q n' c) (footJ n l u j), fun i _ _ _ _ => (3 - i).toNat, ⟨0, rfl, by omega, k2.wide, by simpa [footJ] using b2⟩, ?_⟩
  rintro i q n' c w4 ⟨j, rfl, hj, k4, b4⟩ _
  have z4 := Nat.lt_of_lt_of_le z1 k4.size
  have hjl := footJ_len n l u j
  refine bif_dec (fun hlt => ⟨⟨by omega, by omega⟩, ?_⟩) (fun hge _ => ?_)
  · have hc3 : j = 0 ∨ j = 1 ∨ j = 2 := by omega
    rcases hc3 with rfl | rfl | rfl
    · refine ⟨n, rfl, fun _ => ?_⟩
      have hc := c105 b4 k4.size (by omega) (w32 n)
      rw [w32_nat (by omega) (by omega)] at hc
      refine hc.mono ?_
      rintro v w5 ⟨b5, k5⟩
      obtain ⟨q5, c5, rfl, _, _⟩ := b5.slice
      exact ⟨_, _, _, rfl, k5.ks z1 z4, wr64 (by omega) ⟨rfl, ⟨1, rfl, by omega, k4.trans k5, by simpa [footJ] using b5⟩, by first | omega | (dsimp only; omega)⟩⟩
    · refine ⟨l, rfl, fun _ => ?_⟩
      have hc := c105 b4 k4.size (by omega) (w32 l)
      rw [w32_nat (by omega) (by omega)] at hc
      refine hc.mono ?_
      rintro v w5 ⟨b5, k5⟩
      obtain ⟨q5, c5, rfl, _, _⟩ := b5.slice
      exact ⟨_, _, _, rfl, k5.ks z1 z4, wr64 (by omega) ⟨rfl, ⟨2, rfl, by omega, k4.trans k5, by simpa [footJ] using b5⟩, by first | omega | (dsimp only; omega)⟩⟩
    · refine ⟨u, rfl, fun _ => ?_⟩
      have hc := c105 b4 k4.size (by omega) (w32 u)
      rw [w32_nat (by omega) (by omega)] at hc
      refine hc.mono ?_
      rintro v w5 ⟨b5, k5⟩
      obtain ⟨q5, c5, rfl, _, _⟩ := b5.slice
      exact ⟨_, _, _, rfl, k5.ks z1 z4, wr64 (by omega) ⟨rfl, ⟨3, rfl, by omega, k4.trans k5, by simpa [footJ] using b5⟩, by first | omega | (dsimp only; omega)⟩⟩
  have hj3 : j = 3 := by omega
  subst hj3
  obtain ⟨rfl, _⟩ := b4.lens
  refine (c106 ((ht.kp0 (ka.trans k1)).far k4 (Nat.le_refl _)) b4.bytes (by omega)).mono ?_
  rintro v wx ⟨rfl, e⟩
  obtain rfl := e.symm
  refine ⟨_, rfl, (Kp.refl none_ _).k0 z4, fun _ => (c105 b4 k4.size (by omega) _).mono ?_⟩
  rintro v w6 ⟨b6, k6⟩
  obtain ⟨q6, c6, rfl, _, _⟩ := b6.slice
  exact ⟨_, _, _, rfl, k6.ks z1 z4, fun _ => ⟨_, rfl, _, _, _, rfl, b6.up (Nat.le_of_lt z1), (ka.trans k1).trans ((k4.trans k6).narrow (Nat.le_refl _))⟩⟩
theorem c61 (n l u : Int) (w : World) (hn : 0 ≤ n ∧ n < 4294967296) (hl : 0 ≤ l ∧ l < 4294967296) (hu : 0 ≤ u ∧ u < 4294967296) : Rets Tryd.prog 61 #[ftV n l u] w fun v w' => Buf w' w.heap.size 5 v (footB n l u) ∧ Kp none_ w w' := by
  refine ent [_] Tryd.func61 ((vcTryd61 _ _ _ w _).mpr ?_)
  unfold VCTryd61
  have ka : Kp none_ w (w.alloc (.cells #[.int .i64 n, .int .i64 l, .int .u32 u] 71)) := (Kp.refl none_ w).alloc1 _
  have z0 : w.heap.size < (w.alloc (.cells #[.int .i64 n, .int .i64 l, .int .u32 u] 71)).heap.size := by rw [alloc_size]; omega
  generalize w.alloc (.cells #[.int .i64 n, .int .i64 l, .int .u32 u] 71) = w0 at *
  refine conv_litK (new := footM) z0 und27 und5 (by simp [footM, strCells, ba]) rfl (by simp [maxLen]) fun v2 w2 b2 k2 kp2 => ?_
  obtain ⟨q2, c2, rfl, _, _⟩ := b2.slice
  have z2 := Nat.lt_of_lt_of_le z0 k2.size
  refine ⟨_, _, _, rfl, kp2, wr32 hn fun _ => ?_⟩
  have hc := c120 (w32 n) w2
  rw [w32_nat hn.1 hn.2] at hc
  refine hc.mono ?_
  rintro v w4 ⟨b4, k4⟩
  obtain ⟨q4, c4, rfl, _, _⟩ := b4.slice
  have K4 : Kp (fun i => w0.heap.size ≤ i) w0 w4 := k2.wide.trans k4.wide
  refine ⟨_, _, _, rfl, k4.k0 z2, buf_app und27 byte5 (b2.kp0 k4) K4.size rfl b4.bytes (by simp [footM, le4_len]) fun v5 w5 b5 k5 => ?_⟩
  obtain ⟨q5, c5, rfl, _, _⟩ := b5.slice
  have K5 := K4.trans k5
  have z5 := Nat.lt_of_lt_of_le z0 K5.size
  refine ⟨_, _, _, rfl, k5.ks z0 (Nat.lt_of_lt_of_le z0 K4.size), wr32 hl fun _ => ?_⟩
  have hc := c120 (w32 l) w5
  rw [w32_nat hl.1 hl.2] at hc
  refine hc.mono ?_
  rintro v w6 ⟨b6, k6⟩
  obtain ⟨q6, c6, rfl, _, _⟩ := b6.slice
  have K6 := K5.trans k6.wide
  refine ⟨_, _, _, rfl, k6.k0 z5, buf_app und27 byte5 (b5.kp0 k6) K6.size rfl b6.bytes (by simp [footM, le4_len]) fun v7 w7 b7 k7 => ?_⟩
  obtain ⟨q7, c7, rfl, _, _⟩ := b7.slice
  have K7 := K6.trans k7
  have z7 := Nat.lt_of_lt_of_le z0 K7.size
  refine ⟨_, _, _, rfl, k7.ks z0 (Nat.lt_of_lt_of_le z0 K6.size), fun _ => ?_⟩
  have hc := c120 (w32 u) w7
  rw [w32_nat hu.1 hu.2] at hc
  refine hc.mono ?_
  rintro v w8 ⟨b8, k8⟩
  obtain ⟨q8, c8, rfl, _, _⟩ := b8.slice
  have K8 := K7.trans k8.wide
  refine ⟨_, _, _, rfl, k8.k0 z7, buf_app und27 byte5 (b7.kp0 k8) K8.size rfl b8.bytes (by simp [footM, le4_len]) fun v9 w9 b9 k9 => ?_⟩
  have e : footM ++ le4 (w32 n) ++ le4 (w32 l) ++ le4 (w32 u) = footJ n l u 3 := by simp [footJ]
  rw [e] at b9
  obtain ⟨q9, c9, rfl, _, _⟩ := b9.slice
  have K9 := K8.trans k9
  have z9 := Nat.lt_of_lt_of_le z0 K9.size
  have h16 := footJ3_len n l u
  refine ⟨_, _, _, rfl, k9.ks z0 (Nat.lt_of_lt_of_le z0 K8.size), fun _ => (c108 b9.bytes (by omega)).mono ?_⟩
  rintro v w10 ⟨b10, k10⟩
  obtain ⟨q10, c10, rfl, _, _⟩ := b10.slice
  exact ⟨_, _, _, rfl, k10.k0 z9, fun _ => ⟨_, rfl, (b10.up K9.size).up (Nat.le_of_lt z0), ka.trans ((K9.trans k10.wide).narrow (Nat.le_refl _))⟩⟩
end Go.Proofs.YtbpknjldphckgaaDoor
