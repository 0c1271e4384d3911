/- Heads: whether one may be, and its bytes. -/
import Derived.Test.YtbpknjldphckgaaDoorQj
import Derived.Test.YtbpknjldphckgaaDoorVcd
namespace Go.Proofs.YtbpknjldphckgaaDoor
open Go Go.SX Go.SX.Crc Go.Proofs Go.Lib
set_option maxRecDepth 100000
set_option linter.unusedVariables false
set_option linter.unusedSimpArgs false
/-! ### Appending, with what is kept besides -/
theorem _root_.Go.SX.Kp.ks {w w' : World} {E : Nat} (h : Kp (fun i => E ≤ i) w w') {g : Nat} (hg : g < E) (hl : g < w.heap.size) : Keeps w w' [g] := h.keeps fun b hb => by
  rw [List.mem_singleton] at hb
  subst hb
  exact ⟨hl, by show ¬ E ≤ b; omega⟩
theorem _root_.Go.SX.Kp.k0 {w w' : World} (h : Kp none_ w w') {g : Nat} (hl : g < w.heap.size) : Keeps w w' [g] := h.keeps fun b hb => by
  rw [List.mem_singleton] at hb
  subst hb
  exact ⟨hl, id⟩
theorem buf_litK {P : Program} {w : World} {E g : Nat} {t ty e e' : TypeId} {v : Value} {l new : List UInt8} {cs : Array Value} {m m' : Nat} {K : Value → World → Prop} (hg : g < E) (ht : P.underlying t = some (.slice e)) (he : byteT P e) (h : Buf w E e v l) (hE : E ≤ w.heap.size) (hcs : cs.toList = strCells (ba new)) (hm : m = new.length) (hmax : l.length + new.length ≤ 137438953472)
    (hK : ∀ v' w', Buf w' E e v' (l ++ new) → Kp (fun i => E ≤ i) w w' → Keeps (w.alloc (.cells cs e')) w' [g] → K v' w') : Runs P (Builtin.append_ #[t, t] ty #[v, .slice (some ⟨w.heap.size, 0, none⟩) m m']) (w.alloc (.cells cs e')) K := by
  have ka : Kp none_ w (w.alloc (.cells cs e')) := (Kp.refl none_ w).alloc1 _
  refine buf_app ht he (h.kp0 ka) (Nat.le_trans hE ka.size) hm (fun i hi => ⟨_, rfl, ?_⟩) hmax fun v' w' b k => hK v' w' b (ka.wide.trans k) (k.ks hg (by have := ka.size; omega))
  rw [ad_add, Nat.zero_add]
  refine cell_alloc_new ?_
  rw [← Array.getElem?_toList, hcs]
  exact strCells_get hi
theorem conv_litK {P : Program} {w : World} {g : Nat} {t e : TypeId} {new : List UInt8} {cs : Array Value} {n : Nat} {K : Value → World → Prop} (hg : g < w.heap.size) (ht : P.underlying t = some (.slice e)) (he : P.underlying e = some (.int .u8)) (hcs : cs.toList = strCells (ba new)) (hn : n = new.length) (hm : n ≤ maxLen)
    (hK : ∀ v' w', Buf w' w.heap.size e v' new → Kp none_ w w' → Keeps (w.alloc (.cells cs e)) w' [g] → K v' w') : Runs P (convert t t (.slice (some ⟨w.heap.size, 0, none⟩) n n)) (w.alloc (.cells cs e)) K := by
  subst hn
  have hsz : cs.size = new.length := by rw [← Array.length_toList, hcs, strCells_length, ba_size]
  have ka : Kp none_ (w.alloc (.cells cs e)) ((w.alloc (.cells cs e)).alloc (.cells cs e)) := (Kp.refl none_ _).alloc1 _
  have kb : Kp none_ w (w.alloc (.cells cs e)) := (Kp.refl none_ _).alloc1 _
  refine ⟨_, _, Go.Lib.run_convert_bytes_const w t e cs new.length new.length ht he, hK _ _ (.inr ⟨w.heap.size, _, cs, _, rfl, Nat.le_refl _, by rw [alloc_get, if_pos rfl], .inr (Nat.le_refl _), Nat.le_refl _, hm, hsz, ?_⟩) ((Kp.refl none_ w).alloc1 _) ⟨by rw [alloc_size, alloc_size]; exact Nat.le_refl _, fun b hb => by
    rw [List.mem_singleton] at hb
    subst hb
    exact (Kp.same ((Kp.refl none_ w).alloc1 _) _ hg id).trans (kb.same _ hg id).symm⟩⟩
  rw [hcs, List.take_of_length_le (by rw [strCells_length, ba_size]; exact Nat.le_refl _)]
/-! ### Heads -/
def hdV (m : Int) (s : ByteArray) (z a u : Int) : Value := .agg #[.int .i64 m, .string s, .int .i64 z, .int .i64 a, .int .u32 u]
/-- Whether a head may be. -/
def okHead (m : Int) (l : List UInt8) (z a u : Int) : Bool := okName l && decide (m = 2 ∧ z = 0 ∧ a = 0 ∧ u = 0 ∨ 0 ≤ z ∧ z ≤ 65536 ∧ 0 ≤ a ∧ (m = 0 ∧ a = z ∨ m = 1 ∧ a < z))
def lmbr : List UInt8 := [76, 77, 66, 82]
def w32 (z : Int) : W32 := BitVec.ofNat 32 z.toNat
theorem w32_nat {z : Int} (h0 : 0 ≤ z) (h1 : z < 4294967296) : ((w32 z).toNat : Int) = z := by
  unfold w32
  rw [BitVec.toNat_ofNat]
  omega
/-- What stands ahead of a head's sum. -/
def headH (m : Int) (l : List UInt8) (z a u : Int) : List UInt8 := lmbr ++ [UInt8.ofNat m.toNat, UInt8.ofNat l.length] ++ le4 (w32 z) ++ le4 (w32 a) ++ le4 (w32 u) ++ l
def headB (m : Int) (l : List UInt8) (z a u : Int) : List UInt8 := headH m l z a u ++ le4 (sumL (headH m l z a u))
theorem headH_len (m : Int) (l : List UInt8) (z a u : Int) : (headH m l z a u).length = 18 + l.length := by simp [headH, lmbr, le4_len]; omega
theorem headB_len (m : Int) (l : List UInt8) (z a u : Int) : (headB m l z a u).length = 22 + l.length := by rw [headB, List.length_append, headH_len, le4_len]; omega
theorem okHead_facts {m : Int} {l : List UInt8} {z a u : Int} (h : okHead m l z a u = true) : okName l = true ∧ 0 ≤ m ∧ m ≤ 2 ∧ 0 ≤ z ∧ z ≤ 65536 ∧ 0 ≤ a ∧ a ≤ 65536 := by
  unfold okHead at h
  rw [Bool.and_eq_true, decide_eq_true_eq] at h
  refine ⟨h.1, ?_⟩
  omega
theorem c51 {w : World} (hm : ML w) (m : Int) (s : ByteArray) (z a u : Int) : Rets Tryd.prog 51 #[hdV m s z a u] w fun v w' => v = .bool (okHead m (bytesL s) z a u) ∧ Kp none_ w w' := by
  refine ent [_] Tryd.func51 ((vcTryd51 _ _ _ _ _ w _).mpr ?_)
  unfold VCTryd51
  intro _
  have ka : Kp none_ w (w.alloc (.cells #[.int .i64 m, .string s, .int .i64 z, .int .i64 a, .int .u32 u] 54)) := (Kp.refl none_ w).alloc1 _
  have hz0 : w.heap.size < (w.alloc (.cells #[.int .i64 m, .string s, .int .i64 z, .int .i64 a, .int .u32 u] 54)).heap.size := by rw [alloc_size]; omega
  generalize w.alloc (.cells #[.int .i64 m, .string s, .int .i64 z, .int .i64 a, .int .u32 u] 54) = w0 at *
  refine (c104 (hm.kp0 ka) s).mono ?_
  rintro v w1 ⟨rfl, k1⟩
  have fin : ∀ b : Bool, okHead m (bytesL s) z a u = b → ∃ v, Ending.returned (.bool b) = Ending.returned v ∧ v = .bool (okHead m (bytesL s) z a u) ∧ Kp none_ w w1 := fun b hb => ⟨_, rfl, by rw [hb], ka.trans k1⟩
  refine ⟨_, rfl, k1.k0 hz0, bif_not (fun hb _ => fin _ (by unfold okHead; rw [hb]; rfl)) (fun hb => ?_)⟩
  have e : okHead m (bytesL s) z a u = decide (m = 2 ∧ z = 0 ∧ a = 0 ∧ u = 0 ∨ 0 ≤ z ∧ z ≤ 65536 ∧ 0 ≤ a ∧ (m = 0 ∧ a = z ∨ m = 1 ∧ a < z)) := by unfold okHead; rw [hb]; rfl
  have fin' : ∀ b : Bool, ((m = 2 ∧ z = 0 ∧ a = 0 ∧ u = 0 ∨ 0 ≤ z ∧ z ≤ 65536 ∧ 0 ≤ a ∧ (m = 0 ∧ a = z ∨ m = 1 ∧ a < z)) ↔ b = true) → ∃ v, Ending.returned (.bool b) = Ending.returned v ∧ v = .bool (okHead m (bytesL s) z a u) ∧ Kp none_ w w1 := fun b hb => fin b (by
    rw [e]
    cases b with
    | true => exact decide_eq_true (hb.2 rfl)
    | false => exact decide_eq_false (fun h => absurd (hb.1 h) (by decide)))
  refine bif_dec (fun h1 _ => fin' _ ?_) (fun h1 => bif_dec (fun h2 _ => fin' _ ?_) (fun h2 => bif_dec (fun h3 _ => fin' _ ?_) (fun h3 => bif_eq (fun h4 _ => fin' _ ?_) (fun h4 => bif_eq (fun h5 _ => fin' _ ?_) (fun h5 => bif_eq (fun h6 => bif_eq (fun h7 => bif_eq (fun h8 _ => fin' _ ?_) (fun h8 _ => fin' _ ?_)) (fun h7 _ => fin' _ ?_)) (fun h6 _ => fin' _ ?_))))))
  all_goals
    first
    | (simp only [Bool.false_eq_true, iff_false]; omega)
    | (simp only [beq_iff_eq, decide_eq_true_eq]; omega)
theorem c50 {w : World} (m : Int) (s : ByteArray) (z a u : Int) : Rets Tryd.prog 50 #[hdV m s z a u] w fun v w' => v = .bool (okHead m (bytesL s) z a u) ∧ Kp none_ w w' := by
  refine ent [_] Tryd.func50 ((vcTryd50 _ _ _ _ _ w _).mpr ?_)
  unfold VCTryd50
  intro _
  have ka : Kp none_ w (w.alloc (.cells #[.int .i64 m, .string s, .int .i64 z, .int .i64 a, .int .u32 u] 57)) := (Kp.refl none_ w).alloc1 _
  have hz0 : w.heap.size < (w.alloc (.cells #[.int .i64 m, .string s, .int .i64 z, .int .i64 a, .int .u32 u] 57)).heap.size := by rw [alloc_size]; omega
  generalize w.alloc (.cells #[.int .i64 m, .string s, .int .i64 z, .int .i64 a, .int .u32 u] 57) = w0 at *
  refine (c29 s _).mono ?_
  rintro v w1 ⟨rfl, k1⟩
  have fin : ∀ b : Bool, okHead m (bytesL s) z a u = b → ∃ v, Ending.returned (.bool b) = Ending.returned v ∧ v = .bool (okHead m (bytesL s) z a u) ∧ Kp none_ w w1 := fun b hb => ⟨_, rfl, by rw [hb], ka.trans k1⟩
  refine ⟨_, rfl, k1.k0 hz0, bif_not (fun hb _ => fin _ (by unfold okHead; rw [hb]; rfl)) (fun hb => ?_)⟩
  have e : okHead m (bytesL s) z a u = decide (m = 2 ∧ z = 0 ∧ a = 0 ∧ u = 0 ∨ 0 ≤ z ∧ z ≤ 65536 ∧ 0 ≤ a ∧ (m = 0 ∧ a = z ∨ m = 1 ∧ a < z)) := by unfold okHead; rw [hb]; rfl
  have fin' : ∀ b : Bool, ((m = 2 ∧ z = 0 ∧ a = 0 ∧ u = 0 ∨ 0 ≤ z ∧ z ≤ 65536 ∧ 0 ≤ a ∧ (m = 0 ∧ a = z ∨ m = 1 ∧ a < z)) ↔ b = true) → ∃ v, Ending.returned (.bool b) = Ending.returned v ∧ v = .bool (okHead m (bytesL s) z a u) ∧ Kp none_ w w1 := fun b hb => fin b (by
    rw [e]
    cases b with
    | true => exact decide_eq_true (hb.2 rfl)
    | false => exact decide_eq_false (fun h => absurd (hb.1 h) (by decide)))
  refine bif_eq (fun h6 => bif_eq (fun h7 => bif_eq (fun h8 _ => fin' _ ?_) (fun h8 _ => fin' _ ?_)) (fun h7 _ => fin' _ ?_)) (fun h6 => bif_dec (fun h1 _ => fin' _ ?_) (fun h1 => bif_dec (fun h2 _ => fin' _ ?_) (fun h2 => bif_dec (fun h3 _ => fin' _ ?_) (fun h3 => bif_eq (fun h4 => bif_eq (fun h9 _ => fin' _ ?_) (fun h9 => bif_eq (fun h5 _ => fin' _ ?_) (fun h5 _ => fin' _ ?_))) (fun h4 => bif_eq (fun h5 _ => fin' _ ?_) (fun h5 _ => fin' _ ?_))))))
  all_goals
    first
    | (simp only [Bool.false_eq_true, iff_false]; omega)
    | (simp only [beq_iff_eq, decide_eq_true_eq, true_iff, iff_true]; omega)
theorem cells2 {m : Int} {l : List UInt8} {s : ByteArray} (hm : 0 ≤ m ∧ m < 256) (hl : l.length < 256) (hs : l.length = s.size) : (#[Value.int .u8 m, Value.int .u8 (s.size : Int)] : Array Value).toList = strCells (ba [UInt8.ofNat m.toNat, UInt8.ofNat l.length]) := by
  have e1 : ((UInt8.ofNat m.toNat).toNat : Int) = m := by rw [UInt8.toNat_ofNat']; omega
  have e2 : ((UInt8.ofNat l.length).toNat : Int) = s.size := by rw [UInt8.toNat_ofNat']; omega
  show [Value.int .u8 m, Value.int .u8 (s.size : Int)] = [Value.int .u8 ((UInt8.ofNat m.toNat).toNat : Int), Value.int .u8 ((UInt8.ofNat l.length).toNat : Int)]
  rw [e1, e2]
theorem c53 {w : World} (m : Int) (s : ByteArray) (z a u : Int) (hm : 0 ≤ m ∧ m < 256) (hs : s.size < 256) (hz : 0 ≤ z ∧ z < 4294967296) (ha : 0 ≤ a ∧ a < 4294967296) (hu : 0 ≤ u ∧ u < 4294967296) : Rets Tryd.prog 53 #[hdV m s z a u] w fun v w' => Buf w' w.heap.size 5 v (headB m (bytesL s) z a u) ∧ Kp none_ w w' := by
  refine ent [_] Tryd.func53 ((vcTryd53 _ _ _ _ _ w _).mpr ?_)
  unfold VCTryd53
  have hss := bytesL_size s
  have ka : Kp none_ w (w.alloc (.cells #[.int .i64 m, .string s, .int .i64 z, .int .i64 a, .int .u32 u] 57)) := (Kp.refl none_ w).alloc1 _
  have hz0 : w.heap.size < (w.alloc (.cells #[.int .i64 m, .string s, .int .i64 z, .int .i64 a, .int .u32 u] 57)).heap.size := by rw [alloc_size]; omega
  generalize w.alloc (.cells #[.int .i64 m, .string s, .int .i64 z, .int .i64 a, .int .u32 u] 57) = w0 at *
  refine conv_litK (new := lmbr) hz0 und27 und5 (by simp [lmbr, strCells, ba]) rfl (by simp [maxLen]) fun v2 w2 b2 k2 kp2 => ?_
  obtain ⟨q2, c2, rfl, _, _⟩ := b2.slice
  refine ⟨_, _, _, rfl, kp2, wr8 hm (wr8 (by omega) ?_)⟩
  refine buf_litK (new := [UInt8.ofNat m.toNat, UInt8.ofNat (bytesL s).length]) hz0 und27 byte5 b2 k2.size (cells2 hm (by omega) hss) rfl (by simp [lmbr]) fun v3 w3 b3 k3 kp3 => ?_
  obtain ⟨q3, c3, rfl, _, _⟩ := b3.slice
  have k03 : Kp (fun i => w0.heap.size ≤ i) w0 w3 := k2.wide.trans k3
  refine ⟨_, _, _, rfl, kp3, wr32 hz fun _ => ?_⟩
  have g3 : w.heap.size < w3.heap.size := Nat.lt_of_lt_of_le hz0 k03.size
  have hc := c120 (w32 z) w3
  rw [w32_nat hz.1 hz.2] at hc
  refine hc.mono ?_
  rintro v w4 ⟨b4, k4⟩
  obtain ⟨q4, c4, rfl, _, _⟩ := b4.slice
  refine ⟨_, _, _, rfl, k4.k0 g3, ?_⟩
  refine buf_app und27 byte5 (b3.kp0 k4) (k03.trans k4.wide).size rfl b4.bytes (by simp [lmbr, le4_len]) fun v5 w5 b5 k5 => ?_
  obtain ⟨q5, c5, rfl, _, _⟩ := b5.slice
  have k05 : Kp (fun i => w0.heap.size ≤ i) w0 w5 := (k03.trans k4.wide).trans k5
  have g5 : w.heap.size < w5.heap.size := Nat.lt_of_lt_of_le hz0 k05.size
  refine ⟨_, _, _, rfl, k5.ks hz0 (Nat.lt_of_lt_of_le hz0 (k03.trans k4.wide).size), wr32 ha fun _ => ?_⟩
  have hc := c120 (w32 a) w5
  rw [w32_nat ha.1 ha.2] at hc
  refine hc.mono ?_
  rintro v w6 ⟨b6, k6⟩
  obtain ⟨q6, c6, rfl, _, _⟩ := b6.slice
  refine ⟨_, _, _, rfl, k6.k0 g5, ?_⟩
  refine buf_app und27 byte5 (b5.kp0 k6) (k05.trans k6.wide).size rfl b6.bytes (by simp [lmbr, le4_len]) fun v7 w7 b7 k7 => ?_
  obtain ⟨q7, c7, rfl, _, _⟩ := b7.slice
  have k07 : Kp (fun i => w0.heap.size ≤ i) w0 w7 := (k05.trans k6.wide).trans k7
  have g7 : w.heap.size < w7.heap.size := Nat.lt_of_lt_of_le hz0 k07.size
  refine ⟨_, _, _, rfl, k7.ks hz0 (Nat.lt_of_lt_of_le hz0 (k05.trans k6.wide).size), fun _ => ?_⟩
  have hc := c120 (w32 u) w7
  rw [w32_nat hu.1 hu.2] at hc
  refine hc.mono ?_
  rintro v w8 ⟨b8, k8⟩
  obtain ⟨q8, c8, rfl, _, _⟩ := b8.slice
  refine ⟨_, _, _, rfl, k8.k0 g7, ?_⟩
  refine buf_app und27 byte5 (b7.kp0 k8) (k07.trans k8.wide).size rfl b8.bytes (by simp [lmbr, le4_len]) fun v9 w9 b9 k9 => ?_
  obtain ⟨q9, c9, rfl, _, _⟩ := b9.slice
  have k09 : Kp (fun i => w0.heap.size ≤ i) w0 w9 := (k07.trans k8.wide).trans k9
  have g9 : w.heap.size < w9.heap.size := Nat.lt_of_lt_of_le hz0 k09.size
  refine ⟨_, _, _, rfl, k9.ks hz0 (Nat.lt_of_lt_of_le hz0 (k07.trans k8.wide).size), buf_str und27 und9 byte5 b9 k09.size s (by simp [lmbr, le4_len]; omega) fun v10 w10 b10 k10 => ?_⟩
  obtain ⟨q10, c10, rfl, _, _⟩ := b10.slice
  have k010 := k09.trans k10
  have g10 : w.heap.size < w10.heap.size := Nat.lt_of_lt_of_le hz0 k010.size
  have b10 : Buf w10 w0.heap.size 5 (.slice q10 (headH m (bytesL s) z a u).length c10) (headH m (bytesL s) z a u) := b10
  have hlen := headH_len m (bytesL s) z a u
  refine ⟨_, _, _, rfl, k10.ks hz0 g9, fun _ => (c108 b10.bytes (by omega)).mono ?_⟩
  rintro v w11 ⟨b11, k11⟩
  obtain ⟨q11, c11, rfl, _, _⟩ := b11.slice
  exact ⟨_, _, _, rfl, k11.k0 g10, fun _ => ⟨_, rfl, (b11.up k010.size).up (Nat.le_of_lt hz0), ka.trans ((k010.trans k11.wide).narrow (Nat.le_refl _))⟩⟩
theorem same5 {a b c d e : Value} : SameVals [a, b, c, d, e] [a, b, c, d, e] := by
  first
  | exact ⟨rfl, rfl, rfl, rfl, rfl, trivial⟩
  | exact ⟨rfl, rfl, rfl, rfl, rfl⟩
  | simp [SameVals]
/-- The bytes of a head, the first so many of its three numbers put. -/
def headJ (m : Int) (l : List UInt8) (z a u : Int) (j : Nat) : List UInt8 :=
  lmbr ++ [UInt8.ofNat m.toNat, UInt8.ofNat l.length] ++ (if 0 < j then le4 (w32 z) else []) ++ (if 1 < j then le4 (w32 a) else []) ++ (if 2 < j then le4 (w32 u) else [])
theorem headJ_len (m : Int) (l : List UInt8) (z a u : Int) (j : Nat) : (headJ m l z a u j).length ≤ 18 := by
  unfold headJ
  simp only [List.length_append]
  split <;> split <;> split <;> simp [lmbr, le4_len]
theorem c49 {w : World} (hml : ML w) {t : Addr} (ht : Tab w t) (m : Int) (s : ByteArray) (z a u : Int) (hu : 0 ≤ u ∧ u < 4294967296) : Rets Tryd.prog 49 #[.pointer (some t), hdV m s z a u] w fun v w' =>
    ∃ q n c, v = .tuple #[.slice q n c, .int .i64 (if okHead m (bytesL s) z a u = true then 0 else 1)] ∧ Buf w' w.heap.size 5 (.slice q n c) (if okHead m (bytesL s) z a u = true then headB m (bytesL s) z a u else []) ∧ Kp none_ w w' := by
  refine ent [_, _] Tryd.func49 ((vcTryd49 _ _ _ _ _ _ w _).mpr ?_)
  unfold VCTryd49
  intro _
  have hss := bytesL_size s
  have ka : Kp none_ w (w.alloc (.cells #[.int .i64 m, .string s, .int .i64 z, .int .i64 a, .int .u32 u] 54)) := (Kp.refl none_ w).alloc1 _
  have hz0 : w.heap.size < (w.alloc (.cells #[.int .i64 m, .string s, .int .i64 z, .int .i64 a, .int .u32 u] 54)).heap.size := by rw [alloc_size]; omega
  generalize w.alloc (.cells #[.int .i64 m, .string s, .int .i64 z, .int .i64 a, .int .u32 u] 54) = w0 at *
  refine (c51 (hml.kp0 ka) m s z a u).mono ?_
  rintro v w1 ⟨rfl, k1⟩
  have g1 : w.heap.size < w1.heap.size := Nat.lt_of_lt_of_le hz0 k1.size
  refine ⟨_, rfl, k1.k0 hz0, bif_not (fun hb _ => ⟨_, rfl, none, 0, 0, ?_, ?_, ka.trans k1⟩) (fun hb => ?_)⟩
  · rw [if_neg (by rw [hb]; decide)]
  · rw [if_neg (by rw [hb]; decide)]; exact Buf.nil _ _ _
  rw [if_pos hb, if_pos hb]
  obtain ⟨hok, hm0, hm2, hz1, hz2, ha1, ha2⟩ := okHead_facts hb
  have hsz := okName_len hok
  refine conv_litK (new := lmbr) g1 und27 und5 (by simp [lmbr, strCells, ba]) rfl (by simp [maxLen]) fun v2 w2 b2 k2 kp2 => ?_
  obtain ⟨q2, c2, rfl, _, _⟩ := b2.slice
  have b2 := b2.up k1.size
  have k02 : Kp none_ w0 w2 := k1.trans k2
  refine ⟨_, _, _, rfl, kp2, wr8 (by omega) (wr8 (by omega) ?_)⟩
  refine buf_litK (new := [UInt8.ofNat m.toNat, UInt8.ofNat (bytesL s).length]) hz0 und27 byte5 b2 k02.size (cells2 (by omega) (by omega) hss) rfl (by simp [lmbr]) fun v3 w3 b3 k3 kp3 => ?_
  obtain ⟨q3, c3, rfl, _, _⟩ := b3.slice
  have k03 : Kp (fun i => w0.heap.size ≤ i) w0 w3 := k02.wide.trans k3
  refine ⟨_, _, _, rfl, kp3, wr32 (by omega) (wr32 (by omega) ?_)⟩
  refine ⟨fun i q n c w' => ∃ j : Nat, i = j ∧ j ≤ 3 ∧ Kp (fun i => w0.heap.size ≤ i) w0 w' ∧ Buf w' w0.heap.size 5 (.slice q n c) (headJ m (bytesL s) z a u j), fun i _ _ _ _ => (3 - i).toNat, ⟨0, rfl, by omega, k03, by simpa [headJ] using b3⟩, ?_⟩
  rintro i q n c w4 ⟨j, rfl, hj, k4, b4⟩ _
  have g4 : w.heap.size < w4.heap.size := Nat.lt_of_lt_of_le hz0 k4.size
  have hjl := headJ_len m (bytesL s) z a u j
  refine bif_dec (fun hlt => ⟨⟨by omega, by omega⟩, ?_⟩) (fun hge => ?_)
  · have hc3 : j = 0 ∨ j = 1 ∨ j = 2 := by omega
    rcases hc3 with rfl | rfl | rfl
    · refine ⟨z, rfl, fun _ => ?_⟩
      have hc := c105 b4 k4.size (by omega) (w32 z)
      rw [w32_nat (by omega) (by omega)] at hc
      refine hc.mono ?_
      rintro v w5 ⟨b5, k5⟩
      obtain ⟨q5, c5, rfl, _, _⟩ := b5.slice
      exact ⟨_, _, _, rfl, k5.ks hz0 g4, wr64 (by omega) ⟨same5, ⟨1, rfl, by omega, k4.trans k5, by simpa [headJ] using b5⟩, by first | omega | (dsimp only; omega)⟩⟩
    · refine ⟨a, rfl, fun _ => ?_⟩
      have hc := c105 b4 k4.size (by omega) (w32 a)
      rw [w32_nat (by omega) (by omega)] at hc
      refine hc.mono ?_
      rintro v w5 ⟨b5, k5⟩
      obtain ⟨q5, c5, rfl, _, _⟩ := b5.slice
      exact ⟨_, _, _, rfl, k5.ks hz0 g4, wr64 (by omega) ⟨same5, ⟨2, rfl, by omega, k4.trans k5, by simpa [headJ] using b5⟩, by first | omega | (dsimp only; omega)⟩⟩
    · refine ⟨u, rfl, fun _ => ?_⟩
      have hc := c105 b4 k4.size (by omega) (w32 u)
      rw [w32_nat (by omega) (by omega)] at hc
      refine hc.mono ?_
      rintro v w5 ⟨b5, k5⟩
      obtain ⟨q5, c5, rfl, _, _⟩ := b5.slice
      exact ⟨_, _, _, rfl, k5.ks hz0 g4, wr64 (by omega) ⟨same5, ⟨3, rfl, by omega, k4.trans k5, by simpa [headJ] using b5⟩, by first | omega | (dsimp only; omega)⟩⟩
  have hj3 : j = 3 := by omega
  subst hj3
  refine buf_str und27 und9 byte5 b4 k4.size s (by have := headJ_len m (bytesL s) z a u 3; omega) fun v5 w5 b5 k5 => ?_
  obtain ⟨q5, c5, rfl, _, _⟩ := b5.slice
  have k05 := k4.trans k5
  have g5 : w.heap.size < w5.heap.size := Nat.lt_of_lt_of_le hz0 k05.size
  have b5 : Buf w5 w0.heap.size 5 (.slice q5 (headH m (bytesL s) z a u).length c5) (headH m (bytesL s) z a u) := b5
  have hlen := headH_len m (bytesL s) z a u
  refine ⟨_, _, _, rfl, k5.ks hz0 g4, fun _ => (c106 ((ht.kp0 ka).far k05 (Nat.le_refl _)) b5.bytes (by omega)).mono ?_⟩
  rintro v wx ⟨rfl, e⟩
  obtain rfl := e.symm
  refine ⟨_, rfl, (Kp.refl none_ _).k0 g5, fun _ => (c105 b5 k05.size (by omega) _).mono ?_⟩
  rintro v w6 ⟨b6, k6⟩
  obtain ⟨q6, c6, rfl, _, _⟩ := b6.slice
  exact ⟨_, _, _, rfl, k6.ks hz0 g5, fun _ => ⟨_, rfl, _, _, _, rfl, b6.up (Nat.le_of_lt hz0), ka.trans ((k05.trans k6).narrow (Nat.le_refl _))⟩⟩
end Go.Proofs.YtbpknjldphckgaaDoor
