/- A head, read. -/
import Derived.Test.YtbpknjldphckgaaDoorQm
namespace Go.Proofs.YtbpknjldphckgaaDoor
open Go Go.SX Go.SX.Crc Go.Proofs Go.Lib
set_option maxRecDepth 100000
set_option linter.unusedVariables false
set_option linter.unusedSimpArgs false
/-! ### Great values of five cells -/
def set5 (w : World) (g : Nat) (v0 v1 v2 v3 v4 : Value) : World := ((((w.setCell ⟨g, 0, none⟩ v0).setCell ⟨g, 1, none⟩ v1).setCell ⟨g, 2, none⟩ v2).setCell ⟨g, 3, none⟩ v3).setCell ⟨g, 4, none⟩ v4
theorem set5_def (w : World) (g : Nat) (v0 v1 v2 v3 v4 : Value) : ((((w.setCell ⟨g, 0, none⟩ v0).setCell ⟨g, 1, none⟩ v1).setCell ⟨g, 2, none⟩ v2).setCell ⟨g, 3, none⟩ v3).setCell ⟨g, 4, none⟩ v4 = set5 w g v0 v1 v2 v3 v4 := rfl
theorem big_set5 {w : World} {g : Nat} {e : TypeId} {a b c d f v0 v1 v2 v3 v4 : Value} (h : Big w g e [a, b, c, d, f]) : Big (set5 w g v0 v1 v2 v3 v4) g e [v0, v1, v2, v3, v4] := ((((h.set 0 v0).set 1 v1).set 2 v2).set 3 v3).set 4 v4
theorem kp_set5 (w : World) (g : Nat) (v0 v1 v2 v3 v4 : Value) : Kp (one_ g) w (set5 w g v0 v1 v2 v3 v4) :=
  (((((Kp.refl (one_ g) w).setCell (x := ⟨g, 0, none⟩) v0 (.inl rfl)).setCell (x := ⟨g, 1, none⟩) v1 (.inl rfl)).setCell (x := ⟨g, 2, none⟩) v2 (.inl rfl)).setCell (x := ⟨g, 3, none⟩) v3 (.inl rfl)).setCell (x := ⟨g, 4, none⟩) v4 (.inl rfl)
def set3 (w : World) (g : Nat) (v2 v3 v4 : Value) : World := ((w.setCell ⟨g, 2, none⟩ v2).setCell ⟨g, 3, none⟩ v3).setCell ⟨g, 4, none⟩ v4
theorem set3_def (w : World) (g : Nat) (v2 v3 v4 : Value) : ((w.setCell ⟨g, 2, none⟩ v2).setCell ⟨g, 3, none⟩ v3).setCell ⟨g, 4, none⟩ v4 = set3 w g v2 v3 v4 := rfl
theorem big_set3 {w : World} {g : Nat} {e : TypeId} {a b c d f v2 v3 v4 : Value} (h : Big w g e [a, b, c, d, f]) : Big (set3 w g v2 v3 v4) g e [a, b, v2, v3, v4] := ((h.set 2 v2).set 3 v3).set 4 v4
theorem kp_set3 (w : World) (g : Nat) (v2 v3 v4 : Value) : Kp (one_ g) w (set3 w g v2 v3 v4) :=
  (((Kp.refl (one_ g) w).setCell (x := ⟨g, 2, none⟩) v2 (.inl rfl)).setCell (x := ⟨g, 3, none⟩) v3 (.inl rfl)).setCell (x := ⟨g, 4, none⟩) v4 (.inl rfl)
theorem nob5 (a : Int) (s : ByteArray) (b c d : Int) : ∀ v ∈ [Value.int .i64 a, .string s, .int .i64 b, .int .i64 c, .int .u32 d], ∀ x, v ≠ Value.int .u8 x := by
  intro v hv x e
  subst e
  simp at hv
/-- One's own: a block that was there, and all that is new. -/
def own_ (r E : Nat) (i : Nat) : Prop := i = r ∨ E ≤ i
theorem ks1 {w w' : World} {r g : Nat} (k : Kp (one_ r) w w') (hg : g ≠ r) (hl : g < w.heap.size) : Keeps w w' [g] := k.keeps fun b hb => by
  rw [List.mem_singleton] at hb
  subst hb
  exact ⟨hl, hg⟩
theorem ks2 {w w' : World} {r g f : Nat} (k : Kp (one_ r) w w') (hg : g ≠ r) (hl : g < w.heap.size) (hf : f ≠ r) (hm : f < w.heap.size) : Keeps w w' [g, f] := k.keeps fun b hb => by
  simp only [List.mem_cons, List.not_mem_nil, or_false] at hb
  rcases hb with rfl | rfl
  · exact ⟨hl, hg⟩
  · exact ⟨hm, hf⟩
theorem own1 {w w' : World} {r E : Nat} (k : Kp (one_ r) w w') : Kp (own_ r E) w w' := k.mono fun i _ h => .inl h
theorem own2 {w w' : World} {r E g : Nat} (k : Kp (one_ g) w w') (hg : E ≤ g) : Kp (own_ r E) w w' := k.mono fun i _ h => .inr (by have h : i = g := h; omega)
theorem c121 {w : World} {r : Nat} {m : List UInt8} (d : Rdr w r m (0, false)) (hl : m.length ≤ 1000000000) : Rets Tryd.prog 121 #[.pointer (some ⟨r, 0, none⟩)] w fun v w' => v = hdV (hM m).1 (ba (hB m).1) (hZ m).1 (hA m).1 (hU m).1 ∧ Kp (one_ r) w w' ∧ Rdr w' r m (hB m).2 := by
  refine ent [_] Tryd.func121 ((vcTryd121 _ w _).mpr ?_)
  unfold VCTryd121
  simp only [set5_def]
  intro _
  have hr := d.lt
  have ka : Kp none_ w (w.alloc (.cells #[.int .i64 0, .string { data := #[] }, .int .i64 0, .int .i64 0, .int .u32 0] 54)) := (Kp.refl none_ w).alloc1 _
  have B0 : Big (w.alloc (.cells #[.int .i64 0, .string { data := #[] }, .int .i64 0, .int .i64 0, .int .u32 0] 54)) w.heap.size 54 [.int .i64 0, .string { data := #[] }, .int .i64 0, .int .i64 0, .int .u32 0] := Big.new w _ 54
  generalize w.alloc (.cells #[.int .i64 0, .string { data := #[] }, .int .i64 0, .int .i64 0, .int .u32 0] 54) = w0 at *
  have z0 : w.heap.size < w0.heap.size := B0.lt
  have n0 : w.heap.size ≠ r := by omega
  have nn0 : ¬ one_ r w.heap.size := n0
  refine (c110 (d.kp0 ka) hl 4 (by omega)).mono ?_
  rintro v w1 ⟨q1, c1, rfl, _, _, k1, d1⟩
  have K1 : Kp (own_ r w.heap.size) w w1 := ka.wide.trans (own1 k1)
  have z1 : w.heap.size < w1.heap.size := (B0.kp k1 nn0).lt
  refine ⟨_, _, _, rfl, ks1 k1 n0 z0, fun _ => (c111 d1 hl 1).mono ?_⟩
  have eM : numR m 1 (bytR m 4 (0, false)).2 = hM m := rfl
  rw [eM]
  rintro v w2 ⟨rfl, k2, d2⟩
  have lM : (hM m).1 < 256 := numR_lt1 _ _
  have K2 := K1.trans (own1 k2)
  have B2 := (B0.kp k1 nn0).kp k2 nn0
  have z2 : w.heap.size < w2.heap.size := B2.lt
  refine ⟨_, rfl, ks1 k2 n0 z1, wr64 (by omega) fun _ => ?_⟩
  have kb : Kp none_ w2 (w2.alloc (.cells #[.int .i64 0, .string { data := #[] }, .int .i64 0, .int .i64 0, .int .u32 0] 54)) := (Kp.refl none_ w2).alloc1 _
  have C0 : Big (w2.alloc (.cells #[.int .i64 0, .string { data := #[] }, .int .i64 0, .int .i64 0, .int .u32 0] 54)) w2.heap.size 54 [.int .i64 0, .string { data := #[] }, .int .i64 0, .int .i64 0, .int .u32 0] := Big.new w2 _ 54
  generalize w2.alloc (.cells #[.int .i64 0, .string { data := #[] }, .int .i64 0, .int .i64 0, .int .u32 0] 54) = w2' at *
  have n2 : w2.heap.size ≠ r := by omega
  have nn2 : ¬ one_ r w2.heap.size := n2
  have ne : ¬ one_ w2.heap.size w.heap.size := by show ¬ w.heap.size = w2.heap.size; omega
  have ks := kp_set5 w2' w2.heap.size (.int .i64 ((hM m).1 : Int)) (.string { data := #[] }) (.int .i64 0) (.int .i64 0) (.int .u32 0)
  have C3 := big_set5 (v0 := .int .i64 ((hM m).1 : Int)) (v1 := .string { data := #[] }) (v2 := .int .i64 0) (v3 := .int .i64 0) (v4 := .int .u32 0) C0
  have d3 := (d2.kp0 kb).beside (fun h => n2 h.symm) C0 (nob5 _ _ _ _ _) ks
  have B3 := (B2.kp kb id).kp ks ne
  have K3 := (K2.trans kb.wide).trans (own2 (r := r) ks (Nat.le_of_lt z2))
  generalize set5 w2' w2.heap.size (.int .i64 ((hM m).1 : Int)) (.string { data := #[] }) (.int .i64 0) (.int .i64 0) (.int .u32 0) = w3 at *
  generalize hgg : w2.heap.size = g at *
  refine (c111 d3 hl 1).mono ?_
  have eN : numR m 1 (hM m).2 = hN m := rfl
  rw [eN]
  rintro v w4 ⟨rfl, k4, d4⟩
  have lN : (hN m).1 < 256 := numR_lt1 _ _
  have C4 := C3.kp k4 nn2
  have B4 := B3.kp k4 nn0
  have K4 := K3.trans (own1 k4)
  refine ⟨_, rfl, ks2 k4 n0 B3.lt n2 C3.lt, wr64 (by omega) fun _ => (c111 d4 hl 4).mono ?_⟩
  have eZ : numR m 4 (hN m).2 = hZ m := rfl
  rw [eZ]
  rintro v w5 ⟨rfl, k5, d5⟩
  have lZ : (hZ m).1 < 4294967296 := numR_lt4 _ _
  have C5 := C4.kp k5 nn2
  have B5 := B4.kp k5 nn0
  have K5 := K4.trans (own1 k5)
  refine ⟨_, rfl, ks2 k5 n0 B4.lt n2 C4.lt, wr64 (by omega) fun _ => (c111 d5 hl 4).mono ?_⟩
  have eA : numR m 4 (hZ m).2 = hA m := rfl
  rw [eA]
  rintro v w6 ⟨rfl, k6, d6⟩
  have lA : (hA m).1 < 4294967296 := numR_lt4 _ _
  have C6 := C5.kp k6 nn2
  have B6 := B5.kp k6 nn0
  have K6 := K5.trans (own1 k6)
  refine ⟨_, rfl, ks2 k6 n0 B5.lt n2 C5.lt, wr64 (by omega) fun _ => (c111 d6 hl 4).mono ?_⟩
  have eU : numR m 4 (hA m).2 = hU m := rfl
  rw [eU]
  rintro v w7 ⟨rfl, k7, d7⟩
  have C7 := C6.kp k7 nn2
  have B7 := B6.kp k7 nn0
  have K7 := K6.trans (own1 k7)
  refine ⟨_, rfl, ks2 k7 n0 B6.lt n2 C6.lt, fun _ => ?_⟩
  simp only [set3_def]
  have kt := kp_set3 w7 g (.int .i64 ((hZ m).1 : Int)) (.int .i64 ((hA m).1 : Int)) (.int .u32 ((hU m).1 : Int))
  have C8 := big_set3 (v2 := .int .i64 ((hZ m).1 : Int)) (v3 := .int .i64 ((hA m).1 : Int)) (v4 := .int .u32 ((hU m).1 : Int)) C7
  have d8 := d7.beside (fun h => n2 h.symm) C7 (nob5 _ _ _ _ _) kt
  have B8 := B7.kp kt ne
  have K8 := K7.trans (own2 (r := r) kt (Nat.le_of_lt z2))
  generalize set3 w7 g (.int .i64 ((hZ m).1 : Int)) (.int .i64 ((hA m).1 : Int)) (.int .u32 ((hU m).1 : Int)) = w8 at *
  refine (c110 d8 hl _ (by omega)).mono ?_
  have eB : bytR m ((hN m).1 : Int) (hU m).2 = hB m := rfl
  rw [eB]
  rintro v w9 ⟨q9, c9, rfl, _, b9, k9, d9⟩
  have C9 := C8.kp k9 nn2
  have B9 := B8.kp k9 nn0
  have K9 := K8.trans (own1 k9)
  refine ⟨_, _, _, rfl, ks2 k9 n0 B8.lt n2 C8.lt, ba (hB m).1, ba_size _, b9, fun _ => ?_⟩
  have ku : Kp (one_ g) w9 (w9.setCell ⟨g, 1, none⟩ (.string (ba (hB m).1))) := (Kp.refl (one_ g) w9).setCell (x := ⟨g, 1, none⟩) _ (.inl rfl)
  have d10 := d9.beside (fun h => n2 h.symm) C9 (nob5 _ _ _ _ _) ku
  have B10 := B9.kp ku ne
  have K10 := K9.trans (own2 (r := r) ku (Nat.le_of_lt z2))
  generalize w9.setCell ⟨g, 1, none⟩ (.string (ba (hB m).1)) = w10 at *
  have kv := kp_set5 w10 w.heap.size (.int .i64 ((hM m).1 : Int)) (.string (ba (hB m).1)) (.int .i64 ((hZ m).1 : Int)) (.int .i64 ((hA m).1 : Int)) (.int .u32 ((hU m).1 : Int))
  have d11 := d10.beside (fun h => n0 h.symm) B10 (nob5 _ _ _ _ _) kv
  have K11 := K10.trans (own2 (r := r) kv (Nat.le_refl _))
  exact ⟨_, rfl, rfl, K11.mono fun i hi h => by
    rcases h with h | h
    · exact h
    · omega, d11⟩
end Go.Proofs.YtbpknjldphckgaaDoor
