/- A member, read; a directory, taken. -/
import Derived.Test.YtbpknjldphckgaaDoorEe
namespace Go.Proofs.YtbpknjldphckgaaDoor
open Go Go.SX Go.SX.Crc Go.Proofs Go.Lib
set_option maxRecDepth 100000
set_option linter.unusedVariables false
set_option linter.unusedSimpArgs false
def eM (m : List UInt8) (s : Nat × Bool) := numR m 1 s
def eN (m : List UInt8) (s : Nat × Bool) := numR m 1 (eM m s).2
def eA (m : List UInt8) (s : Nat × Bool) := numR m 4 (eN m s).2
def eZ (m : List UInt8) (s : Nat × Bool) := numR m 4 (eA m s).2
def eR (m : List UInt8) (s : Nat × Bool) := numR m 4 (eZ m s).2
def eU (m : List UInt8) (s : Nat × Bool) := numR m 4 (eR m s).2
def eB (m : List UInt8) (s : Nat × Bool) := bytR m (eN m s).1 (eU m s).2
/-- The member that a reader reads, and how it stands then. -/
def rdOne (m : List UInt8) (s : Nat × Bool) : Mb × Nat × Bool :=
  (⟨(eB m s).1, (eA m s).1, ((eA m s).1 : Int) + (22 + ((ba (eB m s).1).size : Int)), (eR m s).1, (eZ m s).1, (eU m s).1, (eM m s).1⟩, (eB m s).2)
def set4 (w : World) (g : Nat) (a b c d : Value) : World := (((w.setCell ⟨g, 1, none⟩ a).setCell ⟨g, 4, none⟩ b).setCell ⟨g, 3, none⟩ c).setCell ⟨g, 5, none⟩ d
theorem set4_def (w : World) (g : Nat) (a b c d : Value) : (((w.setCell ⟨g, 1, none⟩ a).setCell ⟨g, 4, none⟩ b).setCell ⟨g, 3, none⟩ c).setCell ⟨g, 5, none⟩ d = set4 w g a b c d := rfl
theorem big_set4 {w : World} {g : Nat} {e : TypeId} {v0 v1 v2 v3 v4 v5 v6 a b c d : Value} (h : Big w g e [v0, v1, v2, v3, v4, v5, v6]) : Big (set4 w g a b c d) g e [v0, a, v2, c, b, d, v6] := (((h.set 1 a).set 4 b).set 3 c).set 5 d
theorem kp_set4 (w : World) (g : Nat) (a b c d : Value) : Kp (one_ g) w (set4 w g a b c d) :=
  ((((Kp.refl (one_ g) w).setCell (x := ⟨g, 1, none⟩) a (.inl rfl)).setCell (x := ⟨g, 4, none⟩) b (.inl rfl)).setCell (x := ⟨g, 3, none⟩) c (.inl rfl)).setCell (x := ⟨g, 5, none⟩) d (.inl rfl)
theorem nob7 (s : ByteArray) (a b c d f h : Int) : ∀ v ∈ [Value.string s, .int .i64 a, .int .i64 b, .int .i64 c, .int .i64 d, .int .u32 f, .int .i64 h], ∀ x, v ≠ Value.int .u8 x := by
  intro v hv x e
  subst e
  simp at hv
theorem bytR_len (m : List UInt8) (n : Int) (s : Nat × Bool) : (bytR m n s).1.length ≤ m.length := by
  unfold bytR
  split
  · simp
  · split
    · simp
    · simp only [List.length_take, List.length_drop]; omega
theorem c162 {w : World} {r : Nat} {m : List UInt8} {s : Nat × Bool} (d : Rdr w r m s) (hl : m.length ≤ 1000000) : Rets Tryd.prog 162 #[.pointer (some ⟨r, 0, none⟩)] w fun v w' => v = mbV (rdOne m s).1 ∧ Kp (one_ r) w w' ∧ Rdr w' r m (rdOne m s).2 := by
  refine ent [_] Tryd.func162 ((vcTryd162 _ w _).mpr ?_)
  unfold VCTryd162
  simp only [set7_def, set4_def]
  intro _
  have hl' : m.length ≤ 1000000000 := by omega
  have hr := d.lt
  have ka : Kp none_ w (w.alloc (.cells #[.string { data := #[] }, .int .i64 0, .int .i64 0, .int .i64 0, .int .i64 0, .int .u32 0, .int .i64 0] 50)) := (Kp.refl none_ w).alloc1 _
  have B0 : Big (w.alloc (.cells #[.string { data := #[] }, .int .i64 0, .int .i64 0, .int .i64 0, .int .i64 0, .int .u32 0, .int .i64 0] 50)) w.heap.size 50 [.string { data := #[] }, .int .i64 0, .int .i64 0, .int .i64 0, .int .i64 0, .int .u32 0, .int .i64 0] := Big.new w _ 50
  generalize w.alloc (.cells #[.string { data := #[] }, .int .i64 0, .int .i64 0, .int .i64 0, .int .i64 0, .int .u32 0, .int .i64 0] 50) = w0 at *
  have z0 : w.heap.size < w0.heap.size := B0.lt
  have n0 : w.heap.size ≠ r := by omega
  have nn0 : ¬ one_ r w.heap.size := n0
  refine (c111 (d.kp0 ka) hl' 1).mono ?_
  rw [show numR m 1 s = eM m s from rfl]
  rintro v w2 ⟨rfl, k2, d2⟩
  have lM : (eM m s).1 < 256 := numR_lt1 _ _
  have K2 : Kp (own_ r w.heap.size) w w2 := ka.wide.trans (own1 k2)
  have B2 := B0.kp k2 nn0
  have z2 : w.heap.size < w2.heap.size := B2.lt
  refine ⟨_, rfl, ks1 k2 n0 z0, wr64 (by omega) fun _ => ?_⟩
  have kb : Kp none_ w2 (w2.alloc (.cells #[.string { data := #[] }, .int .i64 0, .int .i64 0, .int .i64 0, .int .i64 0, .int .u32 0, .int .i64 0] 50)) := (Kp.refl none_ w2).alloc1 _
  have C0 : Big (w2.alloc (.cells #[.string { data := #[] }, .int .i64 0, .int .i64 0, .int .i64 0, .int .i64 0, .int .u32 0, .int .i64 0] 50)) w2.heap.size 50 [.string { data := #[] }, .int .i64 0, .int .i64 0, .int .i64 0, .int .i64 0, .int .u32 0, .int .i64 0] := Big.new w2 _ 50
  generalize w2.alloc (.cells #[.string { data := #[] }, .int .i64 0, .int .i64 0, .int .i64 0, .int .i64 0, .int .u32 0, .int .i64 0] 50) = w2' at *
  have n2 : w2.heap.size ≠ r := by omega
  have nn2 : ¬ one_ r w2.heap.size := n2
  have ne : ¬ one_ w2.heap.size w.heap.size := by show ¬ w.heap.size = w2.heap.size; omega
  have ks := kp_set7 w2' w2.heap.size (.string { data := #[] }) (.int .i64 0) (.int .i64 0) (.int .i64 0) (.int .i64 0) (.int .u32 0) (.int .i64 ((eM m s).1 : Int))
  have C3 := big_set7 (v0 := .string { data := #[] }) (v1 := .int .i64 0) (v2 := .int .i64 0) (v3 := .int .i64 0) (v4 := .int .i64 0) (v5 := .int .u32 0) (v6 := .int .i64 ((eM m s).1 : Int)) C0
  have d3 := (d2.kp0 kb).beside (fun h => n2 h.symm) C0 (nob7 _ _ _ _ _ _ _) ks
  have B3 := (B2.kp kb id).kp ks ne
  have K3 := (K2.trans kb.wide).trans (own2 (r := r) ks (Nat.le_of_lt z2))
  generalize set7 w2' w2.heap.size (.string { data := #[] }) (.int .i64 0) (.int .i64 0) (.int .i64 0) (.int .i64 0) (.int .u32 0) (.int .i64 ((eM m s).1 : Int)) = w3 at *
  generalize hgg : w2.heap.size = g at *
  refine (c111 d3 hl' 1).mono ?_
  rw [show numR m 1 (eM m s).2 = eN m s from rfl]
  rintro v w4 ⟨rfl, k4, d4⟩
  have lN : (eN m s).1 < 256 := numR_lt1 _ _
  have C4 := C3.kp k4 nn2
  have B4 := B3.kp k4 nn0
  have K4 := K3.trans (own1 k4)
  refine ⟨_, rfl, ks2 k4 n0 B3.lt n2 C3.lt, wr64 (by omega) fun _ => (c111 d4 hl' 4).mono ?_⟩
  rw [show numR m 4 (eN m s).2 = eA m s from rfl]
  rintro v w5 ⟨rfl, k5, d5⟩
  have lA : (eA m s).1 < 4294967296 := numR_lt4 _ _
  have C5 := C4.kp k5 nn2
  have B5 := B4.kp k5 nn0
  have K5 := K4.trans (own1 k5)
  refine ⟨_, rfl, ks2 k5 n0 B4.lt n2 C4.lt, wr64 (by omega) fun _ => (c111 d5 hl' 4).mono ?_⟩
  rw [show numR m 4 (eA m s).2 = eZ m s from rfl]
  rintro v w6 ⟨rfl, k6, d6⟩
  have lZ : (eZ m s).1 < 4294967296 := numR_lt4 _ _
  have C6 := C5.kp k6 nn2
  have B6 := B5.kp k6 nn0
  have K6 := K5.trans (own1 k6)
  refine ⟨_, rfl, ks2 k6 n0 B5.lt n2 C5.lt, wr64 (by omega) fun _ => (c111 d6 hl' 4).mono ?_⟩
  rw [show numR m 4 (eZ m s).2 = eR m s from rfl]
  rintro v w7 ⟨rfl, k7, d7⟩
  have lR : (eR m s).1 < 4294967296 := numR_lt4 _ _
  have C7 := C6.kp k7 nn2
  have B7 := B6.kp k7 nn0
  have K7 := K6.trans (own1 k7)
  refine ⟨_, rfl, ks2 k7 n0 B6.lt n2 C6.lt, wr64 (by omega) fun _ => (c111 d7 hl' 4).mono ?_⟩
  rw [show numR m 4 (eR m s).2 = eU m s from rfl]
  rintro v w8 ⟨rfl, k8, d8⟩
  have C8 := C7.kp k8 nn2
  have B8 := B7.kp k8 nn0
  have K8 := K7.trans (own1 k8)
  refine ⟨_, rfl, ks2 k8 n0 B7.lt n2 C7.lt, fun _ => ?_⟩
  have kt := kp_set4 w8 g (.int .i64 ((eA m s).1 : Int)) (.int .i64 ((eZ m s).1 : Int)) (.int .i64 ((eR m s).1 : Int)) (.int .u32 ((eU m s).1 : Int))
  have C9 := big_set4 (a := .int .i64 ((eA m s).1 : Int)) (b := .int .i64 ((eZ m s).1 : Int)) (c := .int .i64 ((eR m s).1 : Int)) (d := .int .u32 ((eU m s).1 : Int)) C8
  have d9 := d8.beside (fun h => n2 h.symm) C8 (nob7 _ _ _ _ _ _ _) kt
  have B9 := B8.kp kt ne
  have K9 := K8.trans (own2 (r := r) kt (Nat.le_of_lt z2))
  generalize set4 w8 g (.int .i64 ((eA m s).1 : Int)) (.int .i64 ((eZ m s).1 : Int)) (.int .i64 ((eR m s).1 : Int)) (.int .u32 ((eU m s).1 : Int)) = w9 at *
  refine (c110 d9 hl' _ (by omega)).mono ?_
  rw [show bytR m ((eN m s).1 : Int) (eU m s).2 = eB m s from rfl]
  have lB : (eB m s).1.length ≤ m.length := bytR_len _ _ _
  rintro v w10 ⟨q9, c9, rfl, _, b9, k10, d10⟩
  have C10 := C9.kp k10 nn2
  have B10 := B9.kp k10 nn0
  have K10 := K9.trans (own1 k10)
  refine ⟨_, _, _, rfl, ks2 k10 n0 B9.lt n2 C9.lt, ba (eB m s).1, ba_size _, b9, fun _ => ?_⟩
  have ku : Kp (one_ g) w10 (w10.setCell ⟨g, 0, none⟩ (.string (ba (eB m s).1))).drew := ((Kp.refl (one_ g) w10).setCell (x := ⟨g, 0, none⟩) _ (.inl rfl)).drew
  have C11 : Big (w10.setCell ⟨g, 0, none⟩ (.string (ba (eB m s).1))).drew g 50 [.string (ba (eB m s).1), .int .i64 ((eA m s).1 : Int), .int .i64 0, .int .i64 ((eR m s).1 : Int), .int .i64 ((eZ m s).1 : Int), .int .u32 ((eU m s).1 : Int), .int .i64 ((eM m s).1 : Int)] := C10.set 0 _
  have d11 := d10.beside (fun h => n2 h.symm) C10 (nob7 _ _ _ _ _ _ _) ku
  have B11 := B10.kp ku ne
  have K11 := K10.trans (own2 (r := r) ku (Nat.le_of_lt z2))
  generalize (w10.setCell ⟨g, 0, none⟩ (.string (ba (eB m s).1))).drew = w11 at *
  refine (c52 _ (by rw [ba_size]; omega) w11).mono ?_
  rintro v wx ⟨rfl, e⟩
  obtain rfl := e.symm
  have hsz : ((ba (eB m s).1).size : Int) ≤ 1000000 := by rw [ba_size]; omega
  refine ⟨_, rfl, (Kp.refl none_ _).keeps (fun b hb => ?_), C11.cell 1, wr64 (by omega) fun _ => ?_⟩
  · simp only [List.mem_cons, List.not_mem_nil, or_false] at hb
    rcases hb with rfl | rfl
    · exact ⟨B11.lt, id⟩
    · exact ⟨C11.lt, id⟩
  have kv : Kp (one_ g) w11 (w11.setCell ⟨g, 2, none⟩ (.int .i64 (((eA m s).1 : Int) + (22 + ((ba (eB m s).1).size : Int))))) := (Kp.refl (one_ g) w11).setCell (x := ⟨g, 2, none⟩) _ (.inl rfl)
  have d12 := d11.beside (fun h => n2 h.symm) C11 (nob7 _ _ _ _ _ _ _) kv
  have B12 := B11.kp kv ne
  have K12 := K11.trans (own2 (r := r) kv (Nat.le_of_lt z2))
  generalize w11.setCell ⟨g, 2, none⟩ (.int .i64 (((eA m s).1 : Int) + (22 + ((ba (eB m s).1).size : Int)))) = w12 at *
  have kz := kp_set7 w12 w.heap.size (.string (ba (eB m s).1)) (.int .i64 ((eA m s).1 : Int)) (.int .i64 (((eA m s).1 : Int) + (22 + ((ba (eB m s).1).size : Int)))) (.int .i64 ((eR m s).1 : Int)) (.int .i64 ((eZ m s).1 : Int)) (.int .u32 ((eU m s).1 : Int)) (.int .i64 ((eM m s).1 : Int))
  have d13 := d12.beside (fun h => n0 h.symm) B12 (nob7 _ _ _ _ _ _ _) kz
  have K13 := K12.trans (own2 (r := r) kz (Nat.le_refl _))
  exact ⟨_, rfl, rfl, K13.mono fun i hi h => by
    rcases h with h | h
    · exact h
    · omega, d13⟩
end Go.Proofs.YtbpknjldphckgaaDoor
