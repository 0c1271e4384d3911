/- Whether members may be, and are a directory. -/
import Derived.Test.YtbpknjldphckgaaDoorEa
namespace Go.Proofs.YtbpknjldphckgaaDoor
open Go Go.SX Go.SX.Crc Go.Proofs Go.Lib
set_option maxRecDepth 100000
set_option linter.unusedVariables false
set_option linter.unusedSimpArgs false
/-! ### Great values of seven cells -/
def set7 (w : World) (g : Nat) (v0 v1 v2 v3 v4 v5 v6 : Value) : World := ((((((w.setCell ⟨g, 0, none⟩ v0).setCell ⟨g, 1, none⟩ v1).setCell ⟨g, 2, none⟩ v2).setCell ⟨g, 3, none⟩ v3).setCell ⟨g, 4, none⟩ v4).setCell ⟨g, 5, none⟩ v5).setCell ⟨g, 6, none⟩ v6
theorem set7_def (w : World) (g : Nat) (v0 v1 v2 v3 v4 v5 v6 : Value) : ((((((w.setCell ⟨g, 0, none⟩ v0).setCell ⟨g, 1, none⟩ v1).setCell ⟨g, 2, none⟩ v2).setCell ⟨g, 3, none⟩ v3).setCell ⟨g, 4, none⟩ v4).setCell ⟨g, 5, none⟩ v5).setCell ⟨g, 6, none⟩ v6 = set7 w g v0 v1 v2 v3 v4 v5 v6 := rfl
theorem big_set7 {w : World} {g : Nat} {e : TypeId} {a b c d f h i v0 v1 v2 v3 v4 v5 v6 : Value} (H : Big w g e [a, b, c, d, f, h, i]) : Big (set7 w g v0 v1 v2 v3 v4 v5 v6) g e [v0, v1, v2, v3, v4, v5, v6] := ((((((H.set 0 v0).set 1 v1).set 2 v2).set 3 v3).set 4 v4).set 5 v5).set 6 v6
theorem kp_set7 (w : World) (g : Nat) (v0 v1 v2 v3 v4 v5 v6 : Value) : Kp (one_ g) w (set7 w g v0 v1 v2 v3 v4 v5 v6) :=
  (((((((Kp.refl (one_ g) w).setCell (x := ⟨g, 0, none⟩) v0 (.inl rfl)).setCell (x := ⟨g, 1, none⟩) v1 (.inl rfl)).setCell (x := ⟨g, 2, none⟩) v2 (.inl rfl)).setCell (x := ⟨g, 3, none⟩) v3 (.inl rfl)).setCell (x := ⟨g, 4, none⟩) v4 (.inl rfl)).setCell (x := ⟨g, 5, none⟩) v5 (.inl rfl)).setCell (x := ⟨g, 6, none⟩) v6 (.inl rfl)
theorem newset7 {w w' : World} {v0 v1 v2 v3 v4 v5 v6 : Value} {cs : Array Value} {e : TypeId} (k : Kp none_ w w') : Kp none_ w (set7 (w'.alloc (.cells cs e)) w'.heap.size v0 v1 v2 v3 v4 v5 v6) :=
  (((k.alloc1 (.cells cs e)).wide.trans (kpE (kp_set7 _ _ _ _ _ _ _ _ _) k.size)).narrow (Nat.le_refl _))
theorem newset7_lt {w' : World} {v0 v1 v2 v3 v4 v5 v6 : Value} {cs : Array Value} {e : TypeId} : w'.heap.size < (set7 (w'.alloc (.cells cs e)) w'.heap.size v0 v1 v2 v3 v4 v5 v6).heap.size :=
  Nat.lt_of_lt_of_le (by rw [alloc_size]; omega) (kp_set7 (w'.alloc (.cells cs e)) w'.heap.size v0 v1 v2 v3 v4 v5 v6).size
theorem bytesL_ba (l : List UInt8) : bytesL (ba l) = l := ba_list _
theorem toList_ba (l : List UInt8) : (ba l).toList = l := by rw [ByteArray.toList_eq, ba_list]
theorem c44 {w : World} (hml : ML w) (b : Mb) (hl : b.s.length ≤ 1000000) : Rets Tryd.prog 44 #[mbV b] w fun v w' => v = .bool (okMb b) ∧ Kp none_ w w' := by
  refine ent [_] Tryd.func44 ((vcTryd44 _ _ _ _ _ _ _ w _).mpr ?_)
  unfold VCTryd44
  intro _
  have ka : Kp none_ w (w.alloc (.cells #[.string (ba b.s), .int .i64 b.a, .int .i64 b.f, .int .i64 b.r, .int .i64 b.z, .int .u32 b.u, .int .i64 b.m] 50)).drew := ((Kp.refl none_ w).alloc1 _).drew
  have B0 : Big (w.alloc (.cells #[.string (ba b.s), .int .i64 b.a, .int .i64 b.f, .int .i64 b.r, .int .i64 b.z, .int .u32 b.u, .int .i64 b.m] 50)).drew w.heap.size 50 [.string (ba b.s), .int .i64 b.a, .int .i64 b.f, .int .i64 b.r, .int .i64 b.z, .int .u32 b.u, .int .i64 b.m] := Big.new w _ 50
  generalize (w.alloc (.cells #[.string (ba b.s), .int .i64 b.a, .int .i64 b.f, .int .i64 b.r, .int .i64 b.z, .int .u32 b.u, .int .i64 b.m] 50)).drew = w0 at *
  have z0 : w.heap.size < w0.heap.size := B0.lt
  have c1 : w0.cell? ⟨w.heap.size, 1, none⟩ = some (.int .i64 b.a) := B0.cell 1
  have c2 : w0.cell? ⟨w.heap.size, 2, none⟩ = some (.int .i64 b.f) := B0.cell 2
  have fin : ∀ {t : Bool} {w' : World}, Kp none_ w0 w' → okMb b = t → ∃ v, Ending.returned (.bool t) = Ending.returned v ∧ v = .bool (okMb b) ∧ Kp none_ w w' := fun k e => ⟨_, rfl, by rw [e], ka.trans k⟩
  have no : (okName b.s = false ∨ ¬ ((0 ≤ b.m ∧ b.m ≤ 2) ∧ (1024 ≤ b.a ∧ b.a ≤ 1073741824) ∧ b.f = b.a + (22 + b.s.length : Nat) ∧ (0 ≤ b.r ∧ b.r ≤ 262144) ∧ (0 ≤ b.z ∧ b.z ≤ 65536))) → okMb b = false := fun h => by
    unfold okMb
    rcases h with h | h
    · rw [h, Bool.false_and]
    · rw [decide_eq_false h, Bool.and_false]
  have hss : ((ba b.s).size : Int) = b.s.length := by rw [ba_size]
  refine (c119 _ _ _ w0).mono ?_
  rintro v wx ⟨rfl, e⟩
  obtain rfl := e.symm
  refine ⟨_, rfl, (Kp.refl none_ _).k0 z0, bif_dec (fun h1 _ => (c52 _ (by rw [ba_size]; omega) w0).mono ?_) (fun h1 _ => fin (Kp.refl _ _) (no (.inr (by omega))))⟩
  rintro v wx ⟨rfl, e⟩
  obtain rfl := e.symm
  refine ⟨_, rfl, (Kp.refl none_ _).k0 z0, c1, c2, wr64 (by omega) (bif_eq (fun h2 _ => (c104 (hml.kp0 ka) _).mono ?_) (fun h2 _ => fin (Kp.refl _ _) (no (.inr (by omega)))))⟩
  rintro v w1 ⟨rfl, k1⟩
  rw [bytesL_ba]
  have z1 := Nat.lt_of_lt_of_le z0 k1.size
  refine ⟨_, rfl, k1.k0 z0, bif_b (fun h3 _ => (c119 _ _ _ w1).mono ?_) (fun h3 _ => fin k1 (no (.inl h3)))⟩
  rintro v wx ⟨rfl, e⟩
  obtain rfl := e.symm
  refine ⟨_, rfl, (Kp.refl none_ _).k0 z1, bif_dec (fun h4 _ => (c119 _ _ _ w1).mono ?_) (fun h4 _ => fin k1 (no (.inr (by omega))))⟩
  rintro v wx ⟨rfl, e⟩
  obtain rfl := e.symm
  refine ⟨_, rfl, (Kp.refl none_ _).k0 z1, bif_dec (fun h5 _ => (c119 _ _ _ w1).mono ?_) (fun h5 _ => fin k1 (no (.inr (by omega))))⟩
  rintro v wx ⟨rfl, e⟩
  obtain rfl := e.symm
  refine ⟨_, rfl, (Kp.refl none_ _).k0 z1, fun _ => fin k1 ?_⟩
  unfold okMb
  rw [h3, Bool.true_and]
  exact decide_eq_decide.2 (by omega)
theorem c45 {w : World} (b : Mb) (hl : b.s.length ≤ 1000000) (hw : b.wf) : Rets Tryd.prog 45 #[mbV b] w fun v w' => v = .bool (okMb b) ∧ Kp none_ w w' := by
  refine ent [_] Tryd.func45 ((vcTryd45 _ _ _ _ _ _ _ w _).mpr ?_)
  unfold VCTryd45
  intro _
  have ka : Kp none_ w (w.alloc (.cells #[.string (ba b.s), .int .i64 b.a, .int .i64 b.f, .int .i64 b.r, .int .i64 b.z, .int .u32 b.u, .int .i64 b.m] 50)) := (Kp.refl none_ w).alloc1 _
  have z0 : w.heap.size < (w.alloc (.cells #[.string (ba b.s), .int .i64 b.a, .int .i64 b.f, .int .i64 b.r, .int .i64 b.z, .int .u32 b.u, .int .i64 b.m] 50)).heap.size := by rw [alloc_size]; omega
  generalize w.alloc (.cells #[.string (ba b.s), .int .i64 b.a, .int .i64 b.f, .int .i64 b.r, .int .i64 b.z, .int .u32 b.u, .int .i64 b.m] 50) = w0 at *
  have no : (okName b.s = false ∨ ¬ ((0 ≤ b.m ∧ b.m ≤ 2) ∧ (1024 ≤ b.a ∧ b.a ≤ 1073741824) ∧ b.f = b.a + (22 + b.s.length : Nat) ∧ (0 ≤ b.r ∧ b.r ≤ 262144) ∧ (0 ≤ b.z ∧ b.z ≤ 65536))) → okMb b = false := fun h => by
    unfold okMb
    rcases h with h | h
    · rw [h, Bool.false_and]
    · rw [decide_eq_false h, Bool.and_false]
  have hss : ((ba b.s).size : Int) = b.s.length := by rw [ba_size]
  refine (c29 _ w0).mono ?_
  rintro v w1 ⟨rfl, k1⟩
  rw [bytesL_ba]
  have fin : ∀ {t : Bool}, okMb b = t → ∃ v, Ending.returned (.bool t) = Ending.returned v ∧ v = .bool (okMb b) ∧ Kp none_ w w1 := fun e => ⟨_, rfl, by rw [e], ka.trans k1⟩
  obtain ⟨wa, wf, wu⟩ := hw
  refine ⟨_, rfl, k1.k0 z0, bif_not (fun h _ => fin (no (.inl h))) (fun h0 => bif_dec (fun h1 _ => fin (no (.inr (by omega)))) (fun h1 => bif_dec (fun h2 _ => fin (no (.inr (by omega)))) (fun h2 => bif_dec (fun h3 _ => fin (no (.inr (by omega)))) (fun h3 => bif_dec (fun h4 _ => fin (no (.inr (by omega)))) (fun h4 => ?_)))))⟩
  by_cases hbig : b.f - b.a < -9223372036854775808
  · unfold Wr
    have e1 : IntKind.wrap .i64 (b.f - b.a) = b.f - b.a + 18446744073709551616 := by
      simp [IntKind.wrap, IntKind.signed, IntKind.bits]
      omega
    rw [e1, wrap64 (by omega)]
    exact bif_ne (fun _ _ => fin (no (.inr (by omega)))) (fun h => absurd h (by omega))
  refine wr64 (by omega) (wr64 (by omega) (bif_ne (fun h5 _ => fin (no (.inr (by omega)))) (fun h5 => bif_dec (fun h6 _ => fin (no (.inr (by omega)))) (fun h6 => bif_dec (fun h7 _ => fin (no (.inr (by omega)))) (fun h7 => bif_dec (fun h8 _ => fin ?_) (fun h8 _ => fin (no (.inr (by omega)))))))))
  unfold okMb
  rw [h0, Bool.true_and]
  exact decide_eq_decide.2 (by omega)
end Go.Proofs.YtbpknjldphckgaaDoor
