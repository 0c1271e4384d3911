/- EntrySames walked. -/
import Derived.Test.YtbpknjldphckgaaDoorEg
namespace Go.Proofs.YtbpknjldphckgaaDoor
open Go Go.SX Go.SX.Crc Go.Proofs Go.Lib
set_option maxRecDepth 100000
set_option linter.unusedVariables false
set_option linter.unusedSimpArgs false
def m0 : Mb := ⟨[97], 1024, 1047, 0, 0, 0, 0⟩
theorem okM0 : okDir [m0] = true := by decide +kernel
theorem takeM0 : takeD (dirB [m0]) 1 = ([m0], 0) := by decide +kernel
theorem lenM0 : (dirB [m0]).length = 19 := by decide +kernel
theorem c37 {w : World} (hml : ML w) : Rets Tryd.prog 37 #[] w fun v w' => v = .bool true ∧ Kp none_ w w' := by
  refine ent [] Tryd.func37 ((vcTryd37 w _).mpr ?_)
  unfold VCTryd37
  simp only [set7_def]
  intro _
  have kn := newset7 (v0 := .string { data := #[97] }) (v1 := .int .i64 1024) (v2 := .int .i64 1047) (v3 := .int .i64 0) (v4 := .int .i64 0) (v5 := .int .u32 0) (v6 := .int .i64 0) (cs := #[.string { data := #[] }, .int .i64 0, .int .i64 0, .int .i64 0, .int .i64 0, .int .u32 0, .int .i64 0]) (e := 50) (Kp.refl none_ w)
  have zn : w.heap.size < (set7 (w.alloc (.cells #[.string { data := #[] }, .int .i64 0, .int .i64 0, .int .i64 0, .int .i64 0, .int .u32 0, .int .i64 0] 50)) w.heap.size (.string { data := #[97] }) (.int .i64 1024) (.int .i64 1047) (.int .i64 0) (.int .i64 0) (.int .u32 0) (.int .i64 0)).heap.size := newset7_lt
  generalize set7 (w.alloc (.cells #[.string { data := #[] }, .int .i64 0, .int .i64 0, .int .i64 0, .int .i64 0, .int .u32 0, .int .i64 0] 50)) w.heap.size (.string { data := #[97] }) (.int .i64 1024) (.int .i64 1047) (.int .i64 0) (.int .i64 0) (.int .u32 0) (.int .i64 0) = wn at *
  have ka : Kp none_ wn (wn.alloc (.cells #[.string { data := #[97] }, .int .i64 1024, .int .i64 1047, .int .i64 0, .int .i64 0, .int .u32 0, .int .i64 0] 50)) := (Kp.refl none_ wn).alloc1 _
  have B : Big (wn.alloc (.cells #[.string { data := #[97] }, .int .i64 1024, .int .i64 1047, .int .i64 0, .int .i64 0, .int .u32 0, .int .i64 0] 50)) wn.heap.size 50 (mbC m0) := Big.new wn _ 50
  generalize wn.alloc (.cells #[.string { data := #[97] }, .int .i64 1024, .int .i64 1047, .int .i64 0, .int .i64 0, .int .u32 0, .int .i64 0] 50) = w0 at *
  have k0 := kn.trans ka
  have z0 := Nat.lt_of_lt_of_le zn ka.size
  have mems : MemsAt w0 (some ⟨wn.heap.size, 0, none⟩) [m0] := fun i hi => by
    have : i = 0 := by simp at hi; omega
    subst this
    exact ⟨_, rfl, B.cell 0, B.cell 1, B.cell 2, B.cell 3, B.cell 4, B.cell 5, B.cell 6⟩
  have hwf : ∀ b ∈ [m0], b.s.length ≤ 1000000 ∧ b.wf := fun b hb => by
    rw [List.mem_singleton] at hb
    subst hb
    exact ⟨by decide, by decide, by decide, by decide⟩
  refine (c41 (hml.kp0 k0) mems hwf).mono ?_
  rw [okM0]
  simp only [if_true]
  rintro v w1 ⟨q, n, c, rfl, b1, k1⟩
  obtain ⟨rfl, hc, _⟩ := b1.lens
  have k01 := k0.trans k1
  have z1 := Nat.lt_of_lt_of_le z0 k1.size
  refine ⟨_, _, _, _, rfl, k1.k0 z0, fun _ => (c117 (hml.kp0 k01) b1.bytes hc (by rw [lenM0]; omega) 1).mono ?_⟩
  rw [takeM0]
  rintro v w2 ⟨q2, c2, rfl, m2, k2⟩
  have k02 := k01.trans k2
  rw [lenM0]
  refine ⟨_, _, _, _, rfl, k2.k0 z1, ?_⟩
  show cond true (cond true (cond true (cond true _ _) _) _) _
  simp only [cond_true]
  have kd : Kp none_ w2 w2.drew := Kp.drew1
  obtain ⟨x, rfl, mx⟩ := m2 0 (by decide)
  have mx' := mx.kp0 kd
  refine ⟨⟨by decide, by decide⟩, ?_⟩
  rw [ptr_some]
  refine ⟨_, _, _, _, _, _, _, ⟨mx'.c0, mx'.c1, mx'.c2, mx'.c3, mx'.c4, mx'.c5, mx'.c6, trivial⟩, ?_⟩
  first
  | exact ⟨rfl, fun _ => ⟨_, rfl, by rw [beq_ba]; rfl, k02.trans kd⟩⟩
  | exact ⟨trivial, fun _ => ⟨_, rfl, by rw [beq_ba]; rfl, k02.trans kd⟩⟩
  | exact fun _ => ⟨_, rfl, by rw [beq_ba]; rfl, k02.trans kd⟩
theorem c6 {W : World} (hml : ML W) {q r : Option Addr} {c d : Nat} {l m : List Mb} (hq : MemsAt W q l) (hr : MemsAt W r m) : Rets Tryd.prog 6 #[.slice q l.length c, .slice r m.length d] W fun v w' => v = .bool true ∧ Kp none_ W w' := by
  refine ent [_, _] Tryd.func6 ((vcTryd6 _ _ _ _ _ _ W _).mpr ?_)
  unfold VCTryd6
  have live : ∀ {w : World}, Kp none_ W w → Rets Tryd.prog 37 #[] w fun v w' => ∃ t, v = .bool t ∧ Keeps w w' [] ∧ ∃ v, Ending.returned (Value.bool t) = Ending.returned v ∧ v = .bool true ∧ Kp none_ W w' := fun k => (c37 (hml.kp0 k)).mono (by
    rintro v w' ⟨rfl, k2⟩
    exact ⟨_, rfl, k2.keeps0, _, rfl, rfl, k.trans k2⟩)
  refine (c36 hq).mono ?_
  rintro v wx ⟨t, rfl, e, ht⟩
  obtain rfl := e.symm
  refine ⟨_, rfl, (Kp.refl none_ _).keeps0, bif_b (fun _ => live (Kp.refl _ _)) (fun h1 => (c36 hr).mono ?_)⟩
  obtain ⟨hl, _⟩ := ht h1
  rintro v wx ⟨t2, rfl, e, ht2⟩
  obtain rfl := e.symm
  refine ⟨_, rfl, (Kp.refl none_ _).keeps0, bif_b (fun _ => live (Kp.refl _ _)) (fun h2 => (c38 hq hr (by omega)).mono ?_)⟩
  rintro v w1 ⟨rfl, k1⟩
  refine ⟨_, rfl, k1.keeps0, (c39 (hq.kp0 k1) (hr.kp0 k1) (by omega)).mono ?_⟩
  rintro v w2 ⟨rfl, k2⟩
  have k02 := k1.trans k2
  refine ⟨_, rfl, k2.keeps0, bif_b (fun _ => (c38 (hq.kp0 k02) (hq.kp0 k02) (by omega)).mono ?_) (fun h => by simp at h)⟩
  rintro v w3 ⟨rfl, k3⟩
  refine ⟨_, rfl, k3.keeps0, bif_dec (fun _ => live (k02.trans k3)) (fun h => absurd rfl h)⟩
end Go.Proofs.YtbpknjldphckgaaDoor
