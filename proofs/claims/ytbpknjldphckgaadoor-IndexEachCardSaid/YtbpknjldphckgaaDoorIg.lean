/- Index: what must come at any rate; calls one behind the other. -/
import Derived.Test.YtbpknjldphckgaaDoorIf
import Derived.Test.YtbpknjldphckgaaDoorVcj
namespace Go.Proofs.YtbpknjldphckgaaDoor
open Go Go.SX Go.Proofs Go.Lib
set_option maxRecDepth 100000
set_option linter.unusedVariables false
set_option linter.unusedSimpArgs false
theorem c123 (w : World) : Rets Tryd.prog 123 #[] w fun v w' => v = mbV m0 ∧ Kp none_ w w' := by
  refine ent [] Tryd.func123 ((vcTryd123 w _).mpr ?_)
  unfold VCTryd123
  simp only [set7_def]
  exact fun _ => ⟨_, rfl, rfl, newset7 (Kp.refl none_ w)⟩
theorem MbAt.of_big {w : World} {g : Nat} {b : Mb} (B : Big w g 50 (mbC b)) : MbAt w ⟨g, 0, none⟩ b := by
  refine ⟨?_, ?_, ?_, ?_, ?_, ?_, ?_⟩ <;> (rw [ad_add, Nat.zero_add, B.cell]; rfl)
theorem c66 {w : World} (hml : ML w) : Rets Tryd.prog 66 #[] w fun v w' => v = .bool true ∧ Kp none_ w w' := by
  refine ent [] Tryd.func66 ((vcTryd66 w _).mpr ?_)
  unfold VCTryd66
  simp only [set7_def]
  have e1 : okDir ([] : List Mb) = true := by decide
  have e2 : putErr [] m0 = 0 := by decide +kernel
  have e3 : putL [] m0 = [m0] := by decide +kernel
  have e4 : getM [m0] [97] = (m0, true) := by decide +kernel
  refine (c67 (q := none) (c := 0) (l := []) hml (fun i hi => by simp at hi) (fun b hb => by cases hb) (by simp)).mono ?_
  rintro v w1 ⟨k1, ⟨h, _⟩ | ⟨_, b, hb, rfl, x1⟩⟩
  · rw [e1] at h; cases h
  refine ⟨_, _, rfl, k1.keeps0, bif_ne (fun h => absurd rfl h) (fun _ => bif_b (fun h => by cases h) (fun _ => (c123 w1).mono ?_))⟩
  rintro v w2 ⟨rfl, k2⟩
  have K2 := k1.trans k2
  refine ⟨_, _, _, _, _, _, _, rfl, k2.keeps0, (c74 (hml.kp0 K2) (x1.kp0 k2) trivial (by simp) m0 (by decide)).mono ?_⟩
  rw [e2, e3]
  rintro v w3 ⟨rfl, x3, k3⟩
  have x3' := x3.mono (O' := fun i => w.heap.size ≤ i) fun i _ hi => hi.elim id fun hf => Nat.le_trans K2.size hf
  have K3 : Kp (fun i => w.heap.size ≤ i) w w3 := K2.wide.trans k3
  have hml3 : ML w3 := hml.far K3 (Nat.le_refl _)
  have a1 : Asc kM [m0] := ⟨fun c hc => (by cases hc), trivial⟩
  refine ⟨_, rfl, k3.keeps0, bif_ne (fun h => absurd rfl h) (fun _ => (c73 x3' a1 (by simp) ⟨#[97]⟩).mono ?_)⟩
  rw [show bytesL ⟨#[97]⟩ = [97] from rfl, e4]
  rintro v w4 ⟨rfl, k4⟩
  have x4 := x3'.kp0 k4
  have e5 : lenL [m0] = 19 := rfl
  have e6 : m0.s.length ≤ 200 := by decide
  clear e1 e2 e3 e4
  generalize hmm : m0 = mm at *
  refine ⟨_, _, _, _, _, _, _, _, rfl, k4.keeps0, ?_⟩
  dsimp only
  rw [cond_true]
  intro _
  have kn := (newset7 (v0 := .string (ba mm.s)) (v1 := .int .i64 mm.a) (v2 := .int .i64 mm.f) (v3 := .int .i64 mm.r) (v4 := .int .i64 mm.z) (v5 := .int .u32 mm.u) (v6 := .int .i64 mm.m) (cs := #[.string { data := #[] }, .int .i64 0, .int .i64 0, .int .i64 0, .int .i64 0, .int .u32 0, .int .i64 0]) (e := 50) (Kp.refl none_ w4)).drew
  have B0 := big_set7 (v0 := .string (ba mm.s)) (v1 := .int .i64 mm.a) (v2 := .int .i64 mm.f) (v3 := .int .i64 mm.r) (v4 := .int .i64 mm.z) (v5 := .int .u32 mm.u) (v6 := .int .i64 mm.m) (Big.new w4 #[.string { data := #[] }, .int .i64 0, .int .i64 0, .int .i64 0, .int .i64 0, .int .u32 0, .int .i64 0] 50)
  have Bn := B0.kp (Kp.refl none_ _).drew id
  clear B0
  generalize (set7 (w4.alloc (.cells #[.string { data := #[] }, .int .i64 0, .int .i64 0, .int .i64 0, .int .i64 0, .int .u32 0, .int .i64 0] 50)) w4.heap.size (.string (ba mm.s)) (.int .i64 mm.a) (.int .i64 mm.f) (.int .i64 mm.r) (.int .i64 mm.z) (.int .u32 mm.u) (.int .i64 mm.m)).drew = wn at *
  have zn := Bn.lt
  have xn := x4.kp0 kn
  have c123' := c123 wn
  rw [hmm] at c123'
  refine c123'.mono ?_
  rintro v w5 ⟨rfl, k5⟩
  have m5 := MbAt.of_big (Bn.kp k5 id)
  refine ⟨_, _, _, _, _, _, _, rfl, k5.k0 zn, ⟨m5.c0, m5.c1, m5.c2, m5.c3, m5.c4, m5.c5, m5.c6, trivial⟩, by first | rfl | trivial, ?_⟩
  have x5 := xn.kp0 k5
  have K5 : Kp (fun i => w.heap.size ≤ i) w w5 := ((K3.trans k4.wide).trans kn.wide).trans k5.wide
  have z5 := Nat.lt_of_lt_of_le zn k5.size
  rw [mb_eq, decide_eq_true rfl, cond_true]
  refine fun _ => (c69 x5).mono ?_
  rintro v wx ⟨rfl, e⟩
  obtain rfl := e.symm
  refine ⟨_, rfl, (Kp.refl none_ _).k0 z5, ?_⟩
  show _ → Rets _ _ _ _ _
  refine fun _ => (c71 x5 (fun b hb => by rw [List.mem_singleton] at hb; subst hb; exact e6) (by simp)).mono ?_
  rintro v w6 ⟨rfl, k6⟩
  refine ⟨_, rfl, k6.k0 z5, fun _ => ⟨_, rfl, ?_, (K5.trans k6.wide).narrow (Nat.le_refl _)⟩⟩
  rw [e5]; rfl
end Go.Proofs.YtbpknjldphckgaaDoor
