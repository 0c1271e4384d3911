/- IndexNone walked. -/
import Derived.Test.YtbpknjldphckgaaDoorIl
import Derived.Test.YtbpknjldphckgaaDoorVcm
namespace Go.Proofs.YtbpknjldphckgaaDoor
open Go Go.SX Go.Proofs Go.Lib
set_option maxRecDepth 100000
set_option linter.unusedVariables false
set_option linter.unusedSimpArgs false
theorem c73n (s : ByteArray) (w : World) : Rets Tryd.prog 73 #[.pointer none, .string s] w fun v w' => v = .tuple #[mbV mb0, .bool false] ∧ Kp none_ w w' := by
  refine ent [_, _] Tryd.func73 ((vcTryd73 _ _ w _).mpr ?_)
  unfold VCTryd73
  simp only [set7_def]
  exact bif_b (fun _ _ => ⟨_, rfl, rfl, newset7 (Kp.refl none_ w)⟩) (fun h => by cases h)
theorem c69n (w : World) : Rets Tryd.prog 69 #[.pointer none] w fun v w' => v = .int .i64 0 ∧ w' = w := by
  refine ent [_] Tryd.func69 ((vcTryd69 _ w _).mpr ?_)
  exact ⟨_, rfl, rfl, rfl⟩
theorem c74n (m : Mb) (w : World) : Rets Tryd.prog 74 #[.pointer none, mbV m] w fun v w' => v = .int .i64 1 ∧ Kp none_ w w' := by
  refine ent [_, _] Tryd.func74 ((vcTryd74 _ _ _ _ _ _ _ _ w _).mpr ?_)
  unfold VCTryd74
  exact bif_b (fun _ _ => ⟨_, rfl, rfl, (Kp.refl none_ w).alloc1 _⟩) (fun h => by cases h)
theorem c75n (s : ByteArray) (w : World) : Rets Tryd.prog 75 #[.pointer none, .string s] w fun v w' => v = .bool false ∧ w' = w := by
  refine ent [_, _] Tryd.func75 ((vcTryd75 _ _ w _).mpr ?_)
  exact ⟨_, rfl, rfl, rfl⟩
theorem c80n (s : ByteArray) (w : World) : Rets Tryd.prog 80 #[.pointer none, .string s] w fun v w' => v = .bool false ∧ w' = w := by
  refine ent [_, _] Tryd.func80 ((vcTryd80 _ _ w _).mpr ?_)
  exact ⟨_, rfl, rfl, rfl⟩
theorem c71n (w : World) : Rets Tryd.prog 71 #[.pointer none] w fun v w' => v = .int .i64 0 ∧ w' = w := by
  refine ent [_] Tryd.func71 ((vcTryd71 _ w _).mpr ?_)
  exact ⟨_, rfl, rfl, rfl⟩
theorem IxAt.tell {w : World} {O : Nat → Prop} {b : Nat} {l : List Mb} (h : IxAt w O b l) {K : Option Addr → Nat → Nat → Prop} (hK : ∀ q n c, K q n c) : ∃ q n c, w.cell? ⟨b, 0, none⟩ = some (.slice q n c) ∧ w.frozen? ⟨b, 0, none⟩ = false ∧ K q n c := by
  obtain ⟨q, c, hc, _⟩ := h.row
  exact ⟨q, _, c, hc, h.frz, hK _ _ _⟩
theorem _root_.Go.SX.Cel.tell1 {w : World} {b : Nat} {i : Int} (h : Cel w b (.int .i64 i)) {K : Int → Prop} (hK : ∀ j, K j) : ∃ j : Int, w.cell? ⟨b, 0, none⟩ = some (.int .i64 j) ∧ w.frozen? ⟨b, 0, none⟩ = false ∧ K j := ⟨i, h.cell, h.frz, hK _⟩
theorem ByteArray_nil : (ByteArray.mk #[]) = ba [] := rfl
theorem c19 {W : World} (hml : ML W) (h00 : 0 < W.heap.size) (m : Mb) (t : List UInt8) : Rets Tryd.prog 19 #[mbV m, .string (ba t)] W fun v w' => v = .bool true ∧ Kp none_ W w' := by
  refine ent [_, _] Tryd.func19 ((vcTryd19 _ _ _ _ _ _ _ _ W _).mpr ?_)
  unfold VCTryd19
  simp (config := { maxSteps := 10000000 }) only [set7_def]
  intro _
  have k0 : Kp none_ W (W.alloc (.cells #[.string (ba m.s), .int .i64 m.a, .int .i64 m.f, .int .i64 m.r, .int .i64 m.z, .int .u32 m.u, .int .i64 m.m] 50)) := (Kp.refl none_ W).alloc1 _
  have z0 : W.heap.size < (W.alloc (.cells #[.string (ba m.s), .int .i64 m.a, .int .i64 m.f, .int .i64 m.r, .int .i64 m.z, .int .u32 m.u, .int .i64 m.m] 50)).heap.size := by rw [alloc_size]; omega
  generalize W.alloc (.cells #[.string (ba m.s), .int .i64 m.a, .int .i64 m.f, .int .i64 m.r, .int .i64 m.z, .int .u32 m.u, .int .i64 m.m] 50) = w0 at *
  have one : ∀ {w : World}, W.heap.size < w.heap.size → ∀ g ∈ [W.heap.size], g < w.heap.size := fun h g hg => by rw [List.mem_singleton] at hg; omega
  refine (c73n (ba t) w0).mono ?_
  rintro v w1 ⟨rfl, k1⟩
  have z1 := Nat.lt_of_lt_of_le z0 k1.size
  refine ⟨_, _, _, _, _, _, _, _, rfl, ks0 k1 (one z0), bif_b (fun h => by cases h) (fun _ _ => ?_)⟩
  obtain ⟨ka, za⟩ := laid7 (w := w1) (b := mb0)
  have Ka := (k0.trans k1).trans ka
  generalize set7 (w1.alloc (.cells #[.string { data := #[] }, .int .i64 0, .int .i64 0, .int .i64 0, .int .i64 0, .int .u32 0, .int .i64 0] 50)) w1.heap.size (.string (ba mb0.s)) (.int .i64 mb0.a) (.int .i64 mb0.f) (.int .i64 mb0.r) (.int .i64 mb0.z) (.int .u32 mb0.u) (.int .i64 mb0.m) = wa at *
  have two : ∀ {w : World}, wa.heap.size ≤ w.heap.size → ∀ g ∈ [W.heap.size, w1.heap.size], g < w.heap.size := fun h g hg => by
    simp only [List.mem_cons, List.not_mem_nil, or_false] at hg
    rcases hg with rfl | rfl <;> omega
  refine (c69n wa).mono ?_
  rintro v wx ⟨rfl, e⟩
  obtain rfl := e.symm
  refine ⟨_, rfl, ks0 (Kp.refl _ _) (two (Nat.le_refl _)), bif_ne (fun h => absurd rfl h) (fun _ _ => (c74n m wa).mono ?_)⟩
  rintro v w2 ⟨rfl, k2⟩
  have K2 := Ka.trans k2
  refine ⟨_, rfl, ks0 k2 (two (Nat.le_refl _)), bif_ne (fun h => absurd rfl h) (fun _ _ => (c75n (ba t) w2).mono ?_)⟩
  rintro v wx ⟨rfl, e⟩
  obtain rfl := e.symm
  refine ⟨_, rfl, ks0 (Kp.refl _ _) (two k2.size), bif_b (fun h => by cases h) (fun _ _ => (c80n (ba t) w2).mono ?_)⟩
  rintro v wx ⟨rfl, e⟩
  obtain rfl := e.symm
  refine ⟨_, rfl, ks0 (Kp.refl _ _) (two k2.size), bif_b (fun h => by cases h) (fun _ _ => (c70N (O := none_) (l := []) (.inl ⟨rfl, rfl⟩) (by simp)).mono ?_)⟩
  rintro v w3 ⟨q3, c3, rfl, r3, k3⟩
  have K3 := K2.trans k3
  refine ⟨_, _, _, rfl, ks0 k3 (two k2.size), bif_ne (fun h => absurd rfl h) (fun _ _ => (c77 (hml.kp0 K3) (Nat.lt_of_lt_of_le h00 K3.size) (O := none_) (l := []) (.inl ⟨rfl, rfl⟩) (by simp) _ (by decide)).mono ?_)⟩
  rintro v w4 ⟨q4, c4, rfl, r4, k4⟩
  have K4 := K3.trans k4
  have s3 := k3.size
  have s2 := k2.size
  refine ⟨_, _, _, rfl, ks0 k4 (two (by omega)), bif_ne (fun h => absurd rfl h) (fun _ _ => (c71n w4).mono ?_)⟩
  rintro v wx ⟨rfl, e⟩
  obtain rfl := e.symm
  have s4 := k4.size
  refine ⟨_, rfl, ks0 (Kp.refl _ _) (two (by omega)), bif_ne (fun h => absurd rfl h) (fun _ _ => ?_)⟩
  -- a zero one
  have k5 : Kp none_ w4 (w4.alloc (.cells #[.slice none 0 0] 103)) := (Kp.refl none_ w4).alloc1 _
  have C5 := Cel.new w4 (.slice none 0 0) 103
  have hb5 : w4.heap.size < (w4.alloc (.cells #[.slice none 0 0] 103)).heap.size := C5.lt
  generalize w4.alloc (.cells #[.slice none 0 0] 103) = w5 at *
  have K5 := K4.trans k5
  have x5 : IxAt w5 (one_ w4.heap.size) w4.heap.size [] := ⟨⟨none, 0, C5.cell, OwnRow.nil _ _ _ _⟩, C5.frz, rfl⟩
  generalize hbx : w4.heap.size = b at *
  have a0 : Asc kM ([] : List Mb) := trivial
  refine (c73 x5 a0 (by simp) (ba t)).mono ?_
  rw [bytesL_ba, getM_no (rfl : has kM ([] : List Mb) t = false)]
  rintro v w6 ⟨rfl, k6⟩
  have x6 := x5.kp0 k6
  have s6 := k6.size
  refine ⟨_, _, _, _, _, _, _, _, rfl, ks0 k6 (two (by omega)), x6.tell fun _ _ _ => ?_⟩
  intro _
  obtain ⟨k7, z7⟩ := laid7 (w := w6) (b := mb0)
  have x7 := x6.kp0 k7
  have K7 := (K5.trans k6).trans k7
  generalize set7 (w6.alloc (.cells #[.string { data := #[] }, .int .i64 0, .int .i64 0, .int .i64 0, .int .i64 0, .int .u32 0, .int .i64 0] 50)) w6.heap.size (.string (ba mb0.s)) (.int .i64 mb0.a) (.int .i64 mb0.f) (.int .i64 mb0.r) (.int .i64 mb0.z) (.int .u32 mb0.u) (.int .i64 mb0.m) = w7 at *
  have three : ∀ {w : World}, w7.heap.size ≤ w.heap.size → ∀ g ∈ [W.heap.size, w1.heap.size, w6.heap.size], g < w.heap.size := fun h g hg => by
    simp only [List.mem_cons, List.not_mem_nil, or_false] at hg
    rcases hg with rfl | rfl | rfl <;> omega
  have four : ∀ {w : World}, w7.heap.size ≤ w.heap.size → ∀ g ∈ [W.heap.size, w1.heap.size, b, w6.heap.size], g < w.heap.size := fun h g hg => by
    simp only [List.mem_cons, List.not_mem_nil, or_false] at hg
    rcases hg with rfl | rfl | rfl | rfl <;> omega
  refine (c78 (.inr ⟨b, rfl, x7⟩) (by simp) _).mono ?_
  rintro v w8 ⟨b1, b2, q8, c8, rfl, hb1, hb2, m8, _, _, _, k8⟩
  have x8 := x7.kp0 k8
  have K8 := K7.trans k8
  have s8 := k8.size
  refine ⟨_, rfl, ks0 k8 (three (Nat.le_refl _)), x8.tell fun _ _ _ => ?_⟩
  unfold FnVal
  refine bif_b (fun h => by cases h) (fun _ _ => ?_)
  obtain ⟨k9, C9, z9⟩ := newcel (w := w8) (.int .i64 0) (.int .i64 0) 3
  generalize (w8.alloc (.cells #[.int .i64 0] 3)).setCell ⟨w8.heap.size, 0, none⟩ (.int .i64 0) = w9 at *
  have K9 := K8.trans k9
  have s9 := k9.size
  have call : CallsVal Tryd.prog (.func (.func 133) #[] #[.pointer (some ⟨b1, 0, none⟩), .pointer (some ⟨b2, 0, none⟩)]) #[.func (.func 81) #[] #[.pointer (some ⟨w8.heap.size, 0, none⟩)]] w9 fun v w' => v = .tuple #[] ∧ Kp none_ w9 w' := by
    refine ⟨isGo133, ?_⟩
    show Rets Tryd.prog 133 #[.func (.func 81) #[] #[.pointer (some ⟨w8.heap.size, 0, none⟩)], .pointer (some ⟨b1, 0, none⟩), .pointer (some ⟨b2, 0, none⟩)] w9 _
    refine (c133 (l := []) (by decide) (by simp) (fun l' w' => Kp none_ w9 w') (fun _ => False) (Kp.refl _ _) (fun _ _ _ h k => h.trans k) (fun l' u h => ⟨(hml.kp0 K9).kp0 h, (h.cell0 (k9.cell0 hb1)), (h.cell0 (k9.cell0 hb2)), (m8.kp0 k9).kp0 h⟩) (fun l' t r u1 u2 hsp => ?_)).mono ?_
    · exfalso
      have := congrArg List.length hsp
      simp [inL] at this
    · rintro v w' ⟨rfl, h | h⟩
      · exact ⟨rfl, h⟩
      · exact h.elim
  refine call.mono ?_
  rintro v w10 ⟨rfl, k10⟩
  have K10 := K9.trans k10
  have s10 := k10.size
  have x10 := (x8.kp0 k9).kp0 k10
  have C10 := C9.kp k10 id
  refine ⟨rfl, ks0 k10 (four (by omega)), _, C10.cell, C10.frz, ?_⟩
  refine bif_not (fun _ => bif_eq (fun _ _ => (c69 x10).mono ?_) (fun h => absurd rfl h)) (fun h => by cases h)
  rintro v wx ⟨rfl, e⟩
  obtain rfl := e.symm
  refine ⟨_, rfl, ks0 (Kp.refl _ _) (three (by omega)), x10.tell fun _ _ _ => (C10.tell1 fun _ => (bif_eq (fun _ _ => (c71 x10 (fun b hb => by cases hb) (by simp)).mono ?_) (fun h => absurd rfl h)))⟩
  rintro v w11 ⟨rfl, k11⟩
  have x11 := x10.kp0 k11
  have C11 := C10.kp k11 id
  have s11 := k11.size
  refine ⟨_, rfl, ks0 k11 (three (by omega)), x11.tell fun _ _ _ => (C11.tell1 fun _ => (bif_eq (fun _ _ => (c80 x11 a0 (by simp) (ba t)).mono ?_) (fun h => absurd rfl h)))⟩
  rintro v w12 ⟨rfl, k12⟩
  have x12 := x11.kp0 k12
  have C12 := C11.kp k12 id
  have s12 := k12.size
  refine ⟨_, rfl, ks0 k12 (three (by omega)), x12.tell fun _ _ _ => (C12.tell1 fun _ => (bif_b (fun _ _ => (c75 x12 a0 (by simp) (ba t)).mono ?_) (fun h => by simp [has] at h)))⟩
  rintro v w13 ⟨rfl, x13, k13⟩
  have nb : ∀ g, g ≠ b → ¬ one_ b g := fun g h => h
  have s13 := k13.size
  have C13 := C12.kp k13 (nb _ (by omega))
  refine ⟨_, rfl, k13.keeps fun g hg => ?_, x13.tell fun _ _ _ => (C13.tell1 fun _ => (bif_not (fun _ _ => (c66 ?_).mono ?_) (fun h => by cases h)))⟩
  · simp only [List.mem_cons, List.not_mem_nil, or_false] at hg
    rcases hg with rfl | rfl | rfl
    · exact ⟨by omega, nb _ (by omega)⟩
    · exact ⟨by omega, nb _ (by omega)⟩
    · exact ⟨by omega, nb _ (by omega)⟩
  · exact (((((hml.kp0 K10).kp0 k11)).kp0 k12)).kp k13 (nb 0 (by omega))
  · rintro v w14 ⟨rfl, k14⟩
    have C14 := C13.kp k14 id
    refine ⟨_, rfl, ks0 k14 (four (by omega)), C14.tell1 fun _ => fun _ => ⟨_, rfl, rfl, ?_⟩⟩
    have k123 : Kp (fun i => W.heap.size ≤ i) W w14 := ((((K10.trans k11).trans k12).wide.trans (k13.mono fun i _ h => by have h : i = b := h; show W.heap.size ≤ i; omega)).trans k14.wide)
    exact k123.narrow (Nat.le_refl _)
end Go.Proofs.YtbpknjldphckgaaDoor
