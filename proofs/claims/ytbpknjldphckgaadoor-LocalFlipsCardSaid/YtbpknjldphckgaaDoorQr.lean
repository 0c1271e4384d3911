/- LocalFlips walked. -/
import Derived.Test.YtbpknjldphckgaaDoorQp
import Derived.Test.YtbpknjldphckgaaDoorQk
namespace Go.Proofs.YtbpknjldphckgaaDoor
open Go Go.SX Go.SX.Crc Go.Proofs Go.Lib
set_option maxRecDepth 100000
set_option linter.unusedVariables false
set_option linter.unusedSimpArgs false
theorem hd_flip {h : Hd} {m : List UInt8} {a : Nat} (fl : Flipped h.b m a 32) (h5 : nlen m 5 = h.s.length) (hne : m ≠ h.b) : (headF m 0).1 = .zero ∧ ((headF m 0).2.2 = 3 ∨ (headF m 0).2.2 = 4) := by
  have hl := fl.len
  rw [hd_len] at hl
  unfold headF
  rw [if_neg (by omega)]
  simp only [Int.toNat_zero, List.drop_zero]
  by_cases hm : m.take 4 = lmbr
  · rw [if_neg (fun h => h.2 hm)]
    unfold headG
    rw [h5, if_neg (by omega)]
    by_cases hs : numAt m (18 + h.s.length) 4 = (sumL (m.take (18 + h.s.length))).toNat
    · rw [← headH_len h.m h.s h.z h.a h.u] at hs
      exact absurd (sum_flip fl hs) hne
    · rw [if_pos hs]; exact ⟨rfl, Or.inr rfl⟩
  · rw [if_pos ⟨by omega, hm⟩]; exact ⟨rfl, Or.inl rfl⟩
theorem nlen_head {h : Hd} (hx : h.s.length < 256) : nlen h.b 5 = h.s.length := by
  have : h.b = 76 :: 77 :: 66 :: 82 :: UInt8.ofNat h.m.toNat :: UInt8.ofNat h.s.length :: (le4 (w32 h.z) ++ (le4 (w32 h.a) ++ (le4 (w32 h.u) ++ (h.s ++ (le4 (sumL (headH h.m h.s h.z h.a h.u))))))) := by simp [Hd.b, headB, headH, lmbr]
  rw [this]
  show (UInt8.ofNat h.s.length).toNat = _
  rw [UInt8.toNat_ofNat', Nat.mod_eq_of_lt hx]
theorem headF_nil {h : Hd} (hok : h.ok = true) (hu : 0 ≤ h.u ∧ h.u < 4294967296) : headF h.b 0 = (h, 0 + ((22 + h.s.length : Nat) : Int), 0) := by
  have := headF_put hok hu [] []
  rw [List.nil_append, List.append_nil] at this
  exact this
theorem c11 {W : World} (hml : ML W) (m : Int) (s : ByteArray) (z a u : Int) (hu : 0 ≤ u ∧ u < 4294967296) (x y : Int) (hy : 0 ≤ y ∧ y < 4294967296) : Rets Tryd.prog 11 #[hdV m s z a u, .int .i64 x, .int .u32 y] W fun v w' => v = .bool true ∧ Kp none_ W w' := by
  refine ent [_, _, _] Tryd.func11 ((vcTryd11 _ _ _ _ _ _ _ W _).mpr ?_)
  unfold VCTryd11
  simp only [set5_def]
  have hss := bytesL_size s
  have ka : Kp none_ W (W.alloc (.cells #[.int .i64 m, .string s, .int .i64 z, .int .i64 a, .int .u32 u] 54)) := (Kp.refl none_ W).alloc1 _
  have B0 : Big (W.alloc (.cells #[.int .i64 m, .string s, .int .i64 z, .int .i64 a, .int .u32 u] 54)) W.heap.size 54 [.int .i64 m, .string s, .int .i64 z, .int .i64 a, .int .u32 u] := Big.new W _ 54
  generalize W.alloc (.cells #[.int .i64 m, .string s, .int .i64 z, .int .i64 a, .int .u32 u] 54) = w0 at *
  have z0 : W.heap.size < w0.heap.size := B0.lt
  have liveK : ∀ {P : World → Prop} {gs : List Nat} {w : World}, Kp none_ w0 w → (∀ g ∈ gs, g < w.heap.size) → Rets Tryd.prog 48 #[] w fun v w' => ∃ t, v = .bool t ∧ Keeps w w' gs ∧ (P w' → ∃ v, Ending.returned (Value.bool t) = Ending.returned v ∧ v = .bool true ∧ Kp none_ W w') := fun k hg => (c48 (hml.kp0 (ka.trans k))).mono (by
    rintro v w' ⟨rfl, k2⟩
    exact ⟨_, rfl, k2.keeps (fun b hb => ⟨hg b hb, id⟩), fun _ => ⟨_, rfl, rfl, (ka.trans k).trans k2⟩⟩)
  have live : ∀ {P : World → Prop} {w : World}, Kp none_ w0 w → Rets Tryd.prog 48 #[] w fun v w' => ∃ t, v = .bool t ∧ Keeps w w' [W.heap.size] ∧ (P w' → ∃ v, Ending.returned (Value.bool t) = Ending.returned v ∧ v = .bool true ∧ Kp none_ W w') := fun k => liveK k (fun g hg => by
    rw [List.mem_singleton] at hg
    subst hg
    exact Nat.lt_of_lt_of_le z0 k.size)
  refine bif_dec (fun _ _ => live (Kp.refl _ _)) (fun hs => bif_dec (fun _ _ => live (Kp.refl _ _)) (fun hx => bif_dec (fun _ _ => live (Kp.refl _ _)) (fun hx2 _ => ?_)))
  refine mk_tabK z0 fun w4 w7 k7 t7 _ _ _ => (c49 (hml.kp0 (ka.trans k7)) t7 m s z a u hu).mono ?_
  rintro v w8 ⟨q, n, c, rfl, b8, k8⟩
  have z7 : W.heap.size < w7.heap.size := Nat.lt_of_lt_of_le z0 k7.size
  have k08 := k7.trans k8
  have z8 : W.heap.size < w8.heap.size := Nat.lt_of_lt_of_le z0 k08.size
  refine ⟨_, _, _, _, rfl, k8.k0 z7, ?_⟩
  cases ho : okHead m (bytesL s) z a u with
  | false =>
    simp only [Bool.false_eq_true, if_false]
    exact fun _ => live k08
  | true =>
    rw [ho] at b8
    simp only [if_true] at b8 ⊢
    obtain ⟨rfl, hcap⟩ := b8.lens
    obtain ⟨hok, hm0, hm2, hz1, hz2, ha1, ha2⟩ := okHead_facts ho
    have hle := okName_len hok
    obtain ⟨h, eh⟩ : ∃ h : Hd, h = ⟨m, bytesL s, z, a, u⟩ := ⟨_, rfl⟩
    have e1 : headB m (bytesL s) z a u = h.b := by rw [eh]; rfl
    have ehs : h.s = bytesL s := by rw [eh]
    have hhok : h.ok = true := by rw [eh]; exact ho
    have hhu : 0 ≤ h.u ∧ h.u < 4294967296 := by rw [eh]; exact hu
    rw [e1] at b8 ⊢
    have hlb := hd_len h
    rw [ehs] at hlb
    refine bif_ne (fun h => absurd rfl h) (fun _ => bif_dec (fun h => absurd h (by omega)) (fun _ _ => ?_))
    obtain ⟨A, rfl⟩ : ∃ A : Nat, x = A := ⟨x.toNat, by omega⟩
    refine (c34 b8.bytes (by omega) A (by omega) y hy).mono ?_
    rintro v w9 ⟨mm, fl, b9, k9⟩
    obtain ⟨q9, c9, rfl, hc9, _⟩ := b9.slice
    have hml' := fl.len
    have k09 := k08.trans k9
    have z9 : W.heap.size < w9.heap.size := Nat.lt_of_lt_of_le z0 k09.size
    have b8' := b8.kp0 k9
    have kd : Kp none_ w9 w9.drew := Kp.drew1
    have k0d := k09.trans kd
    refine ⟨_, _, _, rfl, k9.k0 z8, ⟨by decide, by omega⟩, bytes_at (b9.bytes.kp0 kd) (i := 5) (by omega) fun _ _ => ⟨⟨by decide, by omega⟩, bytes_at (b8'.bytes.kp0 kd) (i := 5) (by omega) fun _ _ => bif_ne (fun _ _ => live k0d) (fun h4 _ => ?_)⟩⟩
    refine (c54 (hml.kp0 (ka.trans k0d)) ((t7.kp0 k8).kp0 (k9.trans kd)) (b9.bytes.kp0 kd) hc9 (by omega) 0).mono ?_
    rintro v wa ⟨rfl, kA⟩
    have k0a := k0d.trans kA
    have za : W.heap.size < wa.heap.size := Nat.lt_of_lt_of_le z0 k0a.size
    refine ⟨_, _, _, _, _, _, _, rfl, kA.k0 z9, fun _ => ?_⟩
    have bb := ((b8'.bytes.kp0 kd).kp0 kA).kp0 (newset (v0 := .int .i64 (headF mm 0).1.m) (v1 := .string (ba (headF mm 0).1.s)) (v2 := .int .i64 (headF mm 0).1.z) (v3 := .int .i64 (headF mm 0).1.a) (v4 := .int .u32 (headF mm 0).1.u) (cs := #[.int .i64 0, .string { data := #[] }, .int .i64 0, .int .i64 0, .int .u32 0]) (e := 54) (Kp.refl none_ wa))
    have bc := ((b9.bytes.kp0 kd).kp0 kA).kp0 (newset (v0 := .int .i64 (headF mm 0).1.m) (v1 := .string (ba (headF mm 0).1.s)) (v2 := .int .i64 (headF mm 0).1.z) (v3 := .int .i64 (headF mm 0).1.a) (v4 := .int .u32 (headF mm 0).1.u) (cs := #[.int .i64 0, .string { data := #[] }, .int .i64 0, .int .i64 0, .int .u32 0]) (e := 54) (Kp.refl none_ wa))
    have k0n := newset (v0 := .int .i64 (headF mm 0).1.m) (v1 := .string (ba (headF mm 0).1.s)) (v2 := .int .i64 (headF mm 0).1.z) (v3 := .int .i64 (headF mm 0).1.a) (v4 := .int .u32 (headF mm 0).1.u) (cs := #[.int .i64 0, .string { data := #[] }, .int .i64 0, .int .i64 0, .int .u32 0]) (e := 54) k0a
    have zn : wa.heap.size < (set5 (wa.alloc (.cells #[.int .i64 0, .string { data := #[] }, .int .i64 0, .int .i64 0, .int .u32 0] 54)) wa.heap.size (.int .i64 (headF mm 0).1.m) (.string (ba (headF mm 0).1.s)) (.int .i64 (headF mm 0).1.z) (.int .i64 (headF mm 0).1.a) (.int .u32 (headF mm 0).1.u)).heap.size := newset_lt
    generalize set5 (wa.alloc (.cells #[.int .i64 0, .string { data := #[] }, .int .i64 0, .int .i64 0, .int .u32 0] 54)) wa.heap.size (.int .i64 (headF mm 0).1.m) (.string (ba (headF mm 0).1.s)) (.int .i64 (headF mm 0).1.z) (.int .i64 (headF mm 0).1.a) (.int .u32 (headF mm 0).1.u) = wn at *
    refine (c35 bb bc).mono ?_
    rintro v wx ⟨rfl, e⟩
    obtain rfl := e.symm
    have both : ∀ g ∈ [W.heap.size, wa.heap.size], g < wn.heap.size := fun g hg => by
      simp only [List.mem_cons, List.not_mem_nil, or_false] at hg
      rcases hg with rfl | rfl
      · omega
      · exact zn
    refine ⟨_, rfl, (Kp.refl none_ _).keeps (fun b hb => ⟨both b hb, id⟩), bif_dec (fun hsame => ?_) (fun hne => ?_)⟩
    · have e0 : headF mm 0 = (h, 0 + ((22 + h.s.length : Nat) : Int), 0) := by rw [← hsame]; exact headF_nil hhok hhu
      rw [e0, eh]
      refine bif_eq (fun _ => ⟨trivial, bif_b (fun _ _ => liveK k0n both) (fun h => ?_)⟩) (fun h => absurd rfl h)
      rw [beq_ba] at h
      simp at h
    · have en : nlen mm 5 = h.s.length := by
        rw [← nlen_head (h := h) (by rw [ehs]; omega), nlen_eq (by omega), nlen_eq (by omega)]
        exact Int.ofNat.inj h4
      obtain ⟨e1, e2⟩ := hd_flip fl en (fun h => hne h.symm)
      rw [e1]
      have tl : ((Hd.zero.m == 0) && ((ba Hd.zero.s).toList == ({ data := #[] } : ByteArray).toList && ((Hd.zero.z == 0) && ((Hd.zero.a == 0) && (Hd.zero.u == 0))))) = true := by
        rw [beq_ba]; rfl
      refine bif_eq (fun _ => ⟨trivial, bif_b (fun _ _ => liveK k0n both) (fun h => ?_)⟩) (fun h3 => bif_eq (fun _ => ⟨trivial, bif_b (fun _ _ => liveK k0n both) (fun h => ?_)⟩) (fun h4 => ?_))
      · rw [tl] at h; cases h
      · rw [tl] at h; cases h
      · rcases e2 with h | h
        · exact absurd h h3
        · exact absurd h h4
end Go.Proofs.YtbpknjldphckgaaDoor
