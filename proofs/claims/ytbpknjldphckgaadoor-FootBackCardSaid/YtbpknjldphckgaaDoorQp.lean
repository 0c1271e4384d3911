/- A head that is put is taken; LocalPuts walked. -/
import Derived.Test.YtbpknjldphckgaaDoorQo
import Derived.Test.YtbpknjldphckgaaDoorVcf
namespace Go.Proofs.YtbpknjldphckgaaDoor
open Go Go.SX Go.SX.Crc Go.Proofs Go.Lib
set_option maxRecDepth 100000
set_option linter.unusedVariables false
set_option linter.unusedSimpArgs false
theorem c52 (s : ByteArray) (hs : s.size ≤ 1000000000) (w : World) : Rets Tryd.prog 52 #[.string s] w fun v w' => v = .int .i64 (22 + s.size) ∧ w' = w := by
  refine ent [_] Tryd.func52 ((vcTryd52 _ w _).mpr ?_)
  unfold VCTryd52
  exact wr64 (by omega) ⟨_, rfl, rfl, rfl⟩
/-- A head's bytes. -/
def Hd.b (h : Hd) : List UInt8 := headB h.m h.s h.z h.a h.u
theorem hd_len (h : Hd) : h.b.length = 22 + h.s.length := headB_len _ _ _ _ _
theorem headG_put {h : Hd} (hok : h.ok = true) (hu : 0 ≤ h.u ∧ h.u < 4294967296) (b : List UInt8) (A : Int) : headG (h.b ++ b) A = (h, A + (22 + h.s.length : Nat), 0) := by
  obtain ⟨m, x, z, a, u⟩ := h
  obtain ⟨hn, hm0, hm2, hz1, hz2, ha1, ha2⟩ := okHead_facts hok
  simp only at hn hm0 hm2 hz1 hz2 ha1 ha2 hu
  have hx := okName_len hn
  have hlb : (Hd.b ⟨m, x, z, a, u⟩).length = 22 + x.length := hd_len _
  have hform : Hd.b ⟨m, x, z, a, u⟩ ++ b = 76 :: 77 :: 66 :: 82 :: UInt8.ofNat m.toNat :: UInt8.ofNat x.length :: (le4 (w32 z) ++ (le4 (w32 a) ++ (le4 (w32 u) ++ (x ++ (le4 (sumL (headH m x z a u)) ++ b))))) := by simp [Hd.b, headB, headH, lmbr]
  have hN : nlen (Hd.b ⟨m, x, z, a, u⟩ ++ b) 5 = x.length := by
    rw [hform]
    show (UInt8.ofNat x.length).toNat = _
    rw [UInt8.toNat_ofNat', Nat.mod_eq_of_lt (by omega)]
  have hM' : (nlen (Hd.b ⟨m, x, z, a, u⟩ ++ b) 4 : Int) = m := by
    rw [hform]
    show ((UInt8.ofNat m.toNat).toNat : Int) = _
    rw [UInt8.toNat_ofNat']
    omega
  have n6 : (numAt (Hd.b ⟨m, x, z, a, u⟩ ++ b) 6 4 : Int) = z := by
    have e : (Hd.b ⟨m, x, z, a, u⟩ ++ b).drop 6 = le4 (w32 z) ++ (le4 (w32 a) ++ (le4 (w32 u) ++ (x ++ (le4 (sumL (headH m x z a u)) ++ b)))) := by rw [hform]; rfl
    unfold numAt
    rw [e, leN_take4, w32_nat hz1 (by omega)]
  have n10 : (numAt (Hd.b ⟨m, x, z, a, u⟩ ++ b) 10 4 : Int) = a := by
    have e : (Hd.b ⟨m, x, z, a, u⟩ ++ b).drop 10 = le4 (w32 a) ++ (le4 (w32 u) ++ (x ++ (le4 (sumL (headH m x z a u)) ++ b))) := by rw [hform]; rfl
    unfold numAt
    rw [e, leN_take4, w32_nat ha1 (by omega)]
  have n14 : (numAt (Hd.b ⟨m, x, z, a, u⟩ ++ b) 14 4 : Int) = u := by
    have e : (Hd.b ⟨m, x, z, a, u⟩ ++ b).drop 14 = le4 (w32 u) ++ (x ++ (le4 (sumL (headH m x z a u)) ++ b)) := by rw [hform]; rfl
    unfold numAt
    rw [e, leN_take4, w32_nat hu.1 hu.2]
  have h18 : (Hd.b ⟨m, x, z, a, u⟩ ++ b).drop 18 = x ++ (le4 (sumL (headH m x z a u)) ++ b) := by rw [hform]; rfl
  have hlen : (Hd.b ⟨m, x, z, a, u⟩ ++ b).length = 22 + x.length + b.length := by rw [List.length_append, hlb]
  have hH := headH_len m x z a u
  have htk : (Hd.b ⟨m, x, z, a, u⟩ ++ b).take (18 + x.length) = headH m x z a u := by
    show (headB m x z a u ++ b).take _ = _
    rw [headB, List.append_assoc, ← hH, List.take_left]
  have hnum : numAt (Hd.b ⟨m, x, z, a, u⟩ ++ b) (18 + x.length) 4 = (sumL (headH m x z a u)).toNat := by
    unfold numAt
    show leN (((headB m x z a u ++ b).drop _).take 4) = _
    rw [headB, List.append_assoc, ← hH, List.drop_left]
    exact leN_take4 _ _
  have hread : readH (Hd.b ⟨m, x, z, a, u⟩ ++ b) = ⟨m, x, z, a, u⟩ := by
    unfold readH
    rw [hN, hM', n6, n10, n14, h18, List.take_left]
  unfold headG
  rw [hN, if_neg (by rw [hlen]; omega), hnum, htk, if_neg (fun h => h rfl), hread, if_neg (by rw [hok]; decide)]
theorem hd_mark (h : Hd) (b : List UInt8) : (h.b ++ b).take 4 = lmbr := by
  have : h.b ++ b = lmbr ++ ([UInt8.ofNat h.m.toNat, UInt8.ofNat h.s.length] ++ le4 (w32 h.z) ++ le4 (w32 h.a) ++ le4 (w32 h.u) ++ h.s ++ le4 (sumL (headH h.m h.s h.z h.a h.u)) ++ b) := by simp [Hd.b, headB, headH]
  rw [this]; rfl
theorem headF_put {h : Hd} (hok : h.ok = true) (hu : 0 ≤ h.u ∧ h.u < 4294967296) (a b : List UInt8) : headF (a ++ h.b ++ b) a.length = (h, (a.length : Int) + (22 + h.s.length : Nat), 0) := by
  unfold headF
  rw [if_neg (by simp only [List.length_append]; omega)]
  have hm : (a ++ h.b ++ b).drop (a.length : Int).toNat = h.b ++ b := by
    rw [Int.toNat_natCast, List.append_assoc, List.drop_left]
  rw [hm, if_neg (fun h => h.2 (hd_mark _ _)), headG_put hok hu]
/-! ### The statements on heads -/
def h0 : Hd := ⟨0, [97, 98], 0, 0, 0⟩
theorem okH0 : h0.ok = true := by decide
theorem newset {w w' : World} {v0 v1 v2 v3 v4 : Value} {cs : Array Value} {e : TypeId} (k : Kp none_ w w') : Kp none_ w (set5 (w'.alloc (.cells cs e)) w'.heap.size v0 v1 v2 v3 v4) :=
  (((k.alloc1 (.cells cs e)).wide.trans (kpE (kp_set5 _ _ _ _ _ _ _) k.size)).narrow (Nat.le_refl _))
theorem newset_lt {w' : World} {v0 v1 v2 v3 v4 : Value} {cs : Array Value} {e : TypeId} : w'.heap.size < (set5 (w'.alloc (.cells cs e)) w'.heap.size v0 v1 v2 v3 v4).heap.size :=
  Nat.lt_of_lt_of_le (by rw [alloc_size]; omega) (kp_set5 (w'.alloc (.cells cs e)) w'.heap.size v0 v1 v2 v3 v4).size
theorem c48 {w : World} (hm : ML w) : Rets Tryd.prog 48 #[] w fun v w' => v = .bool true ∧ Kp none_ w w' := by
  refine ent [] Tryd.func48 ((vcTryd48 w _).mpr ?_)
  unfold VCTryd48
  simp only [set5_def]
  refine mk_tab fun w4 w7 k7 t7 _ _ => ?_
  have e0 : bytesL ({ data := #[97, 98] } : ByteArray) = [97, 98] := rfl
  refine (c49 (hm.kp0 k7) t7 0 { data := #[97, 98] } 0 0 0 (by decide)).mono ?_
  rw [e0, show okHead 0 [97, 98] 0 0 0 = true from okH0]
  simp only [if_true]
  rintro v w8 ⟨q, n, c, rfl, b8, k8⟩
  obtain ⟨rfl, hc, _⟩ := b8.lens
  have k08 := k7.trans k8
  refine ⟨_, _, _, _, rfl, k8.keeps0, (c54 (hm.kp0 k08) (t7.kp0 k8) b8.bytes hc (by rw [headB_len]; simp) 0).mono ?_⟩
  have hF : headF (headB 0 [97, 98] 0 0 0) 0 = (h0, 24, 0) := by
    have := headF_put okH0 (by decide) [] []
    rw [List.nil_append, List.append_nil] at this
    exact this
  rw [hF]
  rintro v w9 ⟨rfl, k9⟩
  have k09 := k08.trans k9
  have hl : (headB 0 [97, 98] 0 0 0).length = 24 := by rw [headB_len]; rfl
  refine ⟨_, _, _, _, _, _, _, rfl, k9.keeps0, ?_⟩
  rw [hl]
  show cond true (cond true (cond true (cond true (cond (_ == _) _ _) _) _) _) _
  simp only [cond_true]
  rw [beq_ba]
  show cond ([97, 98] == [97, 98]) _ _
  simp only [beq_self_eq_true, cond_true]
  intro _
  have kn := newset (v0 := .int .i64 h0.m) (v1 := .string (ba h0.s)) (v2 := .int .i64 h0.z) (v3 := .int .i64 h0.a) (v4 := .int .u32 h0.u) (cs := #[.int .i64 0, .string { data := #[] }, .int .i64 0, .int .i64 0, .int .u32 0]) (e := 54) k09
  refine (c52 _ (by decide) _).mono ?_
  rintro v wx ⟨rfl, e⟩
  obtain rfl := e.symm
  exact ⟨_, rfl, (Kp.refl none_ _).k0 newset_lt, fun _ => ⟨_, rfl, rfl, kn⟩⟩
theorem mk_tabK {w : World} {g : Nat} (hg : g < w.heap.size) {K : World → World → Prop} (hK : ∀ w4 w7, Kp none_ w w7 → Tab w7 ⟨w4.heap.size, 0, none⟩ → w.heap.size ≤ w4.heap.size → w4.heap.size < w7.heap.size → K w4 w7) :
    Rets Tryd.prog 26 #[] w fun v w4 => ∃ x : Array Value, v = .agg x ∧ Keeps w w4 [g] ∧ Runs Tryd.prog (Instr.storeAt 25 (.pointer (some ⟨w4.heap.size, 0, none⟩)) (.agg x)) (w4.alloc (.cells (zeroA Tryd.prog 25) 25)) fun _ w7 => Keeps (w4.alloc (.cells (zeroA Tryd.prog 25) 25)) w7 [g] ∧ K w4 w7 := by
  refine (c26 w).mono ?_
  rintro v w4 ⟨rfl, k4⟩
  have b := Big.new w4 (zeroA Tryd.prog 25) 25
  have ka : Kp none_ w4 (w4.alloc (.cells (zeroA Tryd.prog 25) 25)) := (Kp.refl none_ _).alloc1 _
  refine ⟨_, rfl, k4.k0 hg, store_big b info25 (by rw [tabCells_len, size25]) (by rw [tabCells_len, zero25]) (fun v hv => ?_) fun w7 b7 k7 => ?_⟩
  · obtain ⟨i, _, rfl⟩ := List.mem_map.1 hv
    simp [Value.oneCell']
  · have hz := k4.size
    have hza := ka.size
    refine ⟨ks1 k7 (by omega) (by omega), hK w4 w7 ?_ (fun i hi => ?_) hz b7.lt⟩
    · exact ((k4.trans ka).wide.trans (k7.mono fun i _ hi => by have hi : i = w4.heap.size := hi; show w.heap.size ≤ i; omega)).narrow (Nat.le_refl _)
    · rw [ad_add, Nat.zero_add, b7.cell]
      exact tabCells_get hi
theorem c8 {W : World} (hml : ML W) (m : Int) (s : ByteArray) (z a u : Int) (hu : 0 ≤ u ∧ u < 4294967296) : Rets Tryd.prog 8 #[hdV m s z a u] W fun v w' => v = .bool true ∧ Kp none_ W w' := by
  refine ent [_] Tryd.func8 ((vcTryd8 _ _ _ _ _ W _).mpr ?_)
  unfold VCTryd8
  have hss := bytesL_size s
  have ka : Kp none_ W (W.alloc (.cells #[.int .i64 m, .string s, .int .i64 z, .int .i64 a, .int .u32 u] 54)) := (Kp.refl none_ W).alloc1 _
  have B0 : Big (W.alloc (.cells #[.int .i64 m, .string s, .int .i64 z, .int .i64 a, .int .u32 u] 54)) W.heap.size 54 [.int .i64 m, .string s, .int .i64 z, .int .i64 a, .int .u32 u] := Big.new W _ 54
  generalize W.alloc (.cells #[.int .i64 m, .string s, .int .i64 z, .int .i64 a, .int .u32 u] 54) = w0 at *
  have z0 : W.heap.size < w0.heap.size := B0.lt
  have live : ∀ {P : World → Prop} {w : World}, Kp none_ w0 w → Rets Tryd.prog 48 #[] w fun v w' => ∃ t, v = .bool t ∧ Keeps w w' [W.heap.size] ∧ (P w' → ∃ v, Ending.returned (Value.bool t) = Ending.returned v ∧ v = .bool true ∧ Kp none_ W w') := fun k => (c48 (hml.kp0 (ka.trans k))).mono (by
    rintro v w' ⟨rfl, k2⟩
    exact ⟨_, rfl, k2.k0 (Nat.lt_of_lt_of_le z0 k.size), fun _ => ⟨_, rfl, rfl, (ka.trans k).trans k2⟩⟩)
  refine bif_dec (fun _ _ => live (Kp.refl _ _)) (fun hs _ => ?_)
  refine mk_tabK z0 fun w4 w7 k7 t7 _ _ _ => (c49 (hml.kp0 (ka.trans k7)) t7 m s z a u hu).mono ?_
  rintro v w8 ⟨q, n, c, rfl, b8, k8⟩
  have z7 : W.heap.size < w7.heap.size := Nat.lt_of_lt_of_le z0 k7.size
  have k08 := k7.trans k8
  have z8 : W.heap.size < w8.heap.size := Nat.lt_of_lt_of_le z0 k08.size
  refine ⟨_, _, _, _, rfl, k8.k0 z7, fun _ => (c50 m s z a u).mono ?_⟩
  rintro v w9 ⟨rfl, k9⟩
  have kd : Kp none_ w9 w9.drew := (Kp.refl none_ w9).drew
  have k09 := (k08.trans k9).trans kd
  have z9 : W.heap.size < w9.drew.heap.size := Nat.lt_of_lt_of_le z0 k09.size
  refine ⟨_, rfl, k9.k0 z8, fun _ => (c51 (hml.kp0 (ka.trans k09)) m s z a u).mono ?_⟩
  rintro v w10 ⟨rfl, k10⟩
  have k010 := k09.trans k10
  have z10 : W.heap.size < w10.heap.size := Nat.lt_of_lt_of_le z0 k010.size
  have b10 := ((b8.kp0 k9).kp0 kd).kp0 k10
  refine ⟨_, rfl, k10.k0 z9, ?_⟩
  have B10 := B0.kp k010 id
  have tell : w10.cell? ⟨W.heap.size, 1, none⟩ = some (.string s) := B10.cell 1
  cases ho : okHead m (bytesL s) z a u with
  | false =>
    rw [ho] at b10
    simp only [Bool.false_eq_true, if_false] at b10 ⊢
    obtain ⟨rfl, _⟩ := b10.lens
    refine bif_b (fun h => absurd h (by decide)) (fun _ => bif_b (fun h => absurd h (by decide)) (fun _ => ?_))
    refine wr64 (by omega) fun _ => (c52 s (by omega) w10).mono ?_
    rintro v wx ⟨rfl, e⟩
    obtain rfl := e.symm
    refine ⟨_, rfl, (Kp.refl none_ _).k0 z10, tell, bif_ne (fun h => absurd rfl h) (fun _ => ?_)⟩
    show cond true (cond true (cond true _ _) _) _
    simp only [cond_true]
    exact fun _ => live k010
  | true =>
    rw [ho] at b10
    simp only [if_true] at b10 ⊢
    obtain ⟨rfl, _⟩ := b10.lens
    obtain ⟨hok, hm0, hm2, hz1, hz2, ha1, ha2⟩ := okHead_facts ho
    have hle := okName_len hok
    refine bif_b (fun h => absurd h (by decide)) (fun _ => bif_b (fun h => absurd h (by decide)) (fun _ => ?_))
    refine wr64 (by omega) fun _ => (c52 s (by omega) w10).mono ?_
    rintro v wx ⟨rfl, e⟩
    obtain rfl := e.symm
    refine ⟨_, rfl, (Kp.refl none_ _).k0 z10, tell, bif_ne (fun h => absurd rfl h) (fun _ => ?_)⟩
    show cond false _ _
    simp only [cond_false]
    have ke : Kp none_ w10 w10.drew := (Kp.refl none_ w10).drew
    have b11 := b10.kp0 ke
    refine ⟨_, ba_size _, b11.bytes, fun _ => (c53 m s z a u (by omega) (by omega) (by omega) (by omega) hu).mono ?_⟩
    rintro v w12 ⟨b12, k12⟩
    obtain ⟨q12, c12, rfl, _, _⟩ := b12.slice
    refine ⟨_, _, _, rfl, k12.k0 z10, (b11.kp0 k12).bytes, _, ba_size _, b12.bytes, bif_b (fun _ _ => live ((k010.trans ke).trans k12)) (fun h => ?_)⟩
    simp at h
end Go.Proofs.YtbpknjldphckgaaDoor
