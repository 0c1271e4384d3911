/- A head, taken. -/
import Derived.Test.YtbpknjldphckgaaDoorQn
namespace Go.Proofs.YtbpknjldphckgaaDoor
open Go Go.SX Go.SX.Crc Go.Proofs Go.Lib
set_option maxRecDepth 100000
set_option linter.unusedVariables false
set_option linter.unusedSimpArgs false
/-- A head. -/
structure Hd where
  m : Int
  s : List UInt8
  z : Int
  a : Int
  u : Int
def Hd.zero : Hd := ⟨0, [], 0, 0, 0⟩
def Hd.v (h : Hd) : Value := hdV h.m (ba h.s) h.z h.a h.u
def Hd.ok (h : Hd) : Bool := okHead h.m h.s h.z h.a h.u
/-- The head that stands at the front. -/
def readH (m : List UInt8) : Hd := ⟨nlen m 4, (m.drop 18).take (nlen m 5), numAt m 6 4, numAt m 10 4, numAt m 14 4⟩
/-- What is taken behind the mark: the head, the place behind, the error. -/
def headG (m : List UInt8) (a : Int) : Hd × Int × Int :=
  if m.length < 18 ∨ m.length < 22 + nlen m 5 then (.zero, 0, 2) else
  if numAt m (18 + nlen m 5) 4 ≠ (sumL (m.take (18 + nlen m 5))).toNat then (.zero, 0, 4) else
  if (readH m).ok = false then (.zero, 0, 3) else (readH m, a + (22 + nlen m 5 : Nat), 0)
/-- What is taken: the head, the place behind, the error. -/
def headF (l : List UInt8) (a : Int) : Hd × Int × Int :=
  if a < 0 ∨ a > l.length then (.zero, 0, 1) else
  if 4 ≤ (l.drop a.toNat).length ∧ (l.drop a.toNat).take 4 ≠ lmbr then (.zero, 0, 3) else headG (l.drop a.toNat) a
theorem c56 {w : World} {q : Option Addr} {c : Nat} {l : List UInt8} (hb : BytesAt w q (ba l)) (hc : l.length ≤ c) (hl : l.length ≤ 1000000000) (a : Int) : Rets Tryd.prog 56 #[.slice q l.length c, .int .i64 a] w fun v w' => v = .bool (decide (0 ≤ a ∧ a + 4 ≤ l.length) && (l.drop a.toNat).take 4 == lmbr) ∧ w' = w := by
  refine ent [_, _] Tryd.func56 ((vcTryd56 _ _ _ _ w _).mpr ?_)
  unfold VCTryd56
  refine bif_dec (fun h0 => wr64 (by omega) (bif_dec (fun h1 => wr64 (by omega) ⟨by omega, by omega, ba ((l.drop a.toNat).take 4), ?_, ?_, _, rfl, ?_, rfl⟩) (fun h1 => ⟨_, rfl, ?_, rfl⟩))) (fun h0 => ⟨_, rfl, ?_, rfl⟩)
  · rw [ba_size, List.length_take, List.length_drop]; omega
  · exact bytes_drop hb (by omega) hc
  · rw [beq_ba, decide_eq_true ⟨by omega, by omega⟩]; rfl
  · rw [decide_eq_false (by omega)]; rfl
  · rw [decide_eq_false (by omega)]; rfl
theorem kpE {w w' : World} {g E : Nat} (k : Kp (one_ g) w w') (hg : E ≤ g) : Kp (fun i => E ≤ i) w w' := k.mono fun i _ h => by have h : i = g := h; show E ≤ i; omega
theorem c54 {w : World} (hm : ML w) {t : Addr} (ht : Tab w t) {q : Option Addr} {c : Nat} {l : List UInt8} (hb : BytesAt w q (ba l)) (hc : l.length ≤ c) (hl : l.length ≤ 1000000) (a : Int) :
    Rets Tryd.prog 54 #[.pointer (some t), .slice q l.length c, .int .i64 a] w fun v w' => v = .tuple #[(headF l a).1.v, .int .i64 (headF l a).2.1, .int .i64 (headF l a).2.2] ∧ Kp none_ w w' := by
  refine ent [_, _, _] Tryd.func54 ((vcTryd54 _ _ _ _ _ w _).mpr ?_)
  unfold VCTryd54
  simp only [set5_def]
  generalize hF : headF l a = F
  have hF0 : (a < 0 ∨ a > l.length) → F = (.zero, 0, 1) := fun h => by rw [← hF]; unfold headF; rw [if_pos h]
  have ka : Kp none_ w (w.alloc (.cells #[.int .i64 0, .string { data := #[] }, .int .i64 0, .int .i64 0, .int .u32 0] 54)) := (Kp.refl none_ w).alloc1 _
  have B0 : Big (w.alloc (.cells #[.int .i64 0, .string { data := #[] }, .int .i64 0, .int .i64 0, .int .u32 0] 54)) w.heap.size 54 [.int .i64 0, .string { data := #[] }, .int .i64 0, .int .i64 0, .int .u32 0] := Big.new w _ 54
  generalize w.alloc (.cells #[.int .i64 0, .string { data := #[] }, .int .i64 0, .int .i64 0, .int .u32 0] 54) = w0 at *
  have z0 : w.heap.size < w0.heap.size := B0.lt
  have zero : ∀ {w' : World}, Kp (fun i => w.heap.size ≤ i) w w' → Kp none_ w (set5 w' w.heap.size (.int .i64 0) (.string { data := #[] }) (.int .i64 0) (.int .i64 0) (.int .u32 0)) := fun k => (k.trans (kpE (kp_set5 _ _ _ _ _ _ _) (Nat.le_refl _))).narrow (Nat.le_refl _)
  refine bif_dec (fun h _ => ⟨_, rfl, by rw [hF0 (.inl h)]; rfl, zero ka.wide⟩) (fun h0 => bif_dec (fun h _ => ⟨_, rfl, by rw [hF0 (.inr h)]; rfl, zero ka.wide⟩) (fun h1 => ?_))
  obtain ⟨A, rfl⟩ := Int.eq_ofNat_of_zero_le (show 0 ≤ a by omega)
  have hAl : A ≤ l.length := by omega
  have hdl : (l.drop A).length = l.length - A := List.length_drop
  simp only [Int.toNat_natCast]
  have hF1 : F = (if 4 ≤ (l.drop A).length ∧ (l.drop A).take 4 ≠ lmbr then (.zero, 0, 3) else headG (l.drop A) A) := by
    rw [← hF]; unfold headF; rw [if_neg (by omega)]; rfl
  clear hF hF0
  have hbm := (bytes_from hb hAl hc).kp0 ka
  have hcap : (l.drop A).length ≤ c - A := by omega
  have htk : ∀ k, k ≤ (l.drop A).length → BytesAt w0 (cutA q c A 1) (ba ((l.drop A).take k)) := fun k hk => (bytes_drop hb (a := A) (k := k) (by omega) hc).kp0 ka
  refine wr64 (by omega) (bif_dec (fun h4 _ => (c56 (hb.kp0 ka) hc (by omega) A).mono ?_) (fun h4 => ⟨⟨by omega, by omega⟩, fun _ => ?_⟩))
  · rintro v wx ⟨rfl, e⟩
    obtain rfl := e.symm
    rw [decide_eq_true ⟨by omega, by omega⟩, Bool.true_and, Int.toNat_natCast]
    refine ⟨_, rfl, (Kp.refl none_ _).k0 z0, bif_not (fun hbad _ => ⟨_, rfl, ?_, zero ka.wide⟩) (fun hgood => ⟨⟨by omega, by omega⟩, fun _ => ?_⟩)⟩
    · rw [hF1, if_pos ⟨by omega, by simpa using hbad⟩]; rfl
    rw [if_neg (fun h => h.2 (by simpa using hgood))] at hF1
    rw [← hdl]
    refine (c109 hbm hcap).mono ?_
    rintro v w2 ⟨rfl, k2, d2⟩
    generalize hm' : l.drop A = m at *
    have z2 : w0.heap.size < w2.heap.size := d2.lt
    have g2 : w.heap.size < w2.heap.size := by omega
    have n0 : w.heap.size ≠ w0.heap.size := by omega
    have nn0 : ¬ one_ w0.heap.size w.heap.size := n0
    have h4' : m.length ≤ 1000000000 := by omega
    have K2 : Kp (fun i => w.heap.size ≤ i) w w2 := ka.wide.trans k2.wide
    have B2 := B0.kp k2 id
    refine ⟨_, rfl, k2.k0 z0, fun _ => (c121 d2 h4').mono ?_⟩
    rintro v w3 ⟨rfl, k3, d3⟩
    have K3 := K2.trans (kpE k3 (Nat.le_of_lt z0))
    have B3 := B2.kp k3 nn0
    refine ⟨_, _, _, _, _, rfl, ks1 k3 n0 g2, fun _ => ?_⟩
    have ks := kp_set5 w3 w.heap.size (.int .i64 ((hM m).1 : Int)) (.string (ba (hB m).1)) (.int .i64 ((hZ m).1 : Int)) (.int .i64 ((hA m).1 : Int)) (.int .u32 ((hU m).1 : Int))
    have B4 := big_set5 (v0 := .int .i64 ((hM m).1 : Int)) (v1 := .string (ba (hB m).1)) (v2 := .int .i64 ((hZ m).1 : Int)) (v3 := .int .i64 ((hA m).1 : Int)) (v4 := .int .u32 ((hU m).1 : Int)) B3
    have d4 := d3.beside (fun h => n0 h.symm) B3 (nob5 _ _ _ _ _) ks
    have K4 := K3.trans (kpE ks (Nat.le_refl _))
    generalize set5 w3 w.heap.size (.int .i64 ((hM m).1 : Int)) (.string (ba (hB m).1)) (.int .i64 ((hZ m).1 : Int)) (.int .i64 ((hA m).1 : Int)) (.int .u32 ((hU m).1 : Int)) = w4 at *
    refine (c112 d4).mono ?_
    rintro v wx ⟨rfl, e⟩
    obtain rfl := e.symm
    have hle := d4.le
    refine ⟨_, rfl, (Kp.refl none_ _).k0 B4.lt, wr64 (by omega) ⟨by omega, by omega, fun _ => ?_⟩⟩
    have etk : (m.take (hB m).2.1).length = (hB m).2.1 := by rw [List.length_take]; omega
    have e1 : ((A : Int) + ((hB m).2.1 : Int)).toNat - A = (m.take (hB m).2.1).length := by rw [etk]; omega
    rw [e1]
    have hbt : BytesAt w4 (cutA q c A 1) (ba (m.take (hB m).2.1)) := by
      have h := htk _ hle
      refine BytesAt.far (E := w.heap.size) (w := w) ?_ K4 (Nat.le_refl _)
      have h0 := bytes_drop hb (a := A) (k := (hB m).2.1) (by omega) hc
      rwa [hm'] at h0
    refine (c106 (ht.far K4 (Nat.le_refl _)) hbt (by rw [etk]; omega)).mono ?_
    rintro v wx ⟨rfl, e⟩
    obtain rfl := e.symm
    refine ⟨_, rfl, (Kp.refl none_ _).k0 B4.lt, fun _ => (c111 d4 h4' 4).mono ?_⟩
    have eG : numR m 4 (hB m).2 = hG m := rfl
    rw [eG]
    rintro v w6 ⟨rfl, k6, d6⟩
    have K6 := K4.trans (kpE k6 (Nat.le_of_lt z0))
    have B6 := B4.kp k6 nn0
    refine ⟨_, rfl, ks1 k6 n0 B4.lt, fun _ => (c113 d6).mono ?_⟩
    rintro v wx ⟨rfl, e⟩
    obtain rfl := e.symm
    refine ⟨_, rfl, (Kp.refl none_ _).k0 B6.lt, ?_⟩
    unfold headG at hF1
    rcases head_read m with ⟨g1, g2⟩ | ⟨g1, g2, g3, g4, g5, g6, g7, g8, g9, g10, g11⟩
    · rw [g1]
      rw [if_pos g2] at hF1
      exact fun _ => ⟨_, rfl, by rw [hF1]; rfl, zero K6⟩
    rw [g1]
    rw [if_neg g2] at hF1
    rw [g9, g10]
    refine bif_ne (fun hne _ => ⟨_, rfl, ?_, zero K6⟩) (fun heq _ => ?_)
    · rw [if_pos (fun h => hne (by rw [h]))] at hF1
      rw [hF1]; rfl
    rw [if_neg (fun h => h (by exact_mod_cast heq))] at hF1
    have k06 : Kp none_ w w6 := K6.narrow (Nat.le_refl _)
    refine (c51 (hm.kp0 k06) _ _ _ _ _).mono ?_
    rintro v w7 ⟨rfl, k7⟩
    have K7 := K6.trans k7.wide
    have B7 := B6.kp k7 id
    have eok : okHead ((hM m).1 : Int) (bytesL (ba (hB m).1)) ((hZ m).1 : Int) ((hA m).1 : Int) ((hU m).1 : Int) = (readH m).ok := by
      rw [g3, g5, g6, g7, g8, show bytesL (ba ((m.drop 18).take (nlen m 5))) = (m.drop 18).take (nlen m 5) from ba_list _]
      rfl
    rw [eok]
    refine ⟨_, rfl, k7.k0 B6.lt, bif_not (fun hb _ => ⟨_, rfl, ?_, zero K7⟩) (fun hb _ => (c112 ((d6.kp0 k7).kp0 (Kp.refl none_ w7).drew)).mono ?_)⟩
    · rw [if_pos hb] at hF1
      rw [hF1]; rfl
    · rintro v wx ⟨rfl, e⟩
      obtain rfl := e.symm
      rw [if_neg (by rw [hb]; decide)] at hF1
      have cl : ∀ i, w7.cell? ⟨w.heap.size, 0 + i, none⟩ = _ := fun i => B7.cell (0 + i)
      refine ⟨_, rfl, (Kp.refl none_ _).k0 B7.lt, ⟨cl 0, cl 1, cl 2, cl 3, cl 4, trivial⟩, wr64 (by omega) fun _ => ⟨_, rfl, ?_, ?_⟩⟩
      · rw [hF1, g3, g5, g6, g7, g8, g11]
        rfl
      · have kd : Kp none_ w7 w7.drew := (Kp.refl none_ w7).drew
        exact ((K7.trans kd.wide).trans (kpE (kp_set5 _ _ _ _ _ _ _) (Nat.le_refl _))).narrow (Nat.le_refl _)
  · rw [if_neg (fun h => by omega)] at hF1
    rw [← hdl]
    refine (c109 hbm hcap).mono ?_
    rintro v w2 ⟨rfl, k2, d2⟩
    generalize hm' : l.drop A = m at *
    have z2 : w0.heap.size < w2.heap.size := d2.lt
    have g2 : w.heap.size < w2.heap.size := by omega
    have n0 : w.heap.size ≠ w0.heap.size := by omega
    have nn0 : ¬ one_ w0.heap.size w.heap.size := n0
    have h4' : m.length ≤ 1000000000 := by omega
    have K2 : Kp (fun i => w.heap.size ≤ i) w w2 := ka.wide.trans k2.wide
    have B2 := B0.kp k2 id
    refine ⟨_, rfl, k2.k0 z0, fun _ => (c121 d2 h4').mono ?_⟩
    rintro v w3 ⟨rfl, k3, d3⟩
    have K3 := K2.trans (kpE k3 (Nat.le_of_lt z0))
    have B3 := B2.kp k3 nn0
    refine ⟨_, _, _, _, _, rfl, ks1 k3 n0 g2, fun _ => ?_⟩
    have ks := kp_set5 w3 w.heap.size (.int .i64 ((hM m).1 : Int)) (.string (ba (hB m).1)) (.int .i64 ((hZ m).1 : Int)) (.int .i64 ((hA m).1 : Int)) (.int .u32 ((hU m).1 : Int))
    have B4 := big_set5 (v0 := .int .i64 ((hM m).1 : Int)) (v1 := .string (ba (hB m).1)) (v2 := .int .i64 ((hZ m).1 : Int)) (v3 := .int .i64 ((hA m).1 : Int)) (v4 := .int .u32 ((hU m).1 : Int)) B3
    have d4 := d3.beside (fun h => n0 h.symm) B3 (nob5 _ _ _ _ _) ks
    have K4 := K3.trans (kpE ks (Nat.le_refl _))
    generalize set5 w3 w.heap.size (.int .i64 ((hM m).1 : Int)) (.string (ba (hB m).1)) (.int .i64 ((hZ m).1 : Int)) (.int .i64 ((hA m).1 : Int)) (.int .u32 ((hU m).1 : Int)) = w4 at *
    refine (c112 d4).mono ?_
    rintro v wx ⟨rfl, e⟩
    obtain rfl := e.symm
    have hle := d4.le
    refine ⟨_, rfl, (Kp.refl none_ _).k0 B4.lt, wr64 (by omega) ⟨by omega, by omega, fun _ => ?_⟩⟩
    have etk : (m.take (hB m).2.1).length = (hB m).2.1 := by rw [List.length_take]; omega
    have e1 : ((A : Int) + ((hB m).2.1 : Int)).toNat - A = (m.take (hB m).2.1).length := by rw [etk]; omega
    rw [e1]
    have hbt : BytesAt w4 (cutA q c A 1) (ba (m.take (hB m).2.1)) := by
      have h := htk _ hle
      refine BytesAt.far (E := w.heap.size) (w := w) ?_ K4 (Nat.le_refl _)
      have h0 := bytes_drop hb (a := A) (k := (hB m).2.1) (by omega) hc
      rwa [hm'] at h0
    refine (c106 (ht.far K4 (Nat.le_refl _)) hbt (by rw [etk]; omega)).mono ?_
    rintro v wx ⟨rfl, e⟩
    obtain rfl := e.symm
    refine ⟨_, rfl, (Kp.refl none_ _).k0 B4.lt, fun _ => (c111 d4 h4' 4).mono ?_⟩
    have eG : numR m 4 (hB m).2 = hG m := rfl
    rw [eG]
    rintro v w6 ⟨rfl, k6, d6⟩
    have K6 := K4.trans (kpE k6 (Nat.le_of_lt z0))
    have B6 := B4.kp k6 nn0
    refine ⟨_, rfl, ks1 k6 n0 B4.lt, fun _ => (c113 d6).mono ?_⟩
    rintro v wx ⟨rfl, e⟩
    obtain rfl := e.symm
    refine ⟨_, rfl, (Kp.refl none_ _).k0 B6.lt, ?_⟩
    unfold headG at hF1
    rcases head_read m with ⟨g1, g2⟩ | ⟨g1, g2, g3, g4, g5, g6, g7, g8, g9, g10, g11⟩
    · rw [g1]
      rw [if_pos g2] at hF1
      exact fun _ => ⟨_, rfl, by rw [hF1]; rfl, zero K6⟩
    rw [g1]
    rw [if_neg g2] at hF1
    rw [g9, g10]
    refine bif_ne (fun hne _ => ⟨_, rfl, ?_, zero K6⟩) (fun heq _ => ?_)
    · rw [if_pos (fun h => hne (by rw [h]))] at hF1
      rw [hF1]; rfl
    rw [if_neg (fun h => h (by exact_mod_cast heq))] at hF1
    have k06 : Kp none_ w w6 := K6.narrow (Nat.le_refl _)
    refine (c51 (hm.kp0 k06) _ _ _ _ _).mono ?_
    rintro v w7 ⟨rfl, k7⟩
    have K7 := K6.trans k7.wide
    have B7 := B6.kp k7 id
    have eok : okHead ((hM m).1 : Int) (bytesL (ba (hB m).1)) ((hZ m).1 : Int) ((hA m).1 : Int) ((hU m).1 : Int) = (readH m).ok := by
      rw [g3, g5, g6, g7, g8, show bytesL (ba ((m.drop 18).take (nlen m 5))) = (m.drop 18).take (nlen m 5) from ba_list _]
      rfl
    rw [eok]
    refine ⟨_, rfl, k7.k0 B6.lt, bif_not (fun hb _ => ⟨_, rfl, ?_, zero K7⟩) (fun hb _ => (c112 ((d6.kp0 k7).kp0 (Kp.refl none_ w7).drew)).mono ?_)⟩
    · rw [if_pos hb] at hF1
      rw [hF1]; rfl
    · rintro v wx ⟨rfl, e⟩
      obtain rfl := e.symm
      rw [if_neg (by rw [hb]; decide)] at hF1
      have cl : ∀ i, w7.cell? ⟨w.heap.size, 0 + i, none⟩ = _ := fun i => B7.cell (0 + i)
      refine ⟨_, rfl, (Kp.refl none_ _).k0 B7.lt, ⟨cl 0, cl 1, cl 2, cl 3, cl 4, trivial⟩, wr64 (by omega) fun _ => ⟨_, rfl, ?_, ?_⟩⟩
      · rw [hF1, g3, g5, g6, g7, g8, g11]
        rfl
      · have kd : Kp none_ w7 w7.drew := (Kp.refl none_ w7).drew
        exact ((K7.trans kd.wide).trans (kpE (kp_set5 _ _ _ _ _ _ _) (Nat.le_refl _))).narrow (Nat.le_refl _)
end Go.Proofs.YtbpknjldphckgaaDoor
