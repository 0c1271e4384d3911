/- A foot, taken; a whole directory, written and read. -/
import Derived.Test.YtbpknjldphckgaaDoorHa
namespace Go.Proofs.YtbpknjldphckgaaDoor
open Go Go.SX Go.SX.Crc Go.Proofs Go.Lib
set_option maxRecDepth 100000
set_option linter.unusedVariables false
set_option linter.unusedSimpArgs false
def setF (w : World) (g : Nat) (a b c : Value) : World := ((w.setCell ⟨g, 0, none⟩ a).setCell ⟨g, 1, none⟩ b).setCell ⟨g, 2, none⟩ c
theorem setF_def (w : World) (g : Nat) (a b c : Value) : ((w.setCell ⟨g, 0, none⟩ a).setCell ⟨g, 1, none⟩ b).setCell ⟨g, 2, none⟩ c = setF w g a b c := rfl
theorem big_setF {w : World} {g : Nat} {e : TypeId} {x y z a b c : Value} (h : Big w g e [x, y, z]) : Big (setF w g a b c) g e [a, b, c] := ((h.set 0 a).set 1 b).set 2 c
theorem kp_setF (w : World) (g : Nat) (a b c : Value) : Kp (one_ g) w (setF w g a b c) :=
  (((Kp.refl (one_ g) w).setCell (x := ⟨g, 0, none⟩) a (.inl rfl)).setCell (x := ⟨g, 1, none⟩) b (.inl rfl)).setCell (x := ⟨g, 2, none⟩) c (.inl rfl)
theorem numR_at {m : List UInt8} {s : Nat} (h : s + 4 ≤ m.length) : numR m 4 (s, false) = (numAt m s 4, s + 4, false) := by
  unfold numR
  rw [if_neg (by simp), width4, if_pos h]
theorem bytR_at {m : List UInt8} {n s : Nat} (h : s + n ≤ m.length) : bytR m n (s, false) = ((m.drop s).take n, s + n, false) := by
  unfold bytR
  rw [if_neg (by simp), if_neg (by simp only; omega), Int.toNat_natCast]
/-- The foot that twenty bytes are. -/
def footG (m : List UInt8) : (Int × Int × Int) × Int :=
  if m.take 4 ≠ footM then ((0, 0, 0), 3) else
  if numAt m 16 4 ≠ (sumL (m.take 16)).toNat then ((0, 0, 0), 4) else
  if okF (numAt m 4 4) (numAt m 8 4) = false then ((0, 0, 0), 3) else (((numAt m 4 4 : Int), (numAt m 8 4 : Int), (numAt m 12 4 : Int)), 0)
/-- The foot that bytes end with. -/
def footF (l : List UInt8) : (Int × Int × Int) × Int :=
  if l.length < 20 then ((0, 0, 0), 2) else footG (l.drop (l.length - 20))
theorem c122 {w : World} {t : Addr} (ht : Tab w t) {q : Option Addr} {c : Nat} {l : List UInt8} (hb : BytesAt w q (ba l)) (hc : l.length ≤ c) (hl : l.length ≤ 1000000) :
    Rets Tryd.prog 122 #[.pointer (some t), .slice q l.length c] w fun v w' => v = .tuple #[ftV (footF l).1.1 (footF l).1.2.1 (footF l).1.2.2, .int .i64 (footF l).2] ∧ Kp none_ w w' := by
  refine ent [_, _] Tryd.func122 ((vcTryd122 _ _ _ _ w _).mpr ?_)
  unfold VCTryd122
  simp only [setF_def]
  generalize hF : footF l = F
  have ka : Kp none_ w (w.alloc (.cells #[.int .i64 0, .int .i64 0, .int .u32 0] 68)) := (Kp.refl none_ w).alloc1 _
  have B0 : Big (w.alloc (.cells #[.int .i64 0, .int .i64 0, .int .u32 0] 68)) w.heap.size 68 [.int .i64 0, .int .i64 0, .int .u32 0] := Big.new w _ 68
  generalize w.alloc (.cells #[.int .i64 0, .int .i64 0, .int .u32 0] 68) = w0 at *
  have z0 : w.heap.size < w0.heap.size := B0.lt
  have fin : ∀ {w' : World} {a b d : Value}, Kp (fun i => w.heap.size ≤ i) w w' → Kp none_ w (setF w' w.heap.size a b d) := fun k => (k.trans (kpE (kp_setF _ _ _ _ _) (Nat.le_refl _))).narrow (Nat.le_refl _)
  refine bif_dec (fun h _ => ⟨_, rfl, by rw [← hF]; unfold footF; rw [if_pos (by omega)]; rfl, fin ka.wide⟩) (fun h => wr64 (by omega) ⟨⟨by omega, by omega⟩, fun _ => ?_⟩)
  have hF1 : F = footG (l.drop (l.length - 20)) := by rw [← hF]; unfold footF; rw [if_neg (by omega)]
  clear hF
  have eA : ((l.length : Int) - 20).toNat = l.length - 20 := by omega
  rw [eA]
  generalize hA : l.length - 20 = A at *
  have hdl : (l.drop A).length = l.length - A := List.length_drop
  have hbm := (bytes_from hb (a := A) (by omega) hc).kp0 ka
  have h20 : (l.drop A).length = 20 := by omega
  have hcap : (l.drop A).length ≤ c - A := by omega
  rw [← hdl]
  have hb16 : BytesAt w (cutA (cutA q c A 1) (c - A) 0 1) (ba ((l.drop A).take 16)) := by
    have := bytes_drop (bytes_from hb (a := A) (by omega) hc) (a := 0) (k := 16) (by omega) hcap
    rwa [List.drop_zero] at this
  have e16 : ((l.drop A).take 16).length = 16 := by rw [List.length_take]; omega
  generalize l.drop A = m at *
  refine (c109 hbm hcap).mono ?_
  rintro v w2 ⟨rfl, k2, d2⟩
  generalize hr : w0.heap.size = r at *
  have K2 : Kp (fun i => w.heap.size ≤ i) w w2 := ka.wide.trans k2.wide
  have hr2 := d2.lt
  have n0 : w.heap.size ≠ r := by omega
  have g2 : w.heap.size < w2.heap.size := by omega
  have hl' : m.length ≤ 1000000000 := by omega
  have toE : ∀ {a b : World}, Kp (one_ r) a b → Kp (fun i => w.heap.size ≤ i) a b := fun k => kpE k (by omega)
  refine ⟨_, rfl, k2.k0 (by omega), fun _ => (c110 d2 hl' 4 (by omega)).mono ?_⟩
  rw [show bytR m 4 (0, false) = (m.take 4, 4, false) from by
    have := bytR_at (m := m) (n := 4) (s := 0) (by omega)
    rw [List.drop_zero] at this
    exact this]
  rintro v w3 ⟨q3, c3, rfl, _, b3, k3, d3⟩
  have K3 := K2.trans (toE k3)
  have g3 := Nat.lt_of_lt_of_le g2 k3.size
  refine ⟨_, _, _, rfl, ks1 k3 n0 g2, ba (m.take 4), ba_size _, b3, fun _ => (c111 d3 hl' 4).mono ?_⟩
  rw [show numR m 4 (4, false) = (numAt m 4 4, 8, false) from numR_at (by omega)]
  rintro v w4 ⟨rfl, k4, d4⟩
  have K4 := K3.trans (toE k4)
  have g4 := Nat.lt_of_lt_of_le g3 k4.size
  have n4 := num_lt m 4
  refine ⟨_, rfl, ks1 k4 n0 g3, wr64 (by omega) fun _ => (c111 d4 hl' 4).mono ?_⟩
  rw [show numR m 4 (8, false) = (numAt m 8 4, 12, false) from numR_at (by omega)]
  rintro v w5 ⟨rfl, k5, d5⟩
  have K5 := K4.trans (toE k5)
  have g5 := Nat.lt_of_lt_of_le g4 k5.size
  have n8 := num_lt m 8
  refine ⟨_, rfl, ks1 k5 n0 g4, wr64 (by omega) fun _ => (c111 d5 hl' 4).mono ?_⟩
  rw [show numR m 4 (12, false) = (numAt m 12 4, 16, false) from numR_at (by omega)]
  rintro v w6 ⟨rfl, k6, d6⟩
  have K6 := K5.trans (toE k6)
  have g6 := Nat.lt_of_lt_of_le g5 k6.size
  have r6 := d6.lt
  refine ⟨_, rfl, ks1 k6 n0 g5, ?_⟩
  have kb : Kp none_ w6 (w6.alloc (.cells #[.int .i64 0, .int .i64 0, .int .u32 0] 68)) := (Kp.refl none_ w6).alloc1 _
  have C0 : Big (w6.alloc (.cells #[.int .i64 0, .int .i64 0, .int .u32 0] 68)) w6.heap.size 68 [.int .i64 0, .int .i64 0, .int .u32 0] := Big.new w6 _ 68
  generalize w6.alloc (.cells #[.int .i64 0, .int .i64 0, .int .u32 0] 68) = w7 at *
  have ks := kp_setF w7 w6.heap.size (.int .i64 (numAt m 4 4 : Nat)) (.int .i64 (numAt m 8 4 : Nat)) (.int .u32 (numAt m 12 4 : Nat))
  have K8 := (K6.trans kb.wide).trans (kpE ks (Nat.le_of_lt g6))
  have z8 : w6.heap.size < (setF w7 w6.heap.size (.int .i64 (numAt m 4 4 : Nat)) (.int .i64 (numAt m 8 4 : Nat)) (.int .u32 (numAt m 12 4 : Nat))).heap.size := Nat.lt_of_lt_of_le C0.lt ks.size
  have d8 := (d6.kp0 kb).above (ks.mono fun i _ h => by have h : i = w6.heap.size := h; show r < i; omega)
  generalize setF w7 w6.heap.size (.int .i64 (numAt m 4 4 : Nat)) (.int .i64 (numAt m 8 4 : Nat)) (.int .u32 (numAt m 12 4 : Nat)) = w8 at *
  unfold footG at hF1
  refine bif_not (fun hbad _ => ⟨_, rfl, ?_, fin K8⟩) (fun hgood => ⟨⟨by omega, by omega⟩, fun _ => ?_⟩)
  · rw [beq_ba] at hbad
    rw [hF1, if_pos (fun h => by rw [h] at hbad; exact absurd hbad (by decide))]
    rfl
  have hmark : m.take 4 = footM := by
    rw [beq_ba] at hgood
    exact (by simpa using hgood : m.take 4 = bytesL ({ data := #[70, 79, 79, 84] } : ByteArray)).trans rfl
  rw [if_neg (fun h => h hmark)] at hF1
  have kd : Kp none_ w8 w8.drew := Kp.drew1
  have d9 := d8.kp0 kd
  have K9 := K8.trans kd.wide
  have z9 : w6.heap.size < w8.drew.heap.size := z8
  refine (c111 d9 hl' 4).mono ?_
  rw [show numR m 4 (16, false) = (numAt m 16 4, 20, false) from numR_at (by omega)]
  rintro v w10 ⟨rfl, k10, d10⟩
  have K10 := K9.trans (toE k10)
  have g10 := Nat.lt_of_lt_of_le z9 k10.size
  refine ⟨_, rfl, ks2 k10 n0 (by omega) (by omega) z9, fun _ => ?_⟩
  have h106 := c106 (ht.far K10 (Nat.le_refl _)) (c := c - A - 0) (hb16.far K10 (Nat.le_refl _)) (by omega)
  rw [e16] at h106
  refine h106.mono ?_
  rintro v wx ⟨rfl, e⟩
  obtain rfl := e.symm
  have two : ∀ b ∈ [w.heap.size, w6.heap.size], b < w10.heap.size ∧ ¬ none_ b := fun b hb => by
    simp only [List.mem_cons, List.not_mem_nil, or_false] at hb
    rcases hb with rfl | rfl
    · exact ⟨by omega, id⟩
    · exact ⟨g10, id⟩
  refine ⟨_, rfl, (Kp.refl none_ _).keeps two, bif_ne (fun hne _ => ⟨_, rfl, ?_, fin K10⟩) (fun heq _ => (c59 _ _ _ w10).mono ?_)⟩
  · rw [if_pos (fun h => hne (by rw [h]))] at hF1
    rw [hF1]; rfl
  rw [if_neg (fun h => h (by exact_mod_cast heq))] at hF1
  rintro v w11 ⟨rfl, k11⟩
  have K11 := K10.trans k11.wide
  refine ⟨_, rfl, k11.keeps two, bif_not (fun hh _ => ⟨_, rfl, ?_, fin K11⟩) (fun hh _ => ⟨_, rfl, ?_, fin K11⟩)⟩
  · rw [if_pos hh] at hF1
    rw [hF1]; rfl
  · rw [if_neg (by rw [hh]; decide)] at hF1
    rw [hF1]; rfl
end Go.Proofs.YtbpknjldphckgaaDoor
