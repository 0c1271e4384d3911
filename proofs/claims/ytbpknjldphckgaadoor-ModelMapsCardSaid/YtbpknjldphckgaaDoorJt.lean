/- Model: the law of maps. -/
import Derived.Test.YtbpknjldphckgaaDoorJq
import Derived.Test.YtbpknjldphckgaaDoorVmf
namespace Go.Proofs.YtbpknjldphckgaaDoor
open Go Go.SX Go.Proofs Go.Lib
set_option maxRecDepth 100000
set_option linter.unusedVariables false
set_option linter.unusedSimpArgs false
theorem c20 {W : World} (hml : ML W) (h00 : 0 < W.heap.size) {q r : Option Addr} {c d : Nat} {l m : List Fx} (hq : FxsAt W q l) (hdq : ∀ x ∈ l, DatAt W x) (hlq : l.length ≤ maxLen) (hr : FxsAt W r m) (hdr : ∀ x ∈ m, DatAt W x) (hlr : m.length ≤ maxLen) (f : Fx) (hf : DatAt W f) :
    Rets Tryd.prog 20 #[.slice q l.length c, .slice r m.length d, fxV f] W fun v w' => v = .bool true ∧ Kp none_ W w' := by
  refine ent [_, _, _] Tryd.func20 ((vcTryd20 _ _ _ _ _ _ _ _ _ _ W _).mpr ?_)
  unfold VCTryd20
  have k0 : Kp none_ W (W.alloc (.cells #[.string (ba f.s), .slice f.q f.d.length f.c] 107)) := (Kp.refl none_ _).alloc1 _
  have z0 : W.heap.size < (W.alloc (.cells #[.string (ba f.s), .slice f.q f.d.length f.c] 107)).heap.size := by rw [alloc_size]; omega
  generalize W.alloc (.cells #[.string (ba f.s), .slice f.q f.d.length f.c] 107) = w0 at *
  have one : ∀ {w' : World}, Kp none_ w0 w' → ∀ b ∈ [W.heap.size], b < w'.heap.size := fun k b hb => by
    rw [List.mem_singleton] at hb
    subst hb
    exact Nat.lt_of_lt_of_le z0 k.size
  have live : ∀ {w' : World}, Kp none_ w0 w' → ∀ {P : Prop} {Q : World → Prop}, P → Rets Tryd.prog 83 #[] w' fun v w2 => ∃ t : Bool, v = .bool t ∧ Keeps w' w2 [W.heap.size] ∧ (Q w2 → ∃ v, Ending.returned (.bool t) = Ending.returned v ∧ v = .bool true ∧ Kp none_ W w2) := fun k P Q =>
    leafB (c83 ((hml.kp0 k0).kp0 k) (Nat.lt_of_lt_of_le h00 (Nat.le_trans k0.size k.size))) (k0.trans k) (one k) rfl
  have ke : ∀ {w5 w6 : World}, Kp none_ w0 w5 → Kp none_ w5 w6 → Keeps w5 w6 [W.heap.size] := fun k k' => k'.keeps fun b hb => ⟨one k b hb, id⟩
  have mx : ∀ {n : Nat}, n ≤ maxLen → n ≤ 9223372036854775807 := fun h => by simp only [maxLen] at h; omega
  intro _
  refine (c82 (hq.kp0 k0) (mx hlq)).mono ?_
  rintro v wx ⟨t1, rfl, e, ht1⟩
  obtain rfl := e.symm
  refine ⟨_, rfl, ke (Kp.refl _ _) (Kp.refl _ _), bif_b (fun _ => live (Kp.refl _ _)) (fun h1 => ?_)⟩
  obtain ⟨hl1, hl2⟩ := ht1 h1
  intro _
  refine (c82 (hr.kp0 k0) (mx hlr)).mono ?_
  rintro v wx ⟨t2, rfl, e, ht2⟩
  obtain rfl := e.symm
  refine ⟨_, rfl, ke (Kp.refl _ _) (Kp.refl _ _), bif_b (fun _ => live (Kp.refl _ _)) (fun h2 => ?_)⟩
  obtain ⟨hm1, hm2⟩ := ht2 h2
  intro _
  have k1 : Kp none_ w0 (w0.alloc (.cells #[.string (ba f.s), .slice f.q f.d.length f.c] 107)) := (Kp.refl none_ _).alloc1 _
  have B1 : Big (w0.alloc (.cells #[.string (ba f.s), .slice f.q f.d.length f.c] 107)) w0.heap.size 107 [.string (ba f.s), .slice f.q f.d.length f.c] := Big.new _ _ 107
  have F1 : FxsAt (w0.alloc (.cells #[.string (ba f.s), .slice f.q f.d.length f.c] 107)) (some ⟨w0.heap.size, 0, none⟩) [f] := fun i hi => by
    have : i = 0 := by simp at hi; omega
    subst this
    refine ⟨_, rfl, ?_, ?_⟩
    · rw [ad_add, ad_add, B1.cell]; rfl
    · rw [ad_add, ad_add, B1.cell]; rfl
  generalize w0.alloc (.cells #[.string (ba f.s), .slice f.q f.d.length f.c] 107) = w1 at *
  refine (c82 (c := 1) F1 (by simp)).mono ?_
  rintro v wy ⟨t3, rfl, e, ht3⟩
  obtain rfl := e.symm
  refine ⟨_, rfl, ke k1 (Kp.refl _ _), bif_b (fun _ => live k1) (fun h3 => ?_)⟩
  obtain ⟨_, hf2⟩ := ht3 h3
  obtain ⟨hfs, hfd⟩ := hf2 f (by simp)
  have K1 := k0.trans k1
  have RL : ∀ {w' : World}, Kp none_ W w' → FRd w' q l.length (l.map Fx.fil) := fun k => ⟨l, rfl, rfl, hq.kp0 k, fun x hx => (hdq x hx).kp0 k⟩
  have RM : ∀ {w' : World}, Kp none_ W w' → FRd w' r m.length (m.map Fx.fil) := fun k => ⟨m, rfl, rfl, hr.kp0 k, fun x hx => (hdr x hx).kp0 k⟩
  have hLl : (l.map Fx.fil).length ≤ 1000000 := by simp; omega
  have hLb : bigL (l.map Fx.fil) := ⟨hLl, fun x hx => by
    obtain ⟨y, hy, rfl⟩ := List.mem_map.1 hx
    have := (hl2 y hy).2
    show y.d.length ≤ _
    omega⟩
  intro _
  refine (c84 (RL K1) (RM K1) hLl).mono ?_
  rintro v w2 ⟨rfl, k2⟩
  refine ⟨_, rfl, ke k1 k2, fun _ => (c85 (RL (K1.trans k2)) (RM (K1.trans k2)) hLl).mono ?_⟩
  rintro v w3 ⟨rfl, k3⟩
  have j3 := (k1.trans k2).trans k3
  refine ⟨_, rfl, ke (k1.trans k2) k3, bif_not (fun h => by simp at h) (fun _ => ?_)⟩
  have K3 := k0.trans j3
  intro _
  refine (c84 (RL K3) (RL K3) hLl).mono ?_
  rintro v w4 ⟨rfl, k4⟩
  refine ⟨_, rfl, ke j3 k4, bif_not (fun h => by simp at h) (fun _ => ?_)⟩
  have j4 := j3.trans k4
  have K4 := k0.trans j4
  intro _
  refine (c86 (RL K4) hLl).mono ?_
  rintro v w5 ⟨t5, rfl, k5, hasc⟩
  have j5 := j4.trans k5
  have K5 := k0.trans j5
  refine ⟨_, rfl, ke j4 k5, bif_not (fun _ => live j5) (fun h5 => ?_)⟩
  have ha := hasc h5
  have hz0 : W.heap.size < w5.heap.size := one j5 _ (by simp)
  refine ⟨fun i q n c w' => ∃ (j : Nat) (l' : List Fx) (own : Nat → Prop), i = j ∧ j ≤ l.length ∧ j = n ∧ l'.length = j ∧ l'.map Fx.fil = (l.take j).map Fx.fil ∧ (∀ i, own i → w5.heap.size ≤ i) ∧ OwnRow w' own 107 2 (.slice q n c) j (fxsC l') ∧ (∀ x ∈ l', DatAt w' x ∧ DatIn (fun i => w5.heap.size ≤ i ∧ ¬ own i) x) ∧ Kp (fun i => w5.heap.size ≤ i) w5 w', fun i _ _ _ _ => (l.length - i).toNat,
    ⟨0, [], fun _ => False, rfl, by omega, rfl, rfl, by simp, fun i h => h.elim, OwnRow.nil _ _ _ _, (fun x hx => by cases hx), Kp.refl _ _⟩, ?_⟩
  rintro i q2 n2 c2 w6 ⟨j, l', own, rfl, hj, rfl, hlen, hmap, how, r2, hd2, k6⟩ _
  have k6n := k6.narrow (Nat.le_refl _)
  refine bif_dec (fun hi => ?_) (fun hi => ?_)
  · have hjl : j < l.length := by omega
    have kd := K5.trans k6n.drew
    have hdj := hdq _ (List.getElem_mem hjl)
    refine ⟨⟨by omega, by omega⟩, fx_at (hq.kp0 kd) hjl fun x hx mx => ⟨_, mx.c0, ⟨by omega, by omega⟩, ?_⟩⟩
    refine fx_at (hq.kp0 kd) hjl fun y hy my => ⟨_, _, _, my.c1, ba l[j].d, ba_size _, hdj.by_.kp0 kd, ?_⟩
    have hdl := (hl2 _ (List.getElem_mem hjl)).2
    refine buf_conv (E := w6.heap.size) Tryd.underlying9 und27 Tryd.underlying5 (ba l[j].d) (Nat.le_refl _) (by rw [ba_size]; simp only [maxLen]; omega) fun v w7 b7 k7 => ?_
    have k7' := Kp.of_drew k7
    rw [ba_list] at b7
    obtain ⟨q4, c4, rfl, hd1, hd3⟩ := b7.slice
    refine ⟨_, _, _, rfl, ke (j5.trans k6n.drew) k7, k7.cell0 mx.c0, ?_⟩
    have hr4 := (r2.mono (own' := fun i => own i ∧ i < w6.heap.size) fun i hi hl => ⟨hi, hl⟩).kp k7' fun _ _ _ _ _ => id
    have z67 := k7'.size
    have z56 := k6.size
    refine push_fx (own := fun i => own i ∧ i < w6.heap.size) (w := w7) (l := l') (v := .slice q2 j c2) (n := j) ⟨l[j].s, l[j].d, q4, c4⟩ hr4 hlen.symm (by omega) fun q5 c5 w8 r5 k8 k8' => ⟨_, _, _, rfl, ?_, wr64 (by omega) ⟨rfl, ⟨j + 1, l' ++ [⟨l[j].s, l[j].d, q4, c4⟩], fun i => (own i ∧ i < w6.heap.size) ∨ fresh w7 i, by omega, by omega, by omega, by simp; omega, ?_, ?_, ?_, ?_, ?_⟩, by first | omega | (dsimp only; omega)⟩⟩
    · exact kso k8' (fun hh => by have := how _ hh.1; omega) (by rw [alloc_size]; omega)
    · rw [List.map_append, hmap, List.take_succ_eq_append_getElem hjl, List.map_append]
      rfl
    · rintro i (hi | hi)
      · exact how i hi.1
      · have hi : w7.heap.size ≤ i := hi
        omega
    · simp only [hlen] at r5 ⊢; exact r5
    · intro x hx
      rcases List.mem_append.1 hx with hx | hx
      · obtain ⟨da, di⟩ := hd2 x hx
        have da4 := da.kp0 k7'
        have di4 : DatIn (fun i => w5.heap.size ≤ i ∧ ¬ ((own i ∧ i < w6.heap.size) ∨ fresh w7 i)) x := di.mono da fun i hl hi => ⟨hi.1, fun hh => hh.elim (fun h => hi.2 h.1) fun h => by
          have h : w7.heap.size ≤ i := h
          omega⟩
        exact ⟨da4.kp di4 k8 fun i hl hi hh => hi.2 (.inl hh), di4⟩
      · rw [List.mem_singleton] at hx
        subst hx
        have da4 : DatAt w7 ⟨l[j].s, l[j].d, q4, c4⟩ := ⟨b7.bytes, hd1, hd3⟩
        have di4 : DatIn (fun i => w5.heap.size ≤ i ∧ ¬ ((own i ∧ i < w6.heap.size) ∨ fresh w7 i)) ⟨l[j].s, l[j].d, q4, c4⟩ := fun h0 a e => by
          have hlt := da4.by_.lt (by rwa [ba_size]) a e
          have hge : w6.heap.size ≤ a.block := by
            rcases b7 with ⟨_, h0'⟩ | ⟨g, cap, cur, fr, e', hg, _⟩
            · have h0 : 0 < l[j].d.length := h0
              rw [h0'] at h0; simp at h0
            · have e : q4 = some a := e
              rw [e] at e'
              cases e'
              exact hg
          refine ⟨by omega, fun hh => hh.elim (fun h => by have := h.2; omega) fun h => ?_⟩
          have h : w7.heap.size ≤ a.block := h
          omega
        exact ⟨da4.kp di4 k8 fun i hl hi hh => hi.2 (.inl hh), di4⟩
    · exact (k6.trans k7'.wide).trans (k8.mono fun i _ hi => how i hi.1)
  have ej : j = l.length := by omega
  subst ej
  rw [List.take_length] at hmap
  have R6 : FRd w6 q2 l.length (l.map Fx.fil) := ⟨l', hmap, hlen.symm, fxs_of (by rw [hlen]; exact r2), fun x hx => (hd2 x hx).1⟩
  have j6 := j5.trans k6n
  have K6 := k0.trans j6
  have es : bytesL (ba f.s) = f.s := bytesL_ba _
  have wl : (withK Prod.fst (l.map Fx.fil) f.s (f.s, f.d)).length ≤ 1000000 := by
    rw [withK_eq ha]
    simp only [List.length_append, List.length_take, List.length_cons, List.length_drop, List.length_map]
    split <;> omega
  intro _
  refine (c87 (RL K6) hLl (ba f.s)).mono ?_
  rw [es]
  rintro v wz ⟨rfl, e⟩
  obtain rfl := e.symm
  refine ⟨_, rfl, ke j6 (Kp.refl _ _), fun _ => (c88 R6 ha hLb (ba f.s)).mono ?_⟩
  rw [es]
  rintro v w7 ⟨q7, n7, c7, rfl, D7, k7⟩
  have j7 := j6.trans k7
  have j7d := j7.drew
  have K7 := k0.trans j7d
  have R7 := R6.kp0 k7.drew
  refine ⟨_, _, _, _, rfl, ke j6 k7, bif_not (fun h => ?_) (fun _ => ?_)⟩
  · exfalso
    rw [idxO_nonneg, findK_has] at h
    simp at h
  have D7d := D7.kp0 (Kp.refl none_ w7).drew
  refine bif_b (fun ht => ?_) (fun ht => bif_not (fun _ => bif_ne (fun hne => ?_) (fun _ => ?_)) (fun h => by rw [ht] at h; cases h))
  rotate_left
  · exfalso
    have := D7.len
    rw [findD_not ht] at this
    simp at this
    omega
  rotate_left
  · obtain ⟨hp, he⟩ := findD_has ha ht
    have hidx : idxO (findK Prod.fst (l.map Fx.fil) f.s) = (pos Prod.fst (l.map Fx.fil) f.s : Nat) := by
      rw [findK_eq ha, if_pos ht]; rfl
    rw [hidx]
    have hpl : pos Prod.fst (l.map Fx.fil) f.s < l.length := by simpa using hp
    rw [he, fil_get hp] at D7d
    generalize pos Prod.fst (l.map Fx.fil) f.s = pp at *
    refine ⟨ba l[pp].d, by rw [ba_size]; exact D7d.len.symm, D7d.by_, ⟨by omega, by omega⟩, fx_at (hq.kp0 K7) hpl fun x hx mx => ⟨_, _, _, mx.c1, ba l[pp].d, ba_size _, (hdq _ (List.getElem_mem hpl)).by_.kp0 K7, ?_⟩⟩
    refine bif_not (fun h => by simp at h) (fun _ => bif_not (fun h => by rw [ht] at h; cases h) (fun _ => ?_))
    intro _
    refine (c89 R7 ha hLb (ba f.s) ⟨hf.by_.kp0 K7, rfl, hf.le⟩ (by omega)).mono ?_
    rw [es]
    rintro v w8 ⟨F8, k8⟩
    have j8 := j7d.trans k8
    obtain ⟨q8, c8, rfl, R8⟩ := F8.rd
    refine ⟨_, _, _, rfl, ke j7d k8, fun _ => (c90 (R7.kp0 k8) ha hLb (ba f.s)).mono ?_⟩
    rw [es]
    rintro v w9 ⟨F9, k9⟩
    have j9 := j8.trans k9
    obtain ⟨q9, c9, rfl, R9⟩ := F9.rd
    refine ⟨_, _, _, rfl, ke j8 k9, fun _ => (c85 ((R7.kp0 k8).kp0 k9) (RL (k0.trans j9)) hLl).mono ?_⟩
    rintro v w10 ⟨rfl, k10⟩
    have j10 := j9.trans k10
    refine ⟨_, rfl, ke j9 k10, bif_b (fun _ => ?_) (fun h => by simp at h)⟩
    refine ⟨ba f.d, ba_size _, hf.by_.kp0 (k0.trans j10), fun _ => (c91 (RL (k0.trans j10)).all hLl ha f.s f.d (by omega)).mono ?_⟩
    rintro v w11 ⟨q11, n11, c11, rfl, R11, k11⟩
    have j11 := j10.trans k11
    refine ⟨_, _, _, rfl, ke j10 k11, fun _ => (c85 ((R8.kp0 k9).kp0 (k10.trans k11)) R11.rd wl).mono ?_⟩
    rintro v w12 ⟨rfl, k12⟩
    have j12 := j11.trans k12
    refine ⟨_, rfl, ke j11 k12, bif_b (fun _ => ?_) (fun h => by simp at h)⟩
    intro _
    refine (c92 (RL (k0.trans j12)).all hLl (ba f.s)).mono ?_
    rw [es]
    rintro v w13 ⟨q13, n13, c13, rfl, R13, k13⟩
    have j13 := j12.trans k13
    refine ⟨_, _, _, rfl, ke j12 k13, fun _ => (c85 (R9.kp0 ((k10.trans k11).trans (k12.trans k13))) R13.rd (Nat.le_trans (List.length_filter_le _ _) hLl)).mono ?_⟩
    rintro v w14 ⟨rfl, k14⟩
    have j14 := j13.trans k14
    exact ⟨_, rfl, ke j13 k14, bif_b (fun _ => live j14) (fun h => by simp at h)⟩
  · intro _
    refine (c89 R7 ha hLb (ba f.s) ⟨hf.by_.kp0 K7, rfl, hf.le⟩ (by omega)).mono ?_
    rw [es]
    rintro v w8 ⟨F8, k8⟩
    have j8 := j7d.trans k8
    obtain ⟨q8, c8, rfl, R8⟩ := F8.rd
    refine ⟨_, _, _, rfl, ke j7d k8, fun _ => (c90 (R7.kp0 k8) ha hLb (ba f.s)).mono ?_⟩
    rw [es]
    rintro v w9 ⟨F9, k9⟩
    have j9 := j8.trans k9
    obtain ⟨q9, c9, rfl, R9⟩ := F9.rd
    refine ⟨_, _, _, rfl, ke j8 k9, fun _ => (c85 ((R7.kp0 k8).kp0 k9) (RL (k0.trans j9)) hLl).mono ?_⟩
    rintro v w10 ⟨rfl, k10⟩
    have j10 := j9.trans k10
    refine ⟨_, rfl, ke j9 k10, bif_b (fun _ => ?_) (fun h => by simp at h)⟩
    refine ⟨ba f.d, ba_size _, hf.by_.kp0 (k0.trans j10), fun _ => (c91 (RL (k0.trans j10)).all hLl ha f.s f.d (by omega)).mono ?_⟩
    rintro v w11 ⟨q11, n11, c11, rfl, R11, k11⟩
    have j11 := j10.trans k11
    refine ⟨_, _, _, rfl, ke j10 k11, fun _ => (c85 ((R8.kp0 k9).kp0 (k10.trans k11)) R11.rd wl).mono ?_⟩
    rintro v w12 ⟨rfl, k12⟩
    have j12 := j11.trans k12
    refine ⟨_, rfl, ke j11 k12, bif_b (fun _ => ?_) (fun h => by simp at h)⟩
    intro _
    refine (c92 (RL (k0.trans j12)).all hLl (ba f.s)).mono ?_
    rw [es]
    rintro v w13 ⟨q13, n13, c13, rfl, R13, k13⟩
    have j13 := j12.trans k13
    refine ⟨_, _, _, rfl, ke j12 k13, fun _ => (c85 (R9.kp0 ((k10.trans k11).trans (k12.trans k13))) R13.rd (Nat.le_trans (List.length_filter_le _ _) hLl)).mono ?_⟩
    rintro v w14 ⟨rfl, k14⟩
    have j14 := j13.trans k14
    exact ⟨_, rfl, ke j13 k14, bif_b (fun _ => live j14) (fun h => by simp at h)⟩
end Go.Proofs.YtbpknjldphckgaaDoor
