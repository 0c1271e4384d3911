/- The document's head, taken. -/
import Derived.Test.YtbpknjldphckgaaDoorQp
import Derived.Test.YtbpknjldphckgaaDoorVce
namespace Go.Proofs.YtbpknjldphckgaaDoor
open Go Go.SX Go.SX.Crc Go.Proofs Go.Lib
set_option maxRecDepth 100000
set_option linter.unusedVariables false
set_option linter.unusedSimpArgs false
theorem byte_of {w : World} {q : Option Addr} {l : List UInt8} (h : BytesAt w q (ba l)) {a : Addr} (hq : q = some a) {i : Nat} (hi : i < l.length) : w.cell? (a.add i) = some (.int .u8 (nlen l i : Nat)) := by
  obtain ⟨a', e, hc⟩ := h i (by rw [ba_size]; exact hi)
  rw [hq] at e
  cases e
  rw [hc, nlen_eq hi, ba_get]
theorem bytes_nlen {w : World} {q : Option Addr} {l : List UInt8} (h : BytesAt w q (ba l)) {i : Nat} (hi : i < l.length) {K : Addr → Int → Prop} (hK : ∀ a, q = some a → K a (nlen l i : Nat)) :
    Ptr q fun a => ∃ x, w.cell? (a.add i) = some (.int .u8 x) ∧ K a x := bytes_at h hi fun a e => by
  rw [← nlen_eq hi]
  exact hK a e
theorem c55 {w : World} {q : Option Addr} {c : Nat} {l : List UInt8} (hb : BytesAt w q (ba l)) (hc : l.length ≤ c) (hl : l.length ≤ 1000000) (a : Int) :
    Rets Tryd.prog 55 #[.slice q l.length c, .int .i64 a] w fun v w' => v = .tuple #[(headF l a).1.v, .int .i64 (headF l a).2.1, .int .i64 (headF l a).2.2] ∧ Kp none_ w w' := by
  refine ent [_, _] Tryd.func55 ((vcTryd55 _ _ _ _ w _).mpr ?_)
  unfold VCTryd55
  simp only [set5_def]
  generalize hF : headF l a = F
  have hF0 : (a < 0 ∨ a > l.length) → F = (.zero, 0, 1) := fun h => by rw [← hF]; unfold headF; rw [if_pos h]
  have ka : Kp none_ w (w.alloc (.cells #[.int .i64 0, .string { data := #[] }, .int .i64 0, .int .i64 0, .int .u32 0] 57)) := (Kp.refl none_ w).alloc1 _
  have B0 : Big (w.alloc (.cells #[.int .i64 0, .string { data := #[] }, .int .i64 0, .int .i64 0, .int .u32 0] 57)) w.heap.size 57 [.int .i64 0, .string { data := #[] }, .int .i64 0, .int .i64 0, .int .u32 0] := Big.new w _ 57
  generalize w.alloc (.cells #[.int .i64 0, .string { data := #[] }, .int .i64 0, .int .i64 0, .int .u32 0] 57) = w0 at *
  have z0 : w.heap.size < w0.heap.size := B0.lt
  have set1 : ∀ {w' : World} {v0 v1 v2 v3 v4 : Value}, Kp (fun i => w.heap.size ≤ i) w w' → Kp none_ w (set5 w' w.heap.size v0 v1 v2 v3 v4) := fun k => (k.trans (kpE (kp_set5 _ _ _ _ _ _ _) (Nat.le_refl _))).narrow (Nat.le_refl _)
  refine bif_dec (fun h _ => ⟨_, rfl, by rw [hF0 (.inl h)]; rfl, set1 ka.wide⟩) (fun h0 => bif_dec (fun h _ => ⟨_, rfl, by rw [hF0 (.inr h)]; rfl, set1 ka.wide⟩) (fun h1 => ?_))
  obtain ⟨A, rfl⟩ := Int.eq_ofNat_of_zero_le (show 0 ≤ a by omega)
  have hAl : A ≤ l.length := by omega
  have hdl : (l.drop A).length = l.length - A := List.length_drop
  simp only [Int.toNat_natCast]
  have hF1 : F = (if 4 ≤ (l.drop A).length ∧ (l.drop A).take 4 ≠ lmbr then (.zero, 0, 3) else headG (l.drop A) A) := by
    rw [← hF]; unfold headF; rw [if_neg (by omega)]; rfl
  clear hF hF0
  have hbm := (bytes_from hb hAl hc).kp0 ka
  have hcap : (l.drop A).length ≤ c - A := by omega
  simp only [← hdl]
  have hml : (l.drop A).length ≤ 1000000 := by omega
  generalize l.drop A = m at *
  generalize cutA q c A 1 = qc at *
  generalize c - A = cm at *
  refine ⟨⟨by omega, by omega⟩, bif_dec (fun h4 => ⟨⟨by decide, by omega⟩, ba (m.take 4), by rw [ba_size, List.length_take]; omega, ?_, bif_not (fun hbad _ => ⟨_, rfl, ?_, set1 ka.wide⟩) (fun hgood => ?_)⟩) (fun h4 => bif_dec (fun h18 _ => ⟨_, rfl, ?_, set1 ka.wide⟩) (fun h18 => absurd (by omega) h18))⟩
  · have := bytes_drop hbm (a := 0) (k := 4) (by omega) hcap
    rwa [List.drop_zero] at this
  · rw [beq_ba] at hbad
    rw [hF1, if_pos ⟨by omega, fun h => by rw [h] at hbad; exact absurd hbad (by decide)⟩]
    rfl
  rotate_left
  · rw [hF1, if_neg (fun h => by omega)]
    unfold headG
    rw [if_pos (.inl (by omega))]
    rfl
  have hmark : m.take 4 = lmbr := by
    rw [beq_ba] at hgood
    exact (by simpa using hgood : m.take 4 = bytesL ({ data := #[76, 77, 66, 82] } : ByteArray)).trans rfl
  rw [if_neg (fun h => h.2 hmark)] at hF1
  unfold headG at hF1
  refine bif_dec (fun h18 _ => ⟨_, rfl, by rw [hF1, if_pos (.inl (by omega))]; rfl, set1 ka.wide⟩) (fun h18 => ⟨⟨by decide, by omega⟩, bytes_nlen hbm (i := 5) (by omega) fun _ _ => ?_⟩)
  have h5 : nlen m 5 < 256 := by rw [nlen_eq (by omega)]; exact UInt8.toNat_lt _
  refine wr64 (by omega) (wr64 (by omega) (bif_dec (fun h22 _ => ⟨_, rfl, by rw [hF1, if_pos (.inr (by omega))]; rfl, set1 ka.wide⟩) (fun h22 => ⟨⟨by decide, by omega⟩, bytes_nlen hbm (i := 5) (by omega) fun _ _ => wr64 (by omega) (wr64 (by omega) ⟨⟨by omega, by omega⟩, fun _ => ?_⟩)⟩)))
  rw [if_neg (by omega)] at hF1
  have e18 : (18 : Int) + (nlen m 5 : Nat) = ((18 + nlen m 5 : Nat) : Int) := by omega
  rw [e18]
  have kd : Kp none_ w0 w0.drew := Kp.drew1
  refine (c114 (hbm.kp0 kd) (by omega) (18 + nlen m 5) (by omega)).mono ?_
  rintro v wx ⟨rfl, e⟩
  obtain rfl := e.symm
  refine ⟨_, rfl, (Kp.refl none_ _).k0 z0, fun _ => ?_⟩
  have etk : (m.take (18 + nlen m 5)).length = 18 + nlen m 5 := by rw [List.length_take]; omega
  have e1 : ((18 + nlen m 5 : Nat) : Int).toNat - 0 = (m.take (18 + nlen m 5)).length := by rw [etk]; omega
  rw [e1]
  have hbt : BytesAt w0.drew (cutA qc cm 0 1) (ba (m.take (18 + nlen m 5))) := by
    have := bytes_drop (hbm.kp0 kd) (a := 0) (k := 18 + nlen m 5) (by omega) hcap
    rwa [List.drop_zero] at this
  refine (c115 hbt (by omega)).mono ?_
  rintro v wx ⟨rfl, e⟩
  obtain rfl := e.symm
  have hsl := (sumL (m.take (18 + nlen m 5))).isLt
  refine ⟨_, rfl, (Kp.refl none_ _).k0 z0, wr64 (by omega) (bif_ne (fun hne _ => ⟨_, rfl, ?_, set1 (ka.trans kd).wide⟩) (fun heq => ?_))⟩
  · rw [if_pos (fun h => hne (by rw [h]))] at hF1
    rw [hF1]; rfl
  rw [if_neg (fun h => h (by exact_mod_cast heq))] at hF1
  have ke : Kp none_ w0 w0.drew.drew := kd.trans Kp.drew1
  have zd : w.heap.size < w0.drew.drew.heap.size := z0
  have kw := ka.trans ke
  have hbd := hbm.kp0 ke
  clear hbt
  generalize w0.drew.drew = wd at *
  have hb4 : nlen m 4 < 256 := by rw [nlen_eq (by omega)]; exact UInt8.toNat_lt _
  have e8 : ((18 + nlen m 5 : Nat) : Int).toNat - 18 = nlen m 5 := by omega
  have hbs : ∀ {w' : World}, Kp none_ wd w' → BytesAt w' (cutA qc cm 18 1) (ba ((m.drop 18).take (nlen m 5))) := fun k => (bytes_drop hbd (a := 18) (k := nlen m 5) (by omega) hcap).kp0 k
  have hss : ((m.drop 18).take (nlen m 5)).length = nlen m 5 := by rw [List.length_take, List.length_drop]; omega
  refine ⟨⟨by decide, by omega⟩, bytes_nlen hbd (i := 4) (by omega) fun a16 hq => ?_⟩
  have h16 : ∀ {w' : World}, Kp none_ wd w' → w'.cell? (a16.add 4) = some (.int .u8 (nlen m 4 : Nat)) := fun k => byte_of (hbd.kp0 k) hq (by omega)
  refine wr64 (by omega) ⟨⟨by omega, by omega⟩, ⟨by omega, by omega⟩, ba ((m.drop 18).take (nlen m 5)), by rw [ba_size, hss, e8], hbs (Kp.refl _ _), ?_⟩
  have n6 := num_lt m 6
  have n10 := num_lt m 10
  have n14 := num_lt m 14
  have kn : Kp none_ wd (wd.alloc (.cells #[.int .i64 0, .string { data := #[] }, .int .i64 0, .int .i64 0, .int .u32 0] 57)) := (Kp.refl none_ wd).alloc1 _
  have zn : wd.heap.size < (wd.alloc (.cells #[.int .i64 0, .string { data := #[] }, .int .i64 0, .int .i64 0, .int .u32 0] 57)).heap.size := by rw [alloc_size]; omega
  have eok : okHead (nlen m 4 : Nat) (bytesL (ba ((m.drop 18).take (nlen m 5)))) (numAt m 6 4 : Nat) (numAt m 10 4 : Nat) (numAt m 14 4 : Nat) = (readH m).ok := by
    rw [show bytesL (ba ((m.drop 18).take (nlen m 5))) = (m.drop 18).take (nlen m 5) from ba_list _]
    rfl
  have fin : ∀ {P Q : World → Prop}, Rets Tryd.prog 50 #[hdV (nlen m 4 : Nat) (ba ((m.drop 18).take (nlen m 5))) (numAt m 6 4 : Nat) (numAt m 10 4 : Nat) (numAt m 14 4 : Nat)] (set5 (wd.alloc (.cells #[.int .i64 0, .string { data := #[] }, .int .i64 0, .int .i64 0, .int .u32 0] 57)) wd.heap.size (.int .i64 (nlen m 4 : Nat)) (.string (ba ((m.drop 18).take (nlen m 5)))) (.int .i64 (numAt m 6 4 : Nat)) (.int .i64 (numAt m 10 4 : Nat)) (.int .u32 (numAt m 14 4 : Nat))) fun v w' =>
      ∃ t, v = .bool t ∧ Keeps (set5 (wd.alloc (.cells #[.int .i64 0, .string { data := #[] }, .int .i64 0, .int .i64 0, .int .u32 0] 57)) wd.heap.size (.int .i64 (nlen m 4 : Nat)) (.string (ba ((m.drop 18).take (nlen m 5)))) (.int .i64 (numAt m 6 4 : Nat)) (.int .i64 (numAt m 10 4 : Nat)) (.int .u32 (numAt m 14 4 : Nat))) w' [w.heap.size, wd.heap.size] ∧
      bif !t then P w' → ∃ v, Ending.returned (.tuple #[.agg #[.int .i64 0, .string { data := #[] }, .int .i64 0, .int .i64 0, .int .u32 0], .int .i64 0, .int .i64 3]) = Ending.returned v ∧ v = .tuple #[F.1.v, .int .i64 F.2.1, .int .i64 F.2.2] ∧ Kp none_ w (set5 w' w.heap.size (.int .i64 0) (.string { data := #[] }) (.int .i64 0) (.int .i64 0) (.int .u32 0))
      else Wr .i64 ((A : Int) + ((18 + nlen m 5 : Nat) : Int)) fun i33 => Wr .i64 (i33 + 4) fun i34 => Q w' → ∃ v, Ending.returned (.tuple #[.agg #[.int .i64 (nlen m 4 : Nat), .string (ba ((m.drop 18).take (nlen m 5))), .int .i64 (numAt m 6 4 : Nat), .int .i64 (numAt m 10 4 : Nat), .int .u32 (numAt m 14 4 : Nat)], .int .i64 i34, .int .i64 0]) = Ending.returned v ∧ v = .tuple #[F.1.v, .int .i64 F.2.1, .int .i64 F.2.2] ∧ Kp none_ w (set5 w' w.heap.size (.int .i64 (nlen m 4 : Nat)) (.string (ba ((m.drop 18).take (nlen m 5)))) (.int .i64 (numAt m 6 4 : Nat)) (.int .i64 (numAt m 10 4 : Nat)) (.int .u32 (numAt m 14 4 : Nat))) := by
    intro P Q
    have kN := newset (v0 := .int .i64 (nlen m 4 : Nat)) (v1 := .string (ba ((m.drop 18).take (nlen m 5)))) (v2 := .int .i64 (numAt m 6 4 : Nat)) (v3 := .int .i64 (numAt m 10 4 : Nat)) (v4 := .int .u32 (numAt m 14 4 : Nat)) (cs := #[.int .i64 0, .string { data := #[] }, .int .i64 0, .int .i64 0, .int .u32 0]) (e := 57) kw
    have zN : wd.heap.size < (set5 (wd.alloc (.cells #[.int .i64 0, .string { data := #[] }, .int .i64 0, .int .i64 0, .int .u32 0] 57)) wd.heap.size (.int .i64 (nlen m 4 : Nat)) (.string (ba ((m.drop 18).take (nlen m 5)))) (.int .i64 (numAt m 6 4 : Nat)) (.int .i64 (numAt m 10 4 : Nat)) (.int .u32 (numAt m 14 4 : Nat))).heap.size := newset_lt
    generalize set5 (wd.alloc (.cells #[.int .i64 0, .string { data := #[] }, .int .i64 0, .int .i64 0, .int .u32 0] 57)) wd.heap.size (.int .i64 (nlen m 4 : Nat)) (.string (ba ((m.drop 18).take (nlen m 5)))) (.int .i64 (numAt m 6 4 : Nat)) (.int .i64 (numAt m 10 4 : Nat)) (.int .u32 (numAt m 14 4 : Nat)) = N at *
    refine (c50 _ _ _ _ _).mono ?_
    rw [eok]
    rintro v w7 ⟨rfl, k7⟩
    refine ⟨_, rfl, k7.keeps (fun b hb => ?_), bif_not (fun hb _ => ⟨_, rfl, ?_, set1 (kN.trans k7).wide⟩) (fun hb => wr64 (by omega) (wr64 (by omega) fun _ => ⟨_, rfl, ?_, set1 (kN.trans k7).wide⟩))⟩
    · simp only [List.mem_cons, List.not_mem_nil, or_false] at hb
      rcases hb with rfl | rfl
      · exact ⟨by omega, id⟩
      · exact ⟨zN, id⟩
    · rw [if_pos hb] at hF1
      rw [hF1]; rfl
    · rw [if_neg (by rw [hb]; decide)] at hF1
      have e9 : (A : Int) + ((18 + nlen m 5 : Nat) : Int) + 4 = (A : Int) + ((22 + nlen m 5 : Nat) : Int) := by omega
      rw [hF1, e9]; rfl
  have two : ∀ b ∈ [w.heap.size, wd.heap.size], b < (wd.alloc (.cells #[.int .i64 0, .string { data := #[] }, .int .i64 0, .int .i64 0, .int .u32 0] 57)).heap.size ∧ ¬ none_ b := fun b hb => by
    simp only [List.mem_cons, List.not_mem_nil, or_false] at hb
    rcases hb with rfl | rfl
    · exact ⟨by omega, id⟩
    · exact ⟨zn, id⟩
  have r0 := Kp.refl none_ wd
  refine ⟨fun _ => ?_, hbs kn, h16 kn, fun _ => ?_⟩
  · refine (c114 hbd (by omega) 6 (by omega)).mono ?_
    rintro v wx ⟨rfl, e⟩
    obtain rfl := e.symm
    refine ⟨_, rfl, (Kp.refl none_ _).k0 zd, hbs r0, h16 r0, fun _ => ?_, hbs kn, h16 kn, fun _ => ?_⟩
    · refine (c114 hbd (by omega) 10 (by omega)).mono ?_
      rintro v wx ⟨rfl, e⟩
      obtain rfl := e.symm
      refine ⟨_, rfl, (Kp.refl none_ _).k0 zd, hbs r0, h16 r0, fun _ => ?_, hbs kn, h16 kn, fun _ => ?_⟩
      · refine (c114 hbd (by omega) 14 (by omega)).mono ?_
        rintro v wx ⟨rfl, e⟩
        obtain rfl := e.symm
        exact ⟨_, rfl, (Kp.refl none_ _).k0 zd, hbs r0, h16 r0, wr32 (by omega) ⟨hbs kn, h16 kn, fun _ => fin⟩⟩
      · refine (c114 (hbd.kp0 kn) (by omega) 14 (by omega)).mono ?_
        rintro v wx ⟨rfl, e⟩
        obtain rfl := e.symm
        exact ⟨_, rfl, (Kp.refl none_ _).keeps two, hbs kn, h16 kn, wr32 (by omega) fun _ => fin⟩
    · refine (c114 (hbd.kp0 kn) (by omega) 10 (by omega)).mono ?_
      rintro v wx ⟨rfl, e⟩
      obtain rfl := e.symm
      refine ⟨_, rfl, (Kp.refl none_ _).keeps two, hbs kn, h16 kn, fun _ => ?_⟩
      refine (c114 (hbd.kp0 kn) (by omega) 14 (by omega)).mono ?_
      rintro v wx ⟨rfl, e⟩
      obtain rfl := e.symm
      exact ⟨_, rfl, (Kp.refl none_ _).keeps two, hbs kn, h16 kn, wr32 (by omega) fun _ => fin⟩
  · refine (c114 (hbd.kp0 kn) (by omega) 6 (by omega)).mono ?_
    rintro v wx ⟨rfl, e⟩
    obtain rfl := e.symm
    refine ⟨_, rfl, (Kp.refl none_ _).keeps two, hbs kn, h16 kn, fun _ => ?_⟩
    refine (c114 (hbd.kp0 kn) (by omega) 10 (by omega)).mono ?_
    rintro v wx ⟨rfl, e⟩
    obtain rfl := e.symm
    refine ⟨_, rfl, (Kp.refl none_ _).keeps two, hbs kn, h16 kn, fun _ => ?_⟩
    refine (c114 (hbd.kp0 kn) (by omega) 14 (by omega)).mono ?_
    rintro v wx ⟨rfl, e⟩
    obtain rfl := e.symm
    exact ⟨_, rfl, (Kp.refl none_ _).keeps two, hbs kn, h16 kn, wr32 (by omega) fun _ => fin⟩
end Go.Proofs.YtbpknjldphckgaaDoor
