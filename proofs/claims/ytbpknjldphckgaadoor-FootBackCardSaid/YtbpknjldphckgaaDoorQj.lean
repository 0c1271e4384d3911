import Derived.Test.YtbpknjldphckgaaDoorQi
namespace Go.Proofs.YtbpknjldphckgaaDoor
open Go Go.SX Go.SX.Crc Go.Proofs Go.Lib
set_option maxRecDepth 100000
set_option linter.unusedVariables false
set_option linter.unusedSimpArgs false
/-! ### The statements on tombstones -/
theorem okA : okName [97] = true := by decide
theorem c25 {w : World} (hm : ML w) : Rets Tryd.prog 25 #[] w fun v w' => v = .bool true ∧ Kp none_ w w' := by
  refine ent [] Tryd.func25 ((vcTryd25 w _).mpr ?_)
  unfold VCTryd25
  refine mk_tab fun w4 w7 k7 t7 _ _ => ?_
  refine (c27 (hm.kp0 k7) t7 _).mono ?_
  have e0 : bytesL ({ data := #[97] } : ByteArray) = [97] := rfl
  rw [e0, okA]
  simp only [if_true]
  rintro v w8 ⟨q, n, c, rfl, b8, k8⟩
  obtain ⟨rfl, hc, _⟩ := b8.lens
  have k08 := k7.trans k8
  refine ⟨_, _, _, _, rfl, k8.keeps0, (c31 (hm.kp0 k08) (t7.kp0 k8) b8.bytes hc (by rw [stoneB_len]; simp) 0).mono ?_⟩
  have hF : stoneF (stoneB [97]) 0 = ([97], 10, 0) := by
    have := stoneF_put okA [] []
    simpa using this
  rw [hF]
  rintro v w9 ⟨rfl, k9⟩
  have k09 := k08.trans k9
  have hl : (stoneB [97]).length = 10 := by rw [stoneB_len]; rfl
  refine ⟨_, _, _, rfl, k9.keeps0, ?_⟩
  rw [hl]
  show cond true (cond true (cond true (cond true (cond (_ == _) _ _) _) _) _) _
  simp only [cond_true]
  rw [beq_ba]
  show cond ([97] == [97]) _ _
  simp only [beq_self_eq_true, cond_true]
  refine (c28 _ (by decide) w9).mono ?_
  rintro v wx ⟨rfl, e⟩
  obtain rfl := e.symm
  exact ⟨_, rfl, (Kp.refl none_ _).keeps0, _, rfl, rfl, k09⟩
theorem c3 {W : World} (hm : ML W) (s : ByteArray) : Rets Tryd.prog 3 #[.string s] W fun v w' => v = .bool true ∧ Kp none_ W w' := by
  refine ent [_] Tryd.func3 ((vcTryd3 _ W _).mpr ?_)
  unfold VCTryd3
  have live : ∀ {w : World}, Kp none_ W w → Rets Tryd.prog 25 #[] w fun v w' => ∃ t, v = .bool t ∧ Keeps w w' [] ∧ ∃ v, Ending.returned (Value.bool t) = Ending.returned v ∧ v = .bool true ∧ Kp none_ W w' := fun k => (c25 (hm.kp0 k)).mono (by
    rintro v w' ⟨rfl, k2⟩
    exact ⟨_, rfl, k2.keeps0, _, rfl, rfl, k.trans k2⟩)
  refine bif_dec (fun _ => live (Kp.refl _ _)) (fun hs => ?_)
  refine mk_tab fun w4 w7 k7 t7 _ _ => (c27 (hm.kp0 k7) t7 s).mono ?_
  rintro v w8 ⟨q, n, c, rfl, b8, k8⟩
  have k08 := k7.trans k8
  refine ⟨_, _, _, _, rfl, k8.keeps0, (c28 s (by omega) w8).mono ?_⟩
  rintro v wx ⟨rfl, e⟩
  obtain rfl := e.symm
  refine ⟨_, rfl, (Kp.refl none_ _).keeps0, wr64 (by omega) (bif_ne (fun h => absurd rfl h) (fun _ => (c29 s _).mono ?_))⟩
  rintro v w9 ⟨rfl, k9⟩
  have k09 := k08.trans k9
  refine ⟨_, rfl, k9.keeps0, bif_not (fun hb => ?_) (fun hb => ?_)⟩
  · rw [hb] at b8 ⊢
    simp only [Bool.false_eq_true, if_false] at b8 ⊢
    obtain ⟨rfl, _⟩ := b8.lens
    exact live k09
  · rw [hb] at b8 ⊢
    simp only [if_true] at b8 ⊢
    obtain ⟨rfl, _⟩ := b8.lens
    have hle := okName_len hb
    have hss := bytesL_size s
    have kd : Kp none_ w9 w9.drew := (Kp.refl none_ w9).drew
    show cond true _ _
    simp only [cond_true]
    refine ⟨ba (stoneB (bytesL s)), ba_size _, b8.bytes.kp0 (k9.trans kd), (c30 s (by omega)).mono ?_⟩
    rintro v w10 ⟨b10, k10⟩
    obtain ⟨q10, c10, rfl, _, _⟩ := b10.slice
    refine ⟨_, _, _, rfl, k10.keeps0, b8.bytes.kp0 ((k9.trans kd).trans k10), ba (stoneB (bytesL s)), ba_size _, b10.bytes, ?_⟩
    rw [beq_self_eq_true]
    exact live ((k09.trans kd).trans k10)
theorem c4 {W : World} (hm : ML W) {q : Option Addr} {c : Nat} {l : List UInt8} (hb : BytesAt W q (ba l)) (hc : l.length ≤ c) (a : Int) : Rets Tryd.prog 4 #[.slice q l.length c, .int .i64 a] W fun v w' => v = .bool true ∧ Kp none_ W w' := by
  refine ent [_, _] Tryd.func4 ((vcTryd4 _ _ _ _ W _).mpr ?_)
  unfold VCTryd4
  have live : ∀ {w : World}, Kp none_ W w → Rets Tryd.prog 25 #[] w fun v w' => ∃ t, v = .bool t ∧ Keeps w w' [] ∧ ∃ v, Ending.returned (Value.bool t) = Ending.returned v ∧ v = .bool true ∧ Kp none_ W w' := fun k => (c25 (hm.kp0 k)).mono (by
    rintro v w' ⟨rfl, k2⟩
    exact ⟨_, rfl, k2.keeps0, _, rfl, rfl, k.trans k2⟩)
  refine bif_dec (fun _ => live (Kp.refl _ _)) (fun hs => ?_)
  have hl : l.length ≤ 1000 := by omega
  refine mk_tab fun w4 w7 k7 t7 _ _ => (c31 (hm.kp0 k7) t7 (hb.kp0 k7) hc (by omega) a).mono ?_
  rintro v w8 ⟨rfl, k8⟩
  have k08 := k7.trans k8
  refine ⟨_, _, _, rfl, k8.keeps0, (c32 (hb.kp0 k08) hc (by omega) a).mono ?_⟩
  rintro v w9 ⟨rfl, k9⟩
  have k09 := k08.trans k9
  have hb9 := hb.kp0 k09
  refine ⟨_, _, _, rfl, k9.keeps0, ?_⟩
  have no : ¬ (0 ≤ a ∧ a + 4 ≤ l.length) → cond ((ba (stoneF l a).1).toList == (ba (stoneF l a).1).toList) (cond ((stoneF l a).2.1 == (stoneF l a).2.1) (cond ((stoneF l a).2.2 == (stoneF l a).2.2) (Rets Tryd.prog 33 #[.slice q l.length c, .int .i64 a] w9 fun v w' => ∃ t, v = .bool t ∧ Keeps w9 w' [] ∧ cond (t == false) (Rets Tryd.prog 25 #[] w' fun v w'' => ∃ t, v = .bool t ∧ Keeps w' w'' [] ∧ ∃ v, Ending.returned (Value.bool t) = Ending.returned v ∧ v = .bool true ∧ Kp none_ W w'') (∃ v, Ending.returned (Value.bool false) = Ending.returned v ∧ v = .bool true ∧ Kp none_ W w')) (∃ v, Ending.returned (Value.bool false) = Ending.returned v ∧ v = .bool true ∧ Kp none_ W w9)) (∃ v, Ending.returned (Value.bool false) = Ending.returned v ∧ v = .bool true ∧ Kp none_ W w9)) (∃ v, Ending.returned (Value.bool false) = Ending.returned v ∧ v = .bool true ∧ Kp none_ W w9) := fun h => by
    simp only [beq_self_eq_true, cond_true]
    refine (c33 hb9 hc (by omega) a).mono ?_
    rintro v wx ⟨rfl, e⟩
    obtain rfl := e.symm
    rw [decide_eq_false h, Bool.false_and]
    refine ⟨_, rfl, (Kp.refl none_ _).keeps0, ?_⟩
    show cond true _ _
    exact live k09
  refine bif_dec (fun h0 => bif_dec (fun h1 => wr64 (by omega) (bif_dec (fun h2 => wr64 (by omega) ⟨by omega, by omega, ba ((l.drop a.toNat).take 4), ?_, bytes_drop hb9 (by omega) hc, ?_⟩) (fun h2 => no (by omega)))) (fun h1 => no (by omega))) (fun h0 => no (by omega))
  · rw [ba_size, List.length_take, List.length_drop]; omega
  simp only [beq_self_eq_true, cond_true]
  refine (c33 hb9 hc (by omega) a).mono ?_
  rintro v wx ⟨rfl, e⟩
  obtain rfl := e.symm
  rw [decide_eq_true ⟨by omega, by omega⟩, Bool.true_and, beq_ba]
  refine ⟨_, rfl, (Kp.refl none_ _).keeps0, ?_⟩
  show cond (((l.drop a.toNat).take 4 == tomb) == ((l.drop a.toNat).take 4 == tomb)) _ _
  simp only [beq_self_eq_true, cond_true]
  exact live k09
end Go.Proofs.YtbpknjldphckgaaDoor
