/- StoneFlips walked. -/
import Derived.Test.YtbpknjldphckgaaDoorQj
namespace Go.Proofs.YtbpknjldphckgaaDoor
open Go Go.SX Go.SX.Crc Go.Proofs Go.Lib
set_option maxRecDepth 100000
set_option linter.unusedVariables false
set_option linter.unusedSimpArgs false
/-! ### What is changed within 32 bits is refused -/
theorem leN4 {l : List UInt8} (h : l.length = 4) {X : W32} (e : leN l = X.toNat) : l = le4 X := by
  obtain ⟨a, b, c, d, rfl⟩ : ∃ a b c d, l = [a, b, c, d] := by
    match l, h with
    | [a, b, c, d], _ => exact ⟨a, b, c, d, rfl⟩
  rw [← le4_of4]
  congr 1
  apply BitVec.eq_of_toNat_eq
  rw [of4_toNat, ← e]
  simp only [leN]
  omega
theorem sum_flip {x m : List UInt8} {a : Nat} (fl : Flipped (x ++ le4 (sumL x)) m a 32) (hn : numAt m x.length 4 = (sumL (m.take x.length)).toNat) : m = x ++ le4 (sumL x) := by
  have hl := fl.len
  rw [List.length_append, le4_len] at hl
  unfold numAt at hn
  have hd : (m.drop x.length).take 4 = m.drop x.length := List.take_of_length_le (by rw [List.length_drop]; omega)
  rw [hd] at hn
  have e := leN4 (by rw [List.length_drop]; omega) hn
  have em : m = m.take x.length ++ le4 (sumL (m.take x.length)) := by rw [← e, List.take_append_drop]
  have hx : x.length = (m.take x.length).length := by rw [List.length_take]; omega
  have := summed_eq (l := x) (m := m.take x.length) (a := a) hx (fun i hi hc => by
    rw [← em]
    exact (fl.bit i (by rw [List.length_append, le4_len]; omega) hc).symm)
  rw [this, ← em]
theorem stone_flip {x m : List UInt8} {a : Nat} (h : okName x = true) (fl : Flipped (stoneB x) m a 32) (h4 : nlen m 4 = x.length) (hne : m ≠ stoneB x) : (stoneF m 0).1 = [] ∧ ((stoneF m 0).2.2 = 3 ∨ (stoneF m 0).2.2 = 4) := by
  have hl := fl.len
  rw [stoneB_len] at hl
  unfold stoneF
  rw [if_neg (by omega)]
  simp only [Int.toNat_zero, List.drop_zero]
  by_cases hm : m.take 4 = tomb
  · rw [if_neg (fun h => h.2 hm), h4, if_neg (by omega)]
    by_cases hs : numAt m (5 + x.length) 4 = (sumL (m.take (5 + x.length))).toNat
    · rw [← stoneH_len] at hs
      exact absurd (sum_flip fl hs) hne
    · rw [if_pos hs]; exact ⟨rfl, Or.inr rfl⟩
  · rw [if_pos ⟨by omega, hm⟩]; exact ⟨rfl, Or.inl rfl⟩
theorem nlen_stone {x : List UInt8} (h : okName x = true) : nlen (stoneB x) 4 = x.length := by
  have hx := okName_len h
  have : stoneB x = 84 :: 79 :: 77 :: 66 :: UInt8.ofNat x.length :: (x ++ le4 (sumL (stoneH x))) := by simp [stoneB, stoneH, tomb]
  rw [this]
  show (UInt8.ofNat x.length).toNat = _
  rw [UInt8.toNat_ofNat', Nat.mod_eq_of_lt (by omega)]
theorem stoneF_nil {x : List UInt8} (h : okName x = true) : stoneF (stoneB x) 0 = (x, 0 + ((9 + x.length : Nat) : Int), 0) := by
  have := stoneF_put h [] []
  rw [List.nil_append, List.append_nil] at this
  exact this
theorem c35 {w : World} {q r : Option Addr} {c d : Nat} {l m : List UInt8} (hl : BytesAt w q (ba l)) (hm : BytesAt w r (ba m)) : Rets Tryd.prog 35 #[.slice q l.length c, .slice r m.length d] w fun v w' => v = .bool (decide (l = m)) ∧ w' = w := by
  refine ent [_, _] Tryd.func35 ((vcTryd35 _ _ _ _ _ _ w _).mpr ?_)
  unfold VCTryd35
  refine ⟨_, ba_size l, hl, _, ba_size m, hm, _, rfl, ?_, rfl⟩
  rw [beq_ba, show bytesL (ba m) = m from ba_list m]
  by_cases h : l = m
  · subst h; simp
  · simp [h]
theorem c5 {W : World} (hm : ML W) (s : ByteArray) (a b : Int) (hbits : 0 ≤ b ∧ b < 4294967296) : Rets Tryd.prog 5 #[.string s, .int .i64 a, .int .u32 b] W fun v w' => v = .bool true ∧ Kp none_ W w' := by
  refine ent [_, _, _] Tryd.func5 ((vcTryd5 _ _ _ W _).mpr ?_)
  unfold VCTryd5
  have live : ∀ {w : World}, Kp none_ W w → Rets Tryd.prog 25 #[] w fun v w' => ∃ t, v = .bool t ∧ Keeps w w' [] ∧ ∃ v, Ending.returned (Value.bool t) = Ending.returned v ∧ v = .bool true ∧ Kp none_ W w' := fun k => (c25 (hm.kp0 k)).mono (by
    rintro v w' ⟨rfl, k2⟩
    exact ⟨_, rfl, k2.keeps0, _, rfl, rfl, k.trans k2⟩)
  refine mk_tab fun w4 w7 k7 t7 _ _ => (c27 (hm.kp0 k7) t7 s).mono ?_
  rintro v w8 ⟨q, n, c, rfl, b8, k8⟩
  have k08 := k7.trans k8
  refine ⟨_, _, _, _, rfl, k8.keeps0, ?_⟩
  cases ho : okName (bytesL s) with
  | false =>
    rw [ho] at b8
    simp only [Bool.false_eq_true, if_false] at b8 ⊢
    have D : ∀ {X Y : Prop}, X → (bif (6 : Int) != 0 then X else Y) := fun h => h
    exact bif_dec (fun _ => D (live k08)) (fun _ => bif_dec (fun _ => D (live k08)) (fun _ => bif_dec (fun _ => D (live k08)) (fun _ => D (D (live k08)))))
  | true =>
    rw [ho] at b8
    simp only [if_true] at b8 ⊢
    obtain ⟨rfl, hcap⟩ := b8.lens
    have hle := okName_len ho
    have hlb := stoneB_len (bytesL s)
    have D : ∀ {X Y : Prop}, Y → (bif (0 : Int) != 0 then X else Y) := fun h => h
    have L := D (X := Rets Tryd.prog 25 #[] w8 fun v w' => ∃ t, v = .bool t ∧ Keeps w8 w' [] ∧ ∃ v, Ending.returned (Value.bool t) = Ending.returned v ∧ v = .bool true ∧ Kp none_ W w') (bif_dec (p := ((stoneB (bytesL s)).length : Int) ≥ 5) (B := ∃ v, Ending.returned (Value.bool false) = Ending.returned v ∧ v = .bool true ∧ Kp none_ W w8) (fun _ => live k08) (fun h => absurd (by omega) h))
    refine bif_dec (fun _ => L) (fun _ => bif_dec (fun _ => L) (fun ha => bif_dec (fun _ => L) (fun hb => D (bif_dec (fun h => absurd h (by omega)) (fun _ => ?_)))))
    obtain ⟨A, rfl⟩ : ∃ A : Nat, a = A := ⟨a.toNat, by omega⟩
    refine (c34 b8.bytes (by omega) A (by omega) b hbits).mono ?_
    rintro v w9 ⟨m, fl, b9, k9⟩
    obtain ⟨q9, c9, rfl, _, _⟩ := b9.slice
    have hml := fl.len
    have k09 := k08.trans k9
    have b8' := b8.kp0 k9
    refine ⟨_, _, _, rfl, k9.keeps0, ⟨by decide, by omega⟩, bytes_at (b9.bytes.kp0 (Kp.drew1 (a := w9))) (i := 4) (by omega) fun _ _ => ⟨⟨by decide, by omega⟩, bytes_at (b8'.bytes.kp0 (Kp.drew1 (a := w9))) (i := 4) (by omega) fun _ _ => bif_ne (fun _ => live (k09.trans (Kp.drew1 (a := w9)))) (fun h4 => ?_)⟩⟩
    have kd : Kp none_ w9 w9.drew := Kp.drew1
    have k0d := k09.trans kd
    refine (c31 (hm.kp0 k0d) ((t7.kp0 k8).kp0 (k9.trans kd)) (b9.bytes.kp0 kd) (by omega) (by omega) 0).mono ?_
    rintro v wa ⟨rfl, ka⟩
    have k0a := k0d.trans ka
    refine ⟨_, _, _, rfl, ka.keeps0, ?_⟩
    refine (c35 ((b8'.bytes.kp0 kd).kp0 ka) ((b9.bytes.kp0 kd).kp0 ka)).mono ?_
    rintro v wx ⟨rfl, e⟩
    obtain rfl := e.symm
    refine ⟨_, rfl, (Kp.refl none_ _).keeps0, bif_dec (fun hsame => ?_) (fun hne => ?_)⟩
    · have e0 : stoneF m 0 = (bytesL s, 0 + ((9 + (bytesL s).length : Nat) : Int), 0) := by rw [← hsame]; exact stoneF_nil ho
      rw [e0]
      refine bif_eq (fun _ => bif_b (fun _ => live k0a) (fun h => ?_)) (fun h => absurd rfl h)
      rw [beq_ba, beq_self_eq_true] at h
      cases h
    · have en : nlen m 4 = (bytesL s).length := by
        rw [← nlen_stone ho, nlen_eq (by omega), nlen_eq (by omega)]
        exact Int.ofNat.inj h4
      obtain ⟨e1, e2⟩ := stone_flip ho fl en (fun h => hne h.symm)
      have tl : ((ba (stoneF m 0).1).toList == ({ data := #[] } : ByteArray).toList) = true := by rw [e1, beq_ba]; rfl
      refine bif_eq (fun _ => bif_b (fun _ => live k0a) (fun h => ?_)) (fun h3 => bif_eq (fun _ => bif_b (fun _ => live k0a) (fun h => ?_)) (fun h4 => ?_))
      · rw [tl] at h; cases h
      · rw [tl] at h; cases h
      · rcases e2 with h | h
        · exact absurd h h3
        · exact absurd h h4
end Go.Proofs.YtbpknjldphckgaaDoor
