/- What is read is written as it was. -/
import Derived.Test.YtbpknjldphckgaaDoorHe
import Derived.Test.YtbpknjldphckgaaDoorQs
namespace Go.Proofs.YtbpknjldphckgaaDoor
open Go Go.SX Go.SX.Crc Go.Proofs Go.Lib
set_option maxRecDepth 100000
set_option linter.unusedVariables false
set_option linter.unusedSimpArgs false
/-- The bytes of a member that was read are those that stand there. -/
theorem rdOne_put {m : List UInt8} {p : Nat} (h : (rdOne m (p, false)).2.2 = false) : (rdOne m (p, false)).2.1 ≤ m.length ∧ p ≤ (rdOne m (p, false)).2.1 ∧ m.take p ++ mbB (rdOne m (p, false)).1 = m.take (rdOne m (p, false)).2.1 ∧ (0 ≤ (rdOne m (p, false)).1.u ∧ (rdOne m (p, false)).1.u < 4294967296) := by
  have hB : (eB m (p, false)).2.2 = false := h
  rcases numR_case m 1 (p, false) with ⟨x, _⟩ | ⟨_, y1, x1⟩
  · exact absurd (bytR_bad (numR_bad (numR_bad (numR_bad (numR_bad (numR_bad x)))))) (by rw [show (bytR m _ (numR m 4 (numR m 4 (numR m 4 (numR m 4 (numR m 1 (numR m 1 (p, false)).2).2).2).2).2).2).2.2 = (eB m (p, false)).2.2 from rfl, hB]; decide)
  rw [width1] at y1 x1
  simp only at y1 x1
  have eM' : eM m (p, false) = (nlen m p, p + 1, false) := by unfold eM; rw [x1, numAt_one (by omega)]
  rcases numR_case m 1 (p + 1, false) with ⟨x, _⟩ | ⟨_, y2, x2⟩
  · have : (eN m (p, false)).2.2 = true := by unfold eN; rw [eM']; exact x
    exact absurd (bytR_bad (numR_bad (numR_bad (numR_bad (numR_bad this))))) (by rw [show (bytR m _ (numR m 4 (numR m 4 (numR m 4 (numR m 4 (eN m (p, false)).2).2).2).2).2).2.2 = (eB m (p, false)).2.2 from rfl, hB]; decide)
  rw [width1] at y2 x2
  simp only at y2 x2
  have eN' : eN m (p, false) = (nlen m (p + 1), p + 2, false) := by unfold eN; rw [eM', x2, numAt_one (by omega)]
  rcases numR_case m 4 (p + 2, false) with ⟨x, _⟩ | ⟨_, y3, x3⟩
  · have : (eA m (p, false)).2.2 = true := by unfold eA; rw [eN']; exact x
    exact absurd (bytR_bad (numR_bad (numR_bad (numR_bad this)))) (by rw [show (bytR m _ (numR m 4 (numR m 4 (numR m 4 (eA m (p, false)).2).2).2).2).2.2 = (eB m (p, false)).2.2 from rfl, hB]; decide)
  rw [width4] at y3 x3
  simp only at y3 x3
  have eA' : eA m (p, false) = (numAt m (p + 2) 4, p + 6, false) := by unfold eA; rw [eN', x3]
  rcases numR_case m 4 (p + 6, false) with ⟨x, _⟩ | ⟨_, y4, x4⟩
  · have : (eZ m (p, false)).2.2 = true := by unfold eZ; rw [eA']; exact x
    exact absurd (bytR_bad (numR_bad (numR_bad this))) (by rw [show (bytR m _ (numR m 4 (numR m 4 (eZ m (p, false)).2).2).2).2.2 = (eB m (p, false)).2.2 from rfl, hB]; decide)
  rw [width4] at y4 x4
  simp only at y4 x4
  have eZ' : eZ m (p, false) = (numAt m (p + 6) 4, p + 10, false) := by unfold eZ; rw [eA', x4]
  rcases numR_case m 4 (p + 10, false) with ⟨x, _⟩ | ⟨_, y5, x5⟩
  · have : (eR m (p, false)).2.2 = true := by unfold eR; rw [eZ']; exact x
    exact absurd (bytR_bad (numR_bad this)) (by rw [show (bytR m _ (numR m 4 (eR m (p, false)).2).2).2.2 = (eB m (p, false)).2.2 from rfl, hB]; decide)
  rw [width4] at y5 x5
  simp only at y5 x5
  have eR' : eR m (p, false) = (numAt m (p + 10) 4, p + 14, false) := by unfold eR; rw [eZ', x5]
  rcases numR_case m 4 (p + 14, false) with ⟨x, _⟩ | ⟨_, y6, x6⟩
  · have : (eU m (p, false)).2.2 = true := by unfold eU; rw [eR']; exact x
    exact absurd (bytR_bad this) (by rw [show (bytR m _ (eU m (p, false)).2).2.2 = (eB m (p, false)).2.2 from rfl, hB]; decide)
  rw [width4] at y6 x6
  simp only at y6 x6
  have eU' : eU m (p, false) = (numAt m (p + 14) 4, p + 18, false) := by unfold eU; rw [eR', x6]
  rcases bytR_case m (nlen m (p + 1)) (p + 18, false) with ⟨x, _⟩ | ⟨_, y7, x7⟩
  · have : (eB m (p, false)).2.2 = true := by unfold eB; rw [eU', eN']; exact x
    rw [hB] at this; cases this
  simp only at y7 x7
  have eB' : eB m (p, false) = ((m.drop (p + 18)).take (nlen m (p + 1)), p + 18 + nlen m (p + 1), false) := by unfold eB; rw [eU', eN', x7]
  have hs : ((m.drop (p + 18)).take (nlen m (p + 1))).length = nlen m (p + 1) := by rw [List.length_take, List.length_drop]; omega
  have n14 := num_lt m (p + 14)
  unfold rdOne
  rw [eB', eU', eR', eZ', eA', eM']
  refine ⟨y7, by show p ≤ p + 18 + _; omega, ?_, Int.natCast_nonneg _, by show ((numAt m (p + 14) 4 : Nat) : Int) < _; omega⟩
  have e2 : [UInt8.ofNat (nlen m p), UInt8.ofNat (nlen m (p + 1))] = (m.drop p).take 1 ++ (m.drop (p + 1)).take 1 := by rw [← ofNat_nlen (by omega), ← ofNat_nlen (by omega)]; rfl
  have e : mbB ⟨(m.drop (p + 18)).take (nlen m (p + 1)), (numAt m (p + 2) 4 : Nat), ((numAt m (p + 2) 4 : Nat) : Int) + (22 + ((ba ((m.drop (p + 18)).take (nlen m (p + 1)))).size : Int)), (numAt m (p + 10) 4 : Nat), (numAt m (p + 6) 4 : Nat), (numAt m (p + 14) 4 : Nat), (nlen m p : Nat)⟩ = (m.drop p).take 1 ++ (m.drop (p + 1)).take 1 ++ (m.drop (p + 2)).take 4 ++ (m.drop (p + 6)).take 4 ++ (m.drop (p + 10)).take 4 ++ (m.drop (p + 14)).take 4 ++ (m.drop (p + 18)).take (nlen m (p + 1)) := by
    rw [← le4_numAt (by omega), ← le4_numAt (by omega), ← le4_numAt (by omega), ← le4_numAt (by omega), ← e2]
    unfold mbB mbJ
    simp only [hs, Int.toNat_natCast]
    simp
  rw [e]
  simp only [← List.append_assoc]
  rw [take_cat, take_cat, take_cat, take_cat, take_cat, take_cat, take_cat]
theorem rdOne_bad {m : List UInt8} {s : Nat × Bool} (h : s.2 = true) : (rdOne m s).2.2 = true :=
  bytR_bad (numR_bad (numR_bad (numR_bad (numR_bad (numR_bad (numR_bad h))))))
theorem rdAll_put {m : List UInt8} : ∀ k, (rdAll m k).2.2 = false → (rdAll m k).2.1 ≤ m.length ∧ dirB (rdAll m k).1 = m.take (rdAll m k).2.1 ∧ ∀ b ∈ (rdAll m k).1, 0 ≤ b.u ∧ b.u < 4294967296
  | 0, _ => ⟨Nat.zero_le _, by simp [rdAll, dirB], fun b hb => by cases hb⟩
  | k + 1, h => by
    have hk : (rdAll m k).2.2 = false := by
      cases hh : (rdAll m k).2.2 with
      | false => rfl
      | true => rw [rdAll, rdOne_bad hh] at h; cases h
    obtain ⟨h1, h2, h3⟩ := rdAll_put k hk
    have hs : (rdAll m k).2 = ((rdAll m k).2.1, false) := by rw [← hk]
    rw [rdAll] at h ⊢
    rw [hs] at h ⊢
    obtain ⟨p1, p2, p3, p4⟩ := rdOne_put h
    refine ⟨p1, ?_, fun b hb => ?_⟩
    · rw [dirB_app, h2]
      show m.take _ ++ (mbB _ ++ []) = _
      rw [List.append_nil, p3]
    · rcases List.mem_append.1 hb with hb | hb
      · exact h3 b hb
      · rw [List.mem_singleton] at hb
        subst hb
        exact p4
theorem okMb_wf {b : Mb} (h : okMb b = true) (hu : 0 ≤ b.u ∧ b.u < 4294967296) : b.wf := by
  obtain ⟨h1, h2, h3, h4, h5, h6⟩ := okMb_facts h
  exact ⟨⟨by omega, by omega⟩, ⟨by omega, by omega⟩, hu⟩
/-- The bytes of a foot that was taken are those that stand there. -/
theorem footG_put {m : List UInt8} (hl : m.length = 20) (h : (footG m).2 = 0) : footB (footG m).1.1 (footG m).1.2.1 (footG m).1.2.2 = m ∧ (0 ≤ (footG m).1.1 ∧ (footG m).1.1 ≤ 200) := by
  unfold footG at h ⊢
  by_cases h1 : m.take 4 ≠ footM
  · rw [if_pos h1] at h; exact absurd h (by decide)
  rw [if_neg h1] at h ⊢
  by_cases h2 : numAt m 16 4 ≠ (sumL (m.take 16)).toNat
  · rw [if_pos h2] at h; exact absurd h (by decide)
  rw [if_neg h2] at h ⊢
  by_cases h3 : okF (numAt m 4 4) (numAt m 8 4) = false
  · rw [if_pos h3] at h; exact absurd h (by decide)
  rw [if_neg h3]
  have h1' : m.take 4 = footM := Classical.byContradiction h1
  have h2' : numAt m 16 4 = (sumL (m.take 16)).toNat := Classical.byContradiction h2
  have h3' : okF (numAt m 4 4) (numAt m 8 4) = true := by simpa using h3
  have hok := of_decide_eq_true h3'
  have hJ : footJ (numAt m 4 4 : Nat) (numAt m 8 4 : Nat) (numAt m 12 4 : Nat) 3 = m.take 16 := by
    show footM ++ le4 (w32 (numAt m 4 4 : Nat)) ++ le4 (w32 (numAt m 8 4 : Nat)) ++ le4 (w32 (numAt m 12 4 : Nat)) = _
    rw [le4_numAt (by omega), le4_numAt (by omega), le4_numAt (by omega), ← h1', take_cat, take_cat, take_cat]
  refine ⟨?_, hok.1⟩
  show footJ _ _ _ 3 ++ le4 (sumL (footJ _ _ _ 3)) = _
  rw [hJ]
  have := leN4 (l := (m.drop 16).take 4) (by rw [List.length_take, List.length_drop]; omega) h2'
  rw [← this, take_cat, List.take_of_length_le (by omega)]
/-- What is read is written as it was. -/
theorem read_put {b : List UInt8} (h : (readD b).2 = 0) : okDir (readD b).1 = true ∧ (∀ x ∈ (readD b).1, x.wf) ∧ wholeB (readD b).1 = b := by
  have hF : (footF b).2 = 0 := by
    unfold readD at h
    by_cases hh : (footF b).2 ≠ 0
    · rw [if_pos hh] at h; exact absurd h hh
    · exact Classical.byContradiction hh
  have h20 := footF_len hF
  have hFG : footF b = footG (b.drop (b.length - 20)) := by unfold footF; rw [if_neg (by omega)]
  obtain ⟨fb, fn⟩ := footG_put (m := b.drop (b.length - 20)) (by rw [List.length_drop]; omega) (by rw [← hFG]; exact hF)
  rw [← hFG] at fb fn
  unfold readD at h ⊢
  rw [if_neg (fun x => x hF)] at h ⊢
  by_cases h1 : (footF b).1.2.1 ≠ ((b.length - 20 : Nat) : Int)
  · rw [if_pos h1] at h; exact absurd h (by decide)
  rw [if_neg h1] at h ⊢
  by_cases h2 : (footF b).1.2.2 ≠ ((sumL (b.take (b.length - 20))).toNat : Int)
  · rw [if_pos h2] at h; exact absurd h (by decide)
  rw [if_neg h2] at h ⊢
  have h1' : (footF b).1.2.1 = ((b.length - 20 : Nat) : Int) := Classical.byContradiction h1
  have h2' : (footF b).1.2.2 = ((sumL (b.take (b.length - 20))).toNat : Int) := Classical.byContradiction h2
  rw [h1', h2'] at fb
  generalize (footF b).1.1 = n at *
  obtain ⟨N, rfl⟩ := Int.eq_ofNat_of_zero_le fn.1
  have etk : (b.take (b.length - 20)).length = b.length - 20 := by rw [List.length_take]; omega
  unfold takeD at h ⊢
  rw [if_neg (fun x => x fn), Int.toNat_natCast] at h ⊢
  by_cases h3 : (rdAll (b.take (b.length - 20)) N).2.2 = true
  · rw [if_pos h3] at h; exact absurd h (by decide)
  rw [if_neg h3] at h ⊢
  by_cases h4 : (rdAll (b.take (b.length - 20)) N).2.1 < (b.take (b.length - 20)).length ∨ okDir (rdAll (b.take (b.length - 20)) N).1 = false
  · rw [if_pos h4] at h; exact absurd h (by decide)
  rw [if_neg h4]
  obtain ⟨p1, p2, p3⟩ := rdAll_put (m := b.take (b.length - 20)) N (by simpa using h3)
  have hlen := rdAll_len (b.take (b.length - 20)) N
  have hok : okDir (rdAll (b.take (b.length - 20)) N).1 = true := by
    cases hh : okDir (rdAll (b.take (b.length - 20)) N).1 with
    | true => rfl
    | false => exact absurd (.inr hh) h4
  have hpos : (rdAll (b.take (b.length - 20)) N).2.1 = (b.take (b.length - 20)).length := by
    by_cases hh : (rdAll (b.take (b.length - 20)) N).2.1 < (b.take (b.length - 20)).length
    · exact absurd (.inl hh) h4
    · omega
  rw [hpos, List.take_of_length_le (Nat.le_refl _)] at p2
  refine ⟨hok, fun x hx => okMb_wf ((okDir_all hok).2 x hx) (p3 x hx), ?_⟩
  unfold wholeB
  rw [p2, hlen, etk, fb, List.take_append_drop]
end Go.Proofs.YtbpknjldphckgaaDoor

/- FootBack walked. -/
namespace Go.Proofs.YtbpknjldphckgaaDoor
open Go Go.SX Go.SX.Crc Go.Proofs Go.Lib
set_option maxRecDepth 100000
set_option linter.unusedVariables false
set_option linter.unusedSimpArgs false
theorem c14 {W : World} (hml : ML W) {q r : Option Addr} {c d : Nat} {l : List Mb} {b : List UInt8} (hq : MemsAt W q l) (hwf : ∀ x ∈ l, x.wf) (hb : BytesAt W r (ba b)) (hcb : b.length ≤ d) : Rets Tryd.prog 14 #[.slice q l.length c, .slice r b.length d] W fun v w' => v = .bool true ∧ Kp none_ W w' := by
  refine ent [_, _] Tryd.func14 ((vcTryd14 _ _ _ _ _ _ W _).mpr ?_)
  unfold VCTryd14
  have live : ∀ {w : World}, Kp none_ W w → Rets Tryd.prog 60 #[] w fun v w' => ∃ t, v = .bool t ∧ Keeps w w' [] ∧ ∃ v, Ending.returned (Value.bool t) = Ending.returned v ∧ v = .bool true ∧ Kp none_ W w' := fun k => (c60 (hml.kp0 k)).mono (by
    rintro v w' ⟨rfl, k2⟩
    exact ⟨_, rfl, k2.keeps0, _, rfl, rfl, k.trans k2⟩)
  refine (c62 hq).mono ?_
  rintro v wx ⟨t, rfl, e, ht⟩
  obtain rfl := e.symm
  refine ⟨_, rfl, (Kp.refl none_ _).keeps0, bif_b (fun _ => live (Kp.refl _ _)) (fun h1 => bif_dec (fun _ => live (Kp.refl _ _)) (fun hx => ?_))⟩
  obtain ⟨hl, hs⟩ := ht h1
  refine mk_tab fun w4 w7 k7 t7 _ _ => (c63 (hml.kp0 k7) t7 (hq.kp0 k7) fun b hb => ⟨by have := hs b hb; omega, hwf b hb⟩).mono ?_
  rintro v w8 ⟨q8, n8, c8, rfl, b8, k8⟩
  have k08 := k7.trans k8
  have t8 := t7.kp0 k8
  refine ⟨_, _, _, _, rfl, k8.keeps0, ?_⟩
  cases ho : okDir l with
  | false =>
    simp only [Bool.false_eq_true, if_false]
    refine bif_eq (fun h => absurd h (by decide)) (fun _ => ?_)
    refine (c64 (hml.kp0 k08) t8 (hb.kp0 k08) hcb (by omega)).mono ?_
    rintro v wa ⟨qa, ca, rfl, ma, kA⟩
    have ka := k08.trans kA
    have ta := Tab.kp0 t8 kA
    refine ⟨_, _, _, _, rfl, kA.keeps0, bif_ne (fun hne => bif_eq (fun _ => live ka) (fun h => ?_)) (fun heq => ?_)⟩
    · rw [readD_empty hne] at h
      exact absurd rfl h
    obtain ⟨ro, rw', rb⟩ := read_put heq
    refine (c63 (hml.kp0 ka) ta ma fun x hx => ⟨by have := (okMb_facts ((okDir_all ro).2 x hx)).1; omega, rw' x hx⟩).mono ?_
    rw [ro]
    simp only [if_true]
    rintro v wc ⟨qc, nc, cc, rfl, bc, kc⟩
    obtain ⟨rfl, _⟩ := bc.lens
    have kac := ka.trans kc
    refine ⟨_, _, _, _, rfl, kc.keeps0, bif_eq (fun _ => ⟨_, ba_size _, bc.bytes, _, ba_size _, hb.kp0 kac, bif_b (fun _ => live kac) (fun h => ?_)⟩) (fun h => absurd rfl h)⟩
    rw [rb] at h
    simp at h
  | true =>
    rw [ho] at b8
    simp only [if_true] at b8 ⊢
    obtain ⟨rfl, hc8, _⟩ := b8.lens
    obtain ⟨hl1, hl2⟩ := dir_len ho
    have hwl := whole_len l
    refine bif_eq (fun _ => (c64 (hml.kp0 k08) t8 b8.bytes hc8 (by omega)).mono ?_) (fun h => absurd rfl h)
    rw [read_whole ho hwf]
    rintro v w9 ⟨q9, c9, rfl, m9, k9⟩
    have k09 := k08.trans k9
    refine ⟨_, _, _, _, rfl, k9.keeps0, bif_ne (fun h => absurd rfl h) (fun _ => (c39 (l := l) m9 (hq.kp0 k09) (by omega)).mono ?_)⟩
    rintro v w10 ⟨rfl, k10⟩
    have k010 := k09.trans k10
    have t10 := (t8.kp0 k9).kp0 k10
    refine ⟨_, rfl, k10.keeps0, bif_not (fun h => absurd rfl (of_decide_eq_false h)) (fun _ => ?_)⟩
    refine (c64 (hml.kp0 k010) t10 (hb.kp0 k010) hcb (by omega)).mono ?_
    rintro v wa ⟨qa, ca, rfl, ma, kA⟩
    have ka := k010.trans kA
    have ta := Tab.kp0 t10 kA
    refine ⟨_, _, _, _, rfl, kA.keeps0, bif_ne (fun hne => bif_eq (fun _ => live ka) (fun h => ?_)) (fun heq => ?_)⟩
    · rw [readD_empty hne] at h
      exact absurd rfl h
    obtain ⟨ro, rw', rb⟩ := read_put heq
    refine (c63 (hml.kp0 ka) ta ma fun x hx => ⟨by have := (okMb_facts ((okDir_all ro).2 x hx)).1; omega, rw' x hx⟩).mono ?_
    rw [ro]
    simp only [if_true]
    rintro v wc ⟨qc, nc, cc, rfl, bc, kc⟩
    obtain ⟨rfl, _⟩ := bc.lens
    have kac := ka.trans kc
    refine ⟨_, _, _, _, rfl, kc.keeps0, bif_eq (fun _ => ⟨_, ba_size _, bc.bytes, _, ba_size _, hb.kp0 kac, bif_b (fun _ => live kac) (fun h => ?_)⟩) (fun h => absurd rfl h)⟩
    rw [rb] at h
    simp at h
end Go.Proofs.YtbpknjldphckgaaDoor
