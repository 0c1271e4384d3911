import Derived.Test.YtlgkcbdpaffigaaBj
namespace Go.Proofs.Ytlgkcbdpaffigaa
open Go Go.SX Go.Proofs
set_option maxRecDepth 100000
set_option linter.unusedVariables false
set_option linter.unusedSimpArgs false
section
variable {w w' : World} {col col' : Col} {D : Nat} {s : St} {S : Nat → Prop}
theorem keepsA_past (s : St) (n : Nat) (kb : Nat → Bool) (k : Nat) (hn : n ≤ k) : ∀ m, keepsA s n kb (k + m) = keepsA s n kb k
  | 0 => rfl
  | m + 1 => by
    have ih := keepsA_past s n kb k hn m
    have e : keepsA s n kb (k + m + 1) = keepsA s n kb (k + m) := by
      rw [keepsA]
      split
      · rw [if_neg (by omega)]
      · rfl
    exact e.trans ih
theorem RDsk.nowPut (h : RDsk w col D s) {i : Nat} (hi : i < s.size) {f : Int → Int} (hf : ∀ j, isByte (f j)) (hk : Kp (cl col 2) w w') {xs : List Value} (hr : Row0 w' col D 0 2 9 1 s.size xs) (hx : xs = (strL s.now s.size).set i (.string (strOf f 0 512))) : RDsk w' col D (setNow s i f) := by
  subst hx
  rw [strL_set] at hr
  exact h.nowSet hk hr (setNow_byte h.ok hf i)
theorem waitL_get {l : List (Nat × (Int → Int))} {k : Nat} {e : Nat × (Int → Int)} (h : l[k]? = some e) : (waitL l)[k * 2]? = some (.int .i64 e.1) ∧ (waitL l)[k * 2 + 1]? = some (.string (strOf e.2 (512 * e.1) 512)) := by
  induction l generalizing k with
  | nil => simp at h
  | cons a l ih =>
    cases k with
    | zero =>
      simp at h
      subst h
      exact ⟨rfl, rfl⟩
    | succ k =>
      have := ih (k := k) (by simpa using h)
      have e1 : (k + 1) * 2 = k * 2 + 2 := by omega
      rw [e1]
      exact this
theorem c60 (h : RDsk w col D s) {q : Option Addr} {n cp : Nat} {kb : Nat → Bool} (hb : Bools w q n kb) (hq : 0 < n → ∀ a, q = some a → col a.block = 0) (fill : Int) (hf : isByte fill) (hl : s.wait.length ≤ 100000) :
    Rets Try.prog 60 #[.pointer (some ⟨D, 0, none⟩), .slice q n cp, .int .u8 fill] w fun v w' => v = .tuple #[] ∧ Kp (ownC col) w w' ∧ RDsk w' col D (crashSt s n kb fill) := by
  refine ent [_, _, _] Try.func60 ((vcTry60 _ _ _ _ _ w _).mpr ?_)
  unfold VCTry60
  have hs := h.ok.size
  have own2 : ∀ i, cl col 2 i → ownC col i := fun i hi => by have hi : col i = 2 := hi; show col i ≠ 0; omega
  have nD2 : ¬ cl col 2 D := fun hh => by have := h.colD; unfold cl at hh; omega
  simp only [ptr_some, ad_add, Nat.zero_add, Nat.add_zero]
  refine ⟨fun i w' => ∃ k : Nat, i = k ∧ k ≤ s.size ∧ Kp (cl col 2) w w' ∧ RDsk w' col D (crashA s fill k), fun i _ => (s.size - i).toNat, ⟨0, rfl, by omega, Kp.refl _ _, h⟩, ?_⟩
  rintro i w1 ⟨k, rfl, hk, k1, h1⟩
  obtain ⟨a1, a2, a3, a4⟩ := crashA_same s fill k
  obtain ⟨q0, c0, l0⟩ := h1.now.len
  rw [a1] at l0
  refine ⟨_, _, _, l0, bif_dec (fun hlt => ?_) (fun hge => ?_)⟩
  · have hki : k < s.size := by omega
    have hki1 : k < (crashA s fill k).size := by omega
    obtain ⟨xs, x1, x2⟩ := h1.safe
    obtain ⟨g1, c1, y1, y2, y3⟩ := x1.get (by omega)
    obtain ⟨g2, c2, z1, z2, z3⟩ := h1.has.get (by omega)
    obtain ⟨g0, c0', t1, t2, t3, t4, t5⟩ := h1.drew.now.setAt (by rw [h1.colD]; omega) hki1
    rw [a1] at t1
    have t1' := l0.symm.trans t1
    cases t1'
    obtain ⟨⟨t, ht⟩, hhas⟩ := x2 k hki1
    obtain ⟨r1, kk1⟩ := t5 (.string t)
    have nb : ∀ i, cl col 2 i → col i ≠ 4 := fun i hi => by unfold cl at hi; omega
    have kd : Kp (cl col 2) w1 (w1.drew.setCell ⟨g0, k, none⟩ (.string t)) := kk1.of_drew
    refine ⟨_, _, _, l0, _, _, _, y1, ⟨by omega, by omega⟩, ?_⟩
    simp only [ptr_some, ad_add, Nat.zero_add, Nat.add_zero, Nat.mul_one, Int.toNat_natCast]
    refine ⟨_, y3 k _ ht, ⟨by omega, by omega⟩, t3, t4, _, _, _, kk1.cell (show w1.drew.cell? _ = _ from z1) nD2, ⟨by omega, by omega⟩, ?_⟩
    simp only [ptr_some, ad_add, Nat.zero_add, Nat.add_zero, Nat.mul_one, Int.toNat_natCast]
    refine ⟨_, kk1.cell (show w1.drew.cell? _ = _ from z3 k _ (boolL_get _ hki1)) (fun hh => by have : col g2 = 2 := hh; omega), ?_⟩
    have next : crashA s fill (k + 1) = setNow (crashA s fill k) k (if s.has k = true then secAt s.safe k else strangeF k fill) := rfl
    rw [a2]
    cases hh : s.has k with
    | true =>
      rw [hh, if_pos rfl] at next
      show cond false _ _
      simp only [cond_false]
      have e : t = strOf (secAt s.safe k) 0 512 := by
        have := hhas (by rw [a2]; exact hh)
        rw [ht, a3] at this
        cases this
        exact (secAt_str _ _).symm
      refine wr64 (by omega) ⟨⟨k + 1, by omega, by omega, k1.trans kd, ?_⟩, by first | omega | (dsimp only; omega)⟩
      rw [next]
      exact h1.nowPut hki1 (f := secAt s.safe k) (fun j => h.ok.safe _) kd r1 (by rw [e])
    | false =>
      rw [hh, if_neg (by decide)] at next
      show cond true _ _
      simp only [cond_true]
      have l1 : (w1.drew.setCell ⟨g0, k, none⟩ (.string t)).cell? ⟨D, 0, none⟩ = some (.slice (some ⟨g0, 0, none⟩) s.size c0) := kd.cell l0 nD2
      have r1' : Row0 (w1.drew.setCell ⟨g0, k, none⟩ (.string t)) col D 0 2 9 1 (crashA s fill k).size ((strL (crashA s fill k).now (crashA s fill k).size).set k (.string t)) := r1
      generalize w1.drew.setCell ⟨g0, k, none⟩ (.string t) = w2 at *
      refine ⟨_, _, _, l1, (c98 w2.drew k (by omega) fill hf).mono ?_⟩
      rintro v w3 ⟨rfl, k3⟩
      have l3 := k3.cell0 (show w2.drew.cell? ⟨D, 0, none⟩ = _ from l1)
      have r3 := Row0.kpc (col' := col) (show Row0 w2.drew _ _ _ _ _ _ _ _ from r1') k3 (fun i _ h => h.elim) (fun _ _ => rfl) (fun v hv => k3.cell0 hv)
      obtain ⟨g3, c3, u1, u2, u3, u4, u5⟩ := r3.setAt (by rw [h1.colD]; omega) hki1
      rw [a1] at u1
      rw [l3] at u1
      cases u1
      obtain ⟨r4, k4⟩ := u5 (.string (strOf (strangeF k fill) 0 512))
      have kall : Kp (cl col 2) w1 (w3.setCell ⟨g0, k, none⟩ (.string (strOf (strangeF k fill) 0 512))) := (kd.drew.trans (k3.mono fun _ _ h => h.elim)).trans k4
      refine ⟨_, rfl, k3.keeps0, l3, ⟨by omega, by omega⟩, ?_⟩
      simp only [ptr_some, ad_add, Nat.zero_add, Nat.add_zero, Nat.mul_one, Int.toNat_natCast]
      refine ⟨u3, u4, wr64 (by omega) ⟨⟨k + 1, by omega, by omega, k1.trans kall, ?_⟩, by first | omega | (dsimp only; omega)⟩⟩
      rw [next]
      exact h1.nowPut hki1 (f := strangeF k fill) (fun j => strange_byte k fill j) kall r4 (by rw [List.set_set])
  -- what is kept
  have : k = s.size := by omega
  subst this
  generalize hsa : crashA s fill s.size = sa at *
  have hneq : 0 < n → ∀ a, q = some a → ¬ cl col 2 a.block := fun h0 a ha hh => by have := hq h0 a ha; unfold cl at hh; omega
  refine ⟨fun i w' => ∃ k : Nat, i = k ∧ k ≤ s.wait.length ∧ Kp (cl col 2) w1 w' ∧ RDsk w' col D (keepsA sa n kb k), fun i _ => (s.wait.length - i).toNat, ⟨0, rfl, by omega, Kp.refl _ _, h1⟩, ?_⟩
  rintro i w2 ⟨k, rfl, hk2, k2, h2⟩
  obtain ⟨b1, b2, b3, b4⟩ := keepsA_same sa n kb k
  have kw : Kp (ownC col) w w2 := (k1.trans k2).mono fun i _ hi => own2 i hi
  obtain ⟨q3, c3, l3⟩ := h2.wait.len
  rw [b4, a4] at l3
  have fin : keepsA sa n kb k = keepsA sa n kb s.wait.length → Rets Try.prog 59 #[.pointer (some ⟨D, 0, none⟩)] w2 fun v w' => v = .tuple #[] ∧ Keeps w2 w' [] ∧ (∃ v, Ending.returned (.tuple #[]) = .returned v ∧ v = .tuple #[] ∧ Kp (ownC col) w w' ∧ RDsk w' col D (crashSt s n kb fill)) := by
    intro e
    refine (c59 h2).mono ?_
    rintro v w3 ⟨rfl, k3, h3⟩
    refine ⟨rfl, k3.keeps0, _, rfl, rfl, kw.trans k3, ?_⟩
    unfold crashSt
    rw [hsa, ← e]
    exact h3
  refine ⟨_, _, _, l3, bif_dec (fun hlt => ?_) (fun hge => ?_)⟩
  rotate_left
  · exact fin (by congr 1; omega)
  refine bif_dec (fun hn => ?_) (fun hn => ?_)
  rotate_left
  · refine fin ?_
    have := keepsA_past sa n kb k (by omega) (s.wait.length - k)
    rw [← this]
    congr 1
    omega
  have hkw : k < s.wait.length := by omega
  obtain ⟨e, he⟩ : ∃ e, s.wait[k]? = some e := ⟨s.wait[k]'hkw, List.getElem?_eq_getElem _⟩
  have hmem := h.ok.wait e (List.mem_of_getElem? he)
  have next : keepsA sa n kb (k + 1) = if k < n ∧ kb k = true then setNow (keepsA sa n kb k) e.1 (secAt e.2 e.1) else keepsA sa n kb k := by
    show (match sa.wait[k]? with | some e => _ | none => _) = _
    rw [a4, he]
  obtain ⟨aq, rfl, hbc⟩ := ((hb.kp k1 hneq).kp k2 hneq) k (by omega)
  refine ⟨by omega, ?_⟩
  simp only [ptr_some, Nat.mul_one]
  refine ⟨_, hbc, bif_b (fun hkb => ?_) (fun hkb => wr64 (by omega) ⟨⟨k + 1, by omega, by omega, k2, by rw [next, if_neg (by rw [hkb]; simp)]; exact h2⟩, by first | omega | (dsimp only; omega)⟩)⟩
  obtain ⟨gw, cw, v1, v2, v3⟩ := h2.wait.get (by rw [b4, a4]; omega)
  rw [b4, a4] at v1
  rw [l3] at v1
  cases v1
  obtain ⟨f1, f2⟩ := waitL_get (show (keepsA sa n kb k).wait[k]? = some e by rw [b4, a4]; exact he)
  have hes : e.1 < (keepsA sa n kb k).size := by rw [b1, a1]; exact hmem.1
  obtain ⟨g0, c0', t1, t2, t3, t4, t5⟩ := h2.drew.now.setAt (by rw [h2.colD]; omega) hes
  obtain ⟨r1, kk0⟩ := t5 (.string (strOf e.2 (512 * e.1) 512))
  have kk1 := kk0.of_drew
  refine ⟨_, _, _, t1, _, _, _, l3, ⟨by omega, by omega⟩, ?_⟩
  simp only [ptr_some, ad_add, Nat.zero_add, Nat.add_zero, Int.toNat_natCast]
  refine ⟨_, v3 _ _ f1, _, _, _, l3, ⟨by omega, by omega⟩, ?_⟩
  try simp only [ptr_some, ad_add, Nat.zero_add, Nat.add_zero, Int.toNat_natCast]
  refine ⟨_, v3 _ _ f2, ⟨by omega, by omega⟩, ?_⟩
  try simp only [ptr_some, ad_add, Nat.zero_add, Nat.add_zero, Int.toNat_natCast, Nat.mul_one]
  refine ⟨t3, t4, wr64 (by omega) ⟨⟨k + 1, by omega, by omega, k2.trans kk1, ?_⟩, by first | omega | (dsimp only; omega)⟩⟩
  rw [next, if_pos ⟨by omega, hkb⟩]
  exact h2.nowPut hes (f := secAt e.2 e.1) (fun j => hmem.2 _) kk1 r1 (by rw [secAt_str])
end
end Go.Proofs.Ytlgkcbdpaffigaa
