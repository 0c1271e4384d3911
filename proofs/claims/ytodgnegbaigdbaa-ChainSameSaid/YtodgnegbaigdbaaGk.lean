import Derived.Test.YtodgnegbaigdbaaGj
import Derived.Test.YtodgnegbaigdbaaSxRow
namespace Go.Proofs.Ytodgnegbaigdbaa
open Go Go.SX Go.Proofs
set_option maxRecDepth 100000
set_option linter.unusedVariables false
set_option linter.unusedSimpArgs false
section
variable {w w' : World} {q : Option Addr} {n cp : Nat}
/-- A row of bytes, as a string. -/
theorem row_bytes {own : Nat → Prop} {out : List Int} {m c : Nat} (h : OwnRow w own 5 1 (.slice q m c) out.length (byR out)) (hr : ∀ x ∈ out, 0 ≤ x ∧ x < 256) : BytesAt w q (strOf (fun i => out.getD i.toNat 0) 0 out.length) := by
  intro i hi
  have hik : i < out.length := by rw [strOf_size] at hi; exact hi
  obtain ⟨a, e, hc⟩ := h.at (j := i) (u := .int .u8 (out.getD i 0)) (by unfold byR; rw [List.getElem?_map, List.getD_eq_getElem?_getD, List.getElem?_eq_getElem hik]; rfl)
  refine ⟨a, e, ?_⟩
  rw [hc, strOf_get]
  have hx : 0 ≤ out.getD i 0 ∧ out.getD i 0 < 256 := hr _ (by rw [List.getD_eq_getElem?_getD, List.getElem?_eq_getElem hik]; exact List.getElem_mem hik)
  congr 2
  rw [UInt8.toNat_ofNat']
  simp only [Int.zero_add, Int.toNat_natCast]
  omega
theorem bytesAt_kp0 {s : ByteArray} (h : BytesAt w q s) (k : Kp none_ w w') : BytesAt w' q s := fun i hi => by
  obtain ⟨a, e, hc⟩ := h i hi
  exact ⟨a, e, k.cell0 hc⟩
theorem beq_list_self (s : ByteArray) : (s.toList == s.toList) = true := by simp
theorem sumT_le {l : List Tok} (h : ∀ t ∈ l, rightT t = true) : 0 ≤ sumT l ∧ sumT l ≤ 258 * l.length := by
  induction l with
  | nil => simp [sumT]
  | cons t r ih =>
    have h1 := ih fun t ht => h t (.tail _ ht)
    have h2 := rightT_len (h t (.head _))
    have h3 : sumT (t :: r) = max 1 t.2.1 + sumT r := rfl
    rw [h3]
    simp only [List.length_cons]
    omega
theorem c13 {l : List Tok} (hk : Toks w q l) (hr : ∀ t ∈ l, 0 ≤ t.1 ∧ t.1 < 256) (most : Int) (hm : -9223372036854775808 ≤ most ∧ most < 9223372036854775808) :
    Rets Try.prog 13 #[.slice q l.length cp, .int .i64 most] w fun v w' => v = .bool true ∧ Kp none_ w w' := by
  refine ent [_, _] Try.func13 ((vcTry13 _ _ _ _ w _).mpr ?_)
  unfold VCTry13
  refine bif_dec (fun _ => live29 w w (Kp.refl _ _)) (fun g1 => ?_)
  refine (c42 (cp := cp) hk (by omega) most hm).mono ?_
  rintro v w1 ⟨⟨q1, c1, rfl, r1⟩, k1⟩
  refine ⟨_, _, _, _, rfl, k1.keeps0, (c43 (cp := cp) (hk.kp0 k1) (by omega) most hm).mono ?_⟩
  rintro v w2 ⟨⟨q2, c2, rfl, r2⟩, k2⟩
  have hrr := exF_range most l [] hr (by simp)
  refine ⟨_, _, _, _, rfl, k2.keeps0, bif_ne (fun h => absurd rfl h) (fun _ => ?_)⟩
  refine ⟨_, strOf_size _ _ _, bytesAt_kp0 (row_bytes r1 hrr) k2, _, strOf_size _ _ _, row_bytes r2 hrr, ?_⟩
  rw [beq_list_self]
  have k12 := k1.trans k2
  have hsl : ∀ i, (∀ t ∈ l.take i, rightT t = true) → sumT (l.take i) ≤ 1048576 := fun i h => by
    have h1 := (sumT_le h).2
    rw [List.length_take] at h1
    omega
  refine (c44 (cp := cp) (hk.kp0 k12) (by omega) hsl).mono ?_
  rintro v w3 ⟨rfl, k3⟩
  have k13 := k12.trans k3
  refine ⟨_, _, rfl, k3.keeps0, fun f s i w' => (0 ≤ i ∧ i ≤ l.length) ∧ f = (l.take i.toNat).all rightT ∧ (f = true → s = sumT (l.take i.toNat)) ∧ (0 ≤ s ∧ s ≤ 258 * i) ∧ Kp none_ w w', fun _ _ i _ => (l.length - i).toNat, ⟨by omega, rfl, fun _ => rfl, by omega, k13⟩, ?_⟩
  rintro f s i w4 ⟨hi, hf, hs, hs2, k4⟩
  refine bif_dec (fun hlt => ?_) (fun hge => ?_)
  rotate_left
  · have e : l.take i.toNat = l := List.take_of_length_le (by omega)
    rw [e] at hf hs
    rw [← hf]
    cases f with
    | true =>
      rw [hs rfl]
      exact bif_b (fun _ => bif_b (fun _ => bif_eq (fun _ => live29 w w4 k4) (fun h => absurd rfl h)) (fun h => by cases h)) (fun h => by cases h)
    | false =>
      exact bif_b (fun _ => bif_b (fun h => by cases h) (fun _ => bif_b (fun _ => bif_eq (fun _ => live29 w w4 k4) (fun h => absurd rfl h)) (fun h => by cases h))) (fun h => by cases h)
  obtain ⟨t, ht⟩ : ∃ t, l[i.toNat]? = some t := ⟨l[i.toNat]'(by omega), List.getElem?_eq_getElem _⟩
  obtain ⟨a, rfl, x0, x1, x2⟩ := (hk.kp0 k4) i.toNat t ht
  simp only [ptr_some, add_add, Nat.add_zero]
  refine ⟨by omega, _, _, _, ⟨x0, x1, x2, trivial⟩, by omega, _, _, _, ⟨x0, x1, x2, trivial⟩, (c45 _ t).mono ?_⟩
  rintro v w5 ⟨rfl, k5⟩
  refine ⟨_, rfl, k5.keeps0, ⟨k5.cell0 x0, k5.cell0 x1, k5.cell0 x2, trivial⟩, (c46 _ t).mono ?_⟩
  rintro v w6 ⟨rfl, k6⟩
  have k56 : Kp none_ w4 w6 := ((Kp.refl none_ w4).drew.trans k5).trans k6
  have k06 := k4.trans k56
  refine ⟨_, rfl, k6.keeps0, ?_⟩
  have hi1 : (i + 1).toNat = i.toNat + 1 := by omega
  have htk := take_get ht
  have hall : (l.take (i.toNat + 1)).all rightT = (f && rightT t) := by rw [htk, List.all_append, ← hf]; simp
  simp only [beq_self_eq_true, Bool.not_true, cond_false]
  refine bif_b (fun hft => ?_) (fun hff => wr64 (by omega) ⟨⟨by omega, by rw [hi1, hall, hff]; rfl, fun h => (by cases h), by omega, k06⟩, by first | omega | (dsimp only; omega)⟩)
  refine ⟨by omega, _, _, _, ⟨k56.cell0 x0, k56.cell0 x1, k56.cell0 x2, trivial⟩, (c46 _ t).mono ?_⟩
  rintro v w7 ⟨rfl, k7⟩
  have k07 := k06.trans k7
  have y1 := k7.cell0 (k56.cell0 x1)
  refine ⟨_, rfl, k7.keeps0, ?_⟩
  rw [hft] at hall
  simp only [Bool.true_and] at hall
  cases hrt : rightT t with
  | false =>
    rw [hrt] at hall
    simp only [cond_false]
    exact wr64 (by omega) ⟨⟨by omega, by rw [hi1, hall], fun h => (by cases h), by omega, k07⟩, by first | omega | (dsimp only; omega)⟩
  | true =>
    rw [hrt] at hall
    obtain ⟨g1, g2, g3⟩ := rightT_len hrt
    have hsum : sumT (l.take (i.toNat + 1)) = s + max 1 t.2.1 := by rw [htk, sumT_app, hs hft]
    simp only [cond_true]
    refine ⟨by omega, _, y1, bif_eq (fun h0 => wr64 (by omega) ⟨by omega, _, y1, wr64 (by omega) (wr64 (by omega) ⟨⟨by omega, by rw [hi1, hall], fun _ => by rw [hi1, hsum]; omega, by omega, k07⟩, by first | omega | (dsimp only; omega)⟩)⟩)
      (fun h0 => ⟨by omega, _, y1, wr64 (by omega) (wr64 (by omega) ⟨⟨by omega, by rw [hi1, hall], fun _ => by rw [hi1, hsum]; omega, by omega, k07⟩, by first | omega | (dsimp only; omega)⟩)⟩)⟩
/-- A row of tokens, opened. -/
theorem open_toks {ks : List IntKind} (hks : ks = [.u8, .i64, .i64]) (h : ∀ i j k, i < n → ks[j]? = some k → ∃ a x, q = some a ∧ w.cell? (a.add (i * ks.length + j)) = some (.int k x) ∧ (Lit.int k x).wf = true) :
    ∃ l : List Tok, l.length = n ∧ Toks w q l ∧ ∀ t ∈ l, 0 ≤ t.1 ∧ t.1 < 256 := by
  subst hks
  let rd (a : Addr) (o : Nat) : Int := match w.cell? (a.add o) with | some (.int _ x) => x | _ => 0
  have one : ∀ i, i < n → ∃ t : Tok, (∃ a, q = some a ∧ w.cell? (a.add (i * 3)) = some (.int .u8 t.1) ∧ w.cell? (a.add (i * 3 + 1)) = some (.int .i64 t.2.1) ∧ w.cell? (a.add (i * 3 + 2)) = some (.int .i64 t.2.2)) ∧ 0 ≤ t.1 ∧ t.1 < 256 ∧
      (t = q.elim (0, 0, 0) fun a => (rd a (i * 3), rd a (i * 3 + 1), rd a (i * 3 + 2))) := by
    intro i hi
    obtain ⟨a, x, e, h0, w0⟩ := h i 0 _ hi rfl
    obtain ⟨a1, y, e1, h1, _⟩ := h i 1 _ hi rfl
    obtain ⟨a2, z, e2, h2, _⟩ := h i 2 _ hi rfl
    rw [e] at e1 e2
    cases e1; cases e2
    subst e
    have h0' : w.cell? (a.add (i * 3)) = some (.int .u8 x) := h0
    have h1' : w.cell? (a.add (i * 3 + 1)) = some (.int .i64 y) := h1
    have h2' : w.cell? (a.add (i * 3 + 2)) = some (.int .i64 z) := h2
    have hw := wf_u8 w0
    refine ⟨(x, y, z), ⟨a, rfl, h0', h1', h2'⟩, hw.1, hw.2, ?_⟩
    simp only [Option.elim, rd, h0', h1', h2']
  refine ⟨(List.range n).map fun i => q.elim (0, 0, 0) fun a => (rd a (i * 3), rd a (i * 3 + 1), rd a (i * 3 + 2)), by simp, fun i t ht => ?_, fun t ht => ?_⟩
  · rw [List.getElem?_map] at ht
    have hi : i < n := by
      rcases Nat.lt_or_ge i n with h' | h'
      · exact h'
      · rw [List.getElem?_eq_none (by simpa using h')] at ht; cases ht
    rw [List.getElem?_range hi] at ht
    obtain ⟨t', h1, _, _, h2⟩ := one i hi
    have : t' = t := h2.trans (by simpa using ht)
    subst this
    exact h1
  · obtain ⟨i, hi, rfl⟩ := List.mem_map.1 ht
    obtain ⟨t', _, h1, h2, h3⟩ := one i (List.mem_range.1 hi)
    rw [← h3]
    exact ⟨h1, h2⟩
end
end Go.Proofs.Ytodgnegbaigdbaa
