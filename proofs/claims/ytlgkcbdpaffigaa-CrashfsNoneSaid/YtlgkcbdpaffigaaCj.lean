/- Names: a crash. -/
import Derived.Test.YtlgkcbdpaffigaaCi
namespace Go.Proofs.Ytlgkcbdpaffigaa
open Go Go.SX Go.Proofs
set_option maxRecDepth 100000
set_option linter.unusedVariables false
set_option linter.unusedSimpArgs false
def s3 (w : World) (f t : ByteArray) (i : Int) : World := (((w.alloc (.cells #[.string { data := #[] }, .string { data := #[] }, .int .i64 0] 135)).setCell ⟨w.heap.size, 0, none⟩ (.string f)).setCell ⟨w.heap.size, 1, none⟩ (.string t)).setCell ⟨w.heap.size, 2, none⟩ (.int .i64 i)
theorem s3_def (w : World) (f t : ByteArray) (i : Int) : (((w.alloc (.cells #[.string { data := #[] }, .string { data := #[] }, .int .i64 0] 135)).setCell ⟨w.heap.size, 0, none⟩ (.string f)).setCell ⟨w.heap.size, 1, none⟩ (.string t)).setCell ⟨w.heap.size, 2, none⟩ (.int .i64 i) = s3 w f t i := rfl
theorem s3_kp (w : World) (f t : ByteArray) (i : Int) : Kp none_ w (s3 w f t i) ∧ w.heap.size < (s3 w f t i).heap.size := by
  constructor
  · have k0 : Kp none_ w (w.alloc (.cells #[.string { data := #[] }, .string { data := #[] }, .int .i64 0] 135)) := (Kp.refl none_ w).alloc1 _
    have st : ∀ {W : World} (i : Nat) (v : Value), Kp none_ w W → Kp none_ w (W.setCell ⟨w.heap.size, i, none⟩ v) := fun i v k => k.setCell (x := ⟨w.heap.size, i, none⟩) v (.inr (Nat.le_refl _))
    exact st 2 _ (st 1 _ (st 0 _ k0))
  · unfold s3
    simp only [set_size, alloc_size]
    omega
theorem last_take (S : List Ent) (ws : List Chg) {j : Nat} (h : j < ws.length) : lastE S (ws.take (j + 1)) = doL (lastE S (ws.take j)) ws[j] := by
  rw [List.take_succ_eq_append_getElem h, last_snoc]
theorem DRg.wait {O : Nat → Prop} {w : World} {b o : Nat} {N S : List Ent} {ws : List Chg} (h : DRg w O b o N S ws) : ∃ q c, w.cell? ⟨b, o + 2, none⟩ = some (.slice q ws.length c) ∧ RowsAt w 3 chC q ws := by
  obtain ⟨m0, m1, vw, own, h1, h2, _, _, _, _, _, h9⟩ := h
  obtain ⟨q, c, rfl⟩ := h9.slice
  exact ⟨q, c, h1.get 2 rfl, rows_of chC_len (by omega) h9⟩
theorem c40 {w : World} {O : Nat → Prop} {b o : Nat} {S : List Ent} {ws : List Chg} (h : DR w O b o S ws) (hO : ∀ i, O i → i < w.heap.size) (hS : WfE S) (hok : okCs S ws) (hws : ws.length ≤ 1000000) (n : Int) : Rets Try.prog 40 #[ptA b o, .int .i64 n] w fun v w' =>
    v = .tuple #[] ∧ DR w' (fun i => O i ∨ w.heap.size ≤ i) b o (lastE S (ws.take n.toNat)) [] ∧ Kp O w w' ∧ Nb b o 3 w w' := by
  refine ent [_, _] Try.func40 ((vcTry40 _ _ w _).mpr ?_)
  unfold VCTry40
  refine bif_b (fun hh => by cases hh) (fun _ => ?_)
  obtain ⟨m0, m1, vw, own, h1, h2, h3, h4, h5, h6, h8, h9⟩ := h
  have hb := h1.lt (by simp)
  simp only [ptr_some, ad3, Nat.add_zero, s3_def]
  have kn : Kp none_ w (w.alloc (.map #[] 0)) := (Kp.refl none_ _).alloc1 _
  have zn : (w.alloc (.map #[] 0)).heap.size = w.heap.size + 1 := alloc_size _ _
  have mn := MapE.new w
  generalize w.alloc (.map #[] 0) = wn at *
  have cn := h1.kp0 kn
  obtain ⟨g1, g2⟩ := cn.slot 0 (by simp)
  have c1 := cn.set 0 (.map (some w.heap.size))
  have ks : Kp (one_ b) wn (wn.setCell ⟨b, o, none⟩ (.map (some w.heap.size))) := kp_set _ _ _ _
  have nb1 : Nb b o 3 w (wn.setCell ⟨b, o, none⟩ (.map (some w.heap.size))) := (Nb.of_kp kn hb id).trans (Nb.set _ (i := 0) (by omega) _)
  have hsz := set_size wn ⟨b, o, none⟩ (.map (some w.heap.size))
  have c1' : Cs (wn.setCell ⟨b, o, none⟩ (.map (some w.heap.size))) b o [.map (some w.heap.size), .map m1, vw] := by simpa using c1
  have m1b := mapO_ne h4 (h1.get 0 rfl)
  have m1lt := mapO_lt h4
  refine ⟨g1, g2, ?_⟩
  generalize wn.setCell ⟨b, o, none⟩ (.map (some w.heap.size)) = w1 at *
  have kd : Kp none_ w1 w1.drew := Kp.drew1
  have cd := c1'.kp0 kd
  refine ⟨_, cd.get 0 rfl, _, cd.get 1 rfl, ?_⟩
  have M1 : MapO w1.drew m1 S := ((h4.kp kn fun _ _ => id).kp ks m1b).kp kd fun _ _ => id
  have R1 : MapE w1.drew w.heap.size [] := (mn.kp ks (by show ¬ w.heap.size = b; omega)).kp kd id
  refine (c85 R1 M1 (asc_nk hS.asc) (fun e => by have := m1lt _ e; omega)).mono ?_
  rintro v w2 ⟨rfl, r2, k2⟩
  have k2' := Kp.of_drew k2
  have z2 := k2'.size
  have c2 := c1'.kp k2' (by show ¬ b = w.heap.size; omega)
  have K2 : Kp O w w2 := (((kn.wide : Kp O w wn).trans (ks.mono fun i _ hi => by have hi : i = b := hi; rw [hi]; exact h2)).then k2' fun i hi hh => by have hh : i = w.heap.size := hh; omega)
  have nb2 : Nb b o 3 w w2 := nb1.trans (Nb.of_kp k2' (by omega) (by show ¬ b = w.heap.size; omega))
  have ownb : ∀ i, own i → i ≠ b := fun i hi => (h8 i hi).2.1
  have row2 : OwnRow w2 (fun i => own i ∧ i < w.heap.size) 135 3 vw ws.length (flatC chC ws) := (((h9.mono fun i hi hl => ⟨hi, hl⟩).kp kn fun _ _ _ _ _ => id).kp ks fun g n cap _ hg e => ownb g hg.1 e).kp k2' fun g n cap _ hg e => by have e : g = w.heap.size := e; omega
  have D2 : DRg w2 (fun i => O i ∨ w.heap.size ≤ i) b o S S ws := by
    refine ⟨some w.heap.size, m1, vw, fun i => own i ∧ i < w.heap.size, c2, .inl h2, r2, ?_, fun r e => ⟨.inr (by cases e; omega), fun e' => by cases e; have := m1lt _ e'; omega⟩, fun r e => .inl (h6 r e), fun i hi => ⟨.inl (h8 i hi.1).1, ownb i hi.1, fun e => by have := Option.some.inj e; omega, (h8 i hi.1).2.2.2⟩, row2⟩
    exact (((h4.kp kn fun _ _ => id).kp ks m1b).kp k2' fun r e hh => by have hh : r = w.heap.size := hh; have := m1lt r e; omega)
  obtain ⟨q, c, ew, rw_⟩ := D2.wait
  refine ⟨rfl, k2.keeps0, _, _, _, ew, ?_⟩
  have fin : ∀ {w5 w6 : World} {j : Nat}, DR w6 (fun i => ((O i ∨ w.heap.size ≤ i) ∧ i < w5.heap.size) ∨ w5.heap.size ≤ i) b o (lastE S (ws.take j)) [] → lastE S (ws.take j) = lastE S (ws.take n.toNat) → Kp O w w5 → Nb b o 3 w w5 → Kp (fun i => (O i ∨ w.heap.size ≤ i) ∧ i < w5.heap.size) w5 w6 → Nb b o 3 w5 w6 →
      ∃ v, Ending.returned (.tuple #[]) = Ending.returned v ∧ v = .tuple #[] ∧ DR w6 (fun i => O i ∨ w.heap.size ≤ i) b o (lastE S (ws.take n.toNat)) [] ∧ Kp O w w6 ∧ Nb b o 3 w w6 := fun {w5 w6 j} d e k5 n5 k6 n6 => ⟨_, rfl, rfl, by
    have := k5.size
    rw [← e]
    exact d.mono fun i _ hi => hi.elim (fun h => h.1) fun h => .inr (by omega), k5.then k6 fun i hi hh => hh.1.elim id fun h => by omega, n5.trans n6⟩
  refine ⟨fun i w' => ∃ j : Nat, i = j ∧ j ≤ ws.length ∧ j ≤ n.toNat ∧ DRg w' (fun i => O i ∨ w.heap.size ≤ i) b o (lastE S (ws.take j)) S ws ∧ w'.cell? ⟨b, o, none⟩ = some (.map (some w.heap.size)) ∧ RowsAt w' 3 chC q ws ∧ Kp O w w' ∧ Nb b o 3 w w' ∧ w.heap.size < w'.heap.size, fun i _ => (ws.length - i).toNat, ⟨0, rfl, by omega, by omega, D2, by simpa using c2.get 0 rfl, rw_, K2, nb2, by omega⟩, ?_⟩
  rintro i w3 ⟨j, rfl, hj, hjn, D3, C3, R3, K3, nb3, z3⟩
  have cutD : ∀ {w5 : World}, DRg w5 (fun i => O i ∨ w.heap.size ≤ i) b o (lastE S (ws.take j)) S ws → DRg w5 (fun i => (O i ∨ w.heap.size ≤ i) ∧ i < w5.heap.size) b o (lastE S (ws.take j)) S ws := fun d => d.mono fun i hl hi => ⟨hi, hl⟩
  refine bif_dec (fun hlt => ?_) (fun hge => ?_)
  · have hjl : j < ws.length := by omega
    refine ⟨⟨by omega, by omega⟩, R3.get hjl fun x hx hc => ⟨_, _, _, ⟨hc 0 _ rfl, hc 1 _ rfl, hc 2 _ rfl, trivial⟩, ?_⟩⟩
    obtain ⟨k4, z4⟩ := s3_kp w3 (ba ws[j].fr) (ba ws[j].tr) ws[j].id
    simp only [s3_def]
    have D3c := (cutD D3).kp0 k4
    generalize s3 w3 (ba ws[j].fr) (ba ws[j].tr) ws[j].id = w4 at *
    have keep : ∀ {w5 w6 : World}, w3.heap.size < w5.heap.size → Kp (fun i => (O i ∨ w.heap.size ≤ i) ∧ i < w3.heap.size) w5 w6 → Keeps w5 w6 [w3.heap.size] := fun hz k => k.keeps fun i hi => by
      rw [List.mem_singleton] at hi
      subst hi
      exact ⟨hz, fun hh => by omega⟩
    refine bif_dec (fun hbr => ?_) (fun hgo => ?_)
    · intro _
      refine (c38g D3c).mono ?_
      rintro v w5 ⟨rfl, d5, k5, n5⟩
      refine ⟨rfl, keep z4 k5, fun _ => fin (w5 := w4) (j := j) (d5.mono fun i _ hi => ?_) (by rw [show j = n.toNat by omega]) (K3.trans k4.wide) (nb3.trans (Nb.of_kp k4 (by omega) id)) (k5.mono fun i _ hi => ⟨hi.1, by omega⟩) n5⟩
      rcases hi with hi | hi
      · exact .inl ⟨hi.1, by omega⟩
      · exact .inr hi
    · -- one more change
      obtain ⟨n0, n1, vx, own', x1, x2, x3, x4, x5, x6, x8, x9⟩ := D3c.kp0 (Kp.drew1 (S := none_))
      refine ⟨_, x1.get 0 rfl, fun _ => ?_⟩
      have hwf := wf_last hS (okCs_take hok j)
      have hokj : okC (lastE S (ws.take j)) ws[j] := by
        have := okCs_take hok (j + 1)
        rw [List.take_succ_eq_append_getElem hjl] at this
        exact (okCs_snoc.1 this).2
      have C4 : w4.drew.cell? ⟨b, o, none⟩ = some (.map (some w.heap.size)) := k4.cell0 C3
      have hn0 : n0 = some w.heap.size := by
        have h' := x1.get 0 rfl
        rw [Nat.add_zero] at h'
        rw [C4] at h'
        cases h'
        rfl
      subst hn0
      have e4 : Rets Try.prog 86 #[.map (some w.heap.size), chV ws[j]] w4.drew _ := c86 x3 hwf.asc ws[j]
      refine e4.mono ?_
      rintro v w5 ⟨rfl, r5, k5⟩
      have hrb : w.heap.size ≠ b := by omega
      have z5 := k5.size
      have z5' : w4.heap.size ≤ w5.heap.size := z5
      have R4 : RowsAt w4.drew 3 chC q ws := R3.kp0 k4.drew
      have xb : b ≠ w.heap.size := by omega
      refine ⟨rfl, k5.keeps fun i hi => ?_, wr64 (by omega) ⟨⟨j + 1, by omega, by omega, by omega, ?_, ?_, ?_, ?_, ?_, by omega⟩, by first | omega | (dsimp only; omega)⟩⟩
      · rw [List.mem_singleton] at hi
        subst hi
        exact ⟨z4, fun e => by have e : w3.heap.size = w.heap.size := e; omega⟩
      · have : DRg w5 (fun i => (O i ∨ w.heap.size ≤ i) ∧ i < w3.heap.size) b o (doL (lastE S (ws.take j)) ws[j]) S ws := ⟨some w.heap.size, n1, vx, own', x1.kp k5 (fun e => xb e), x2, r5, x4.kp k5 fun r e hh => (x5 _ rfl).2 (by rw [e]; congr 1), x5, x6, x8, x9.kp k5 fun g n cap _ hg e => (x8 g hg).2.2.1 (by congr 1; exact e.symm)⟩
        rw [last_take S ws hjl]
        exact this.mono fun i _ hi => hi.1
      · exact (k5.cell (by simpa using C4) (fun e => xb e))
      · refine R4.kp k5 fun h0 a ea e => ?_
        obtain ⟨a', ea', hc'⟩ := R4 0 h0
        rw [ea] at ea'
        cases ea'
        have := ne_cell x3 (hc' 0 _ rfl)
        rw [add_block, add_block] at this
        exact this e.symm
      · exact (K3.trans k4.wide).then ((Kp.drew1 (S := one_ w.heap.size)).trans k5) fun i hi hh => by have hh : i = w.heap.size := hh; omega
      · exact (nb3.trans (Nb.of_kp k4 (by omega) id)).trans (Nb.of_kp ((Kp.drew1 (S := one_ w.heap.size)).trans k5) (by omega) (fun e => xb e))
  · have ej : j = ws.length := by omega
    refine (c38g (cutD D3)).mono ?_
    rintro v w5 ⟨rfl, d5, k5, n5⟩
    refine ⟨rfl, k5.keeps0, fin (w5 := w3) (j := j) d5 ?_ K3 nb3 k5 n5⟩
    rw [List.take_of_length_le (by omega), List.take_of_length_le (by omega)]
end Go.Proofs.Ytlgkcbdpaffigaa
