/- Names: what is made safe; what is lost. -/
import Derived.Test.YtlgkcbdpaffigaaCh
namespace Go.Proofs.Ytlgkcbdpaffigaa
open Go Go.SX Go.Proofs
set_option maxRecDepth 100000
set_option linter.unusedVariables false
set_option linter.unusedSimpArgs false
/-- A map's copy. -/
theorem c82 {w : World} {m : Option Nat} {l : List Ent} (hm : MapO w m l) : Rets Try.prog 82 #[.map m] w fun v w' => ∃ m', v = .map m' ∧ MapO w' m' l ∧ (∀ r, m' = some r → w.heap.size ≤ r) ∧ Kp none_ w w' := by
  cases m with
  | none =>
    have : l = [] := hm
    subst this
    refine Calls.mono (Try.maps_Clone_nil w) ?_
    rintro e w' ⟨rfl, e2⟩
    obtain rfl := e2.symm
    exact ⟨_, rfl, none, rfl, rfl, (fun r e => by cases e), Kp.refl _ _⟩
  | some r =>
    obtain ⟨es, clock, hb, hs, hk, hg⟩ := hm
    refine Calls.mono (Try.maps_Clone r es clock w hb) ?_
    rintro e w' ⟨rfl, rfl⟩
    exact ⟨_, rfl, some w.heap.size, rfl, ⟨es, clock, by rw [alloc_get, if_pos rfl], hs, hk, hg⟩, fun r e => by cases e; exact Nat.le_refl _, (Kp.refl none_ _).alloc1 _⟩
/-- The program's directory, in the midst of a call: N what its map has. -/
def DRg (w : World) (O : Nat → Prop) (b o : Nat) (N S : List Ent) (ws : List Chg) : Prop :=
  ∃ (m0 m1 : Option Nat) (vw : Value) (own : Nat → Prop), Cs w b o [.map m0, .map m1, vw] ∧ O b ∧ MapO w m0 N ∧ MapO w m1 S ∧ (∀ r, m0 = some r → O r ∧ m1 ≠ some r) ∧ (∀ r, m1 = some r → O r) ∧ (∀ i, own i → O i ∧ i ≠ b ∧ m0 ≠ some i ∧ m1 ≠ some i) ∧ OwnRow w own 135 3 vw ws.length (flatC chC ws)
theorem DR.g {w : World} {O : Nat → Prop} {b o : Nat} {S : List Ent} {ws : List Chg} : DR w O b o S ws ↔ DRg w O b o (lastE S ws) S ws := Iff.rfl
theorem DRg.kp {S' O O' : Nat → Prop} {w w' : World} {b o : Nat} {N S : List Ent} {ws : List Chg} (h : DRg w O b o N S ws) (k : Kp S' w w') (hs : ∀ i, i < w.heap.size → O i → ¬ S' i ∧ O' i) : DRg w' O' b o N S ws := by
  obtain ⟨m0, m1, vw, own, h1, h2, h3, h4, h5, h6, h8, h9⟩ := h
  have hb := h1.lt (by simp)
  exact ⟨m0, m1, vw, fun i => own i ∧ i < w.heap.size, h1.kp k (hs b hb h2).1, (hs b hb h2).2, h3.kp k fun r e => (hs r (mapO_lt h3 r e) (h5 r e).1).1, h4.kp k fun r e => (hs r (mapO_lt h4 r e) (h6 r e)).1,
    fun r e => ⟨(hs r (mapO_lt h3 r e) (h5 r e).1).2, (h5 r e).2⟩, fun r e => (hs r (mapO_lt h4 r e) (h6 r e)).2, fun i hi => ⟨(hs i hi.2 (h8 i hi.1).1).2, (h8 i hi.1).2⟩, (h9.mono (own' := fun i => own i ∧ i < w.heap.size) fun i hi hl => ⟨hi, hl⟩).kp k fun g n cap _ hg => (hs g hg.2 (h8 g hg.1).1).1⟩
theorem DRg.mono {O O' : Nat → Prop} {w : World} {b o : Nat} {N S : List Ent} {ws : List Chg} (h : DRg w O b o N S ws) (hs : ∀ i, i < w.heap.size → O i → O' i) : DRg w O' b o N S ws := h.kp (Kp.refl none_ w) fun i hl hi => ⟨id, hs i hl hi⟩
theorem DRg.kp0 {O : Nat → Prop} {w w' : World} {b o : Nat} {N S : List Ent} {ws : List Chg} (h : DRg w O b o N S ws) (k : Kp none_ w w') : DRg w' O b o N S ws := h.kp k fun i _ hi => ⟨id, hi⟩
theorem c38g {w : World} {O : Nat → Prop} {b o : Nat} {N S : List Ent} {ws : List Chg} (h : DRg w O b o N S ws) : Rets Try.prog 38 #[ptA b o] w fun v w' => v = .tuple #[] ∧ DR w' (fun i => O i ∨ w.heap.size ≤ i) b o N [] ∧ Kp O w w' ∧ Nb b o 3 w w' := by
  refine ent [_] Try.func38 ((vcTry38 _ w _).mpr ?_)
  unfold VCTry38
  refine bif_not (fun _ => ?_) (fun hh => by cases hh)
  obtain ⟨m0, m1, vw, own, h1, h2, h3, h4, h5, h6, h8, h9⟩ := h
  have hb := h1.lt (by simp)
  simp only [ptr_some, ad3, Nat.add_zero]
  refine ⟨_, h1.get 0 rfl, (c82 h3).mono ?_⟩
  rintro v w1 ⟨m', rfl, hm', hf, k1⟩
  have c1 := h1.kp0 k1
  have z1 := k1.size
  obtain ⟨g1, g2⟩ := c1.slot 1 (by simp)
  have c2 := c1.set 1 (.map m')
  obtain ⟨g3, g4⟩ := c2.slot 2 (by simp)
  have c3 := c2.set 2 (.slice none 0 0)
  have kk : Kp (one_ b) w1 ((w1.setCell ⟨b, o + 1, none⟩ (.map m')).setCell ⟨b, o + 2, none⟩ (.slice none 0 0)) := (kp_set _ _ _ _).trans (kp_set _ _ _ _)
  refine ⟨_, rfl, k1.keeps0, g1, g2, g3, g4, _, rfl, rfl, ⟨m0, m', _, fun _ => False, by simpa using c3, .inl h2, ?_, ?_, fun r e => ⟨.inl (h5 r e).1, fun e' => ?_⟩, fun r e => .inr (hf r e), fun i hi => hi.elim, OwnRow.nil _ _ _ _⟩, ?_, ?_⟩
  · exact (h3.kp k1 fun _ _ => id).kp kk fun r e => mapO_ne h3 (h1.get 0 rfl) r e
  · exact hm'.kp kk fun r e => by have := hf r e; show ¬ r = b; omega
  · have := hf r e'
    have := mapO_lt h3 r e
    omega
  · exact k1.wide.trans (kk.mono fun i _ hi => by have hi : i = b := hi; rw [hi]; exact h2)
  · exact (Nb.of_kp k1 hb id).trans ((Nb.set _ (i := 1) (by omega) _).trans (Nb.set _ (i := 2) (by omega) _))
theorem c38 {w : World} {O : Nat → Prop} {b o : Nat} {S : List Ent} {ws : List Chg} (h : DR w O b o S ws) : Rets Try.prog 38 #[ptA b o] w fun v w' => v = .tuple #[] ∧ DR w' (fun i => O i ∨ w.heap.size ≤ i) b o (lastE S ws) [] ∧ Kp O w w' ∧ Nb b o 3 w w' := c38g (DR.g.1 h)
theorem look_snoc {done : List Ent} {e : Ent} (h : NK (done ++ [e])) (t : List UInt8) : lookE (done ++ [e]) t = if t = e.1 then some e.2 else lookE done t := by
  have hd : NK done := by
    unfold NK at h ⊢
    rw [List.map_append] at h
    exact (List.nodup_append.1 h).1
  by_cases ht : t = e.1
  · rw [if_pos ht, ht]
    exact (lookE_nk h).2 (by simp)
  · rw [if_neg ht]
    cases hl : lookE done t with
    | some j => exact (lookE_nk h).2 (List.mem_append_left _ ((lookE_nk hd).1 hl))
    | none =>
      cases hl' : lookE (done ++ [e]) t with
      | none => rfl
      | some j =>
        rcases List.mem_append.1 ((lookE_nk h).1 hl') with hh | hh
        · rw [(lookE_nk hd).2 hh] at hl; cases hl
        · rw [List.mem_singleton] at hh
          rw [← hh] at ht
          exact absurd rfl ht
/-- A map is copied into one that is empty. -/
theorem c85 {w : World} {r : Nat} {m : Option Nat} {l : List Ent} (hr : MapE w r []) (hm : MapO w m l) (hn : NK l) (hne : m ≠ some r) : Rets Try.prog 85 #[.map (some r), .map m] w fun v w' => v = .tuple #[] ∧ MapE w' r l ∧ Kp (one_ r) w w' := by
  refine ent [_, _] Try.func85 ((vcTry85 _ _ w _).mpr ?_)
  unfold VCTry85
  refine range_map hm hn und76 fun w1 i1 k1 z1 => ⟨_, rfl, k1.keeps0, ?_⟩
  have hrl := hr.lt
  have hmq : ∀ x, m = some x → x ≠ w.heap.size := fun x e => by have := mapO_lt hm x e; omega
  refine ⟨fun w' => ∃ done left : List Ent, (done ++ left).Perm l ∧ IterE w' w.heap.size m left ∧ MapE w' r done ∧ Kp (one_ r) w w' ∧ w.heap.size < w'.heap.size, fun w' => leftN w' w.heap.size, ⟨[], l, List.Perm.refl _, i1, hr.kp k1 id, k1.wide, by omega⟩, ?_⟩
  rintro w2 ⟨done, left, hp, i2, r2, k2, z2⟩
  have hl2 := i2.left
  refine next_map i2 hmq 0 (fun e => ?_) fun e L' w3 hL i3 k3 => ?_
  · subst e
    have hp : done.Perm l := by simpa using hp
    have hnd : NK done := (hp.symm.map Prod.fst).nodup_iff.1 hn
    exact .inl ⟨rfl, (Kp.refl none_ _).keeps0, _, rfl, rfl, r2.perm hnd hp, k2⟩
  · refine .inr ⟨_, _, rfl, k3.keeps0, entry_map i3 ⟨_, _, rfl, (Kp.refl none_ _).keeps0, ?_⟩⟩
    have hp' : (done ++ e :: L').Perm l := (List.Perm.append_left done hL).symm.trans hp
    have hnk : NK (done ++ [e]) := by
      have h1 : NK (done ++ e :: L') := (hp'.symm.map Prod.fst).nodup_iff.1 hn
      unfold NK at h1 ⊢
      rw [show done ++ e :: L' = (done ++ [e]) ++ L' by simp, List.map_append] at h1
      exact (List.nodup_append.1 h1).1
    have z3 := k3.size
    have r3 := r2.kp k3 (by show ¬ r = w.heap.size; omega)
    refine r3.put und76 u9s (ba e.1) e.2 (l' := done ++ [e]) (by rw [strL_ba, look_snoc hnk, if_pos rfl]) (fun t hne => by rw [strL_ba] at hne; rw [look_snoc hnk, if_neg hne]) fun w4 r4 k4 => ⟨k4.keeps0, ?_⟩
    have z4 := k4.size
    have i4 := i3.on.kp k4 (by show ¬ w.heap.size = r; omega) fun x e hx => hne (by rw [e]; congr 1)
    refine ⟨⟨done ++ [e], L', by simpa using hp', i4, r4, ?_, by omega⟩, ?_⟩
    · exact (k2.then k3 fun i hi hh => by have hh : i = w.heap.size := hh; omega).trans k4
    · show leftN w4 w.heap.size < leftN w2 w.heap.size
      rw [i4.left, hl2, hL.length_eq]
      simp
end Go.Proofs.Ytlgkcbdpaffigaa
