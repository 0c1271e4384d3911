/- Files by names: a file is made. -/
import Derived.Test.YtlgkcbdpaffigaaDc
namespace Go.Proofs.Ytlgkcbdpaffigaa
open Go Go.SX Go.Proofs
set_option maxRecDepth 100000
set_option linter.unusedVariables false
set_option linter.unusedSimpArgs false
def newE (rl : List Int) (k : Int) (Ds : List Nat) (N : List Ent) (a : List UInt8) : Int := if refE rl k ≠ 0 then 10 else if 1000 ≤ Ds.length then 14 else createE N a
theorem und120 : Try.prog.underlying 120 = some (.slice 36) := Try.underlying120
/-- The directory has gone on. -/
theorem FSM.turn {w w' : World} {O Od own : Nat → Prop} {b : Nat} {Ds : List Nat} {S S' : List Ent} {ws ws' : List Chg} {cap k r : Int} {rl : List Int} {dv : Value} {rq : Option Addr} {rc : Nat}
    (h1 : Cs w b 0 [dv]) (h2 : DR w Od b 1 S ws) (h3 : Cs w b 4 [.int .i64 cap, .int .i64 k, .int .i64 r, .slice rq rl.length rc]) (h4 : OwnRow w own 36 1 dv Ds.length (flatC ptC Ds)) (h5 : RowsAt w 1 intC rq rl) (h6 : 0 < rl.length → ∀ a, rq = some a → O a.block ∧ a.block ≠ b ∧ ¬ Od a.block ∧ ¬ own a.block) (h7 : ∀ i, own i → O i ∧ ¬ Od i) (h8 : ∀ i, Od i → O i)
    (d : DR w' (fun i => Od i ∨ w.heap.size ≤ i) b 1 S' ws') (kk : Kp Od w w') (nb : Nb b 1 3 w w') :
    Cs w' b 0 [dv] ∧ DR w' (fun i => (Od i ∨ w.heap.size ≤ i) ∧ i < w'.heap.size) b 1 S' ws' ∧ Cs w' b 4 [.int .i64 cap, .int .i64 k, .int .i64 r, .slice rq rl.length rc] ∧ OwnRow w' (fun i => own i ∧ i < w.heap.size) 36 1 dv Ds.length (flatC ptC Ds) ∧ RowsAt w' 1 intC rq rl ∧ (0 < rl.length → ∀ a, rq = some a → a.block < w.heap.size) := by
  refine ⟨h1.nb kk nb (.inl (by simp)), d.mono fun i hl hi => ⟨hi, hl⟩, h3.nb kk nb (.inr (by omega)), ?_, h5.kp kk fun h0 a e => (h6 h0 a e).2.2.1, fun h0 a e => h5.lt intC_len (by omega) h0 a e⟩
  exact (h4.mono (own' := fun i => own i ∧ i < w.heap.size) fun i hi hl => ⟨hi, hl⟩).kp kk fun g n cap _ hg => (h7 g hg.1).2
theorem c28 {w : World} {O : Nat → Prop} {b : Nat} {Ds : List Nat} {S : List Ent} {ws : List Chg} {cap k r : Int} {rl : List Int} (h : FSM w O b Ds S ws cap k r rl) (hO : ∀ i, O i → i < w.heap.size) (hk : 0 ≤ k ∧ k ≤ 1000000) (hr : 0 ≤ r ∧ r ≤ 1000000) (hl : rl.length ≤ 1000000) (ha : Asc Prod.fst (lastE S ws)) (hws : ws.length ≤ 1000000) (a : List UInt8) : Rets Try.prog 28 #[ptA b 0, .string (ba a)] w fun v w' =>
    v = .tuple #[.int .i64 (if newE rl k Ds (lastE S ws) a = 0 then Ds.length else 0), .int .i64 (newE rl k Ds (lastE S ws) a)] ∧ Kp O w w' ∧
    (newE rl k Ds (lastE S ws) a = 0 → ∃ d, w.heap.size ≤ d ∧ d < w'.heap.size ∧ FSM w' (fun i => O i ∨ (w.heap.size ≤ i ∧ i ≠ d)) b (Ds ++ [d]) S (ws ++ [⟨[], a, Ds.length⟩]) cap (k + 1) (refN rl k r) rl ∧ Big w' d 29 [.slice none 0 0, .slice none 0 0, .slice none 0 0]) ∧
    (newE rl k Ds (lastE S ws) a ≠ 0 → FSM w' (fun i => O i ∨ w.heap.size ≤ i) b Ds S ws cap (k + 1) (refN rl k r) rl) := by
  refine ent [_, _] Try.func28 ((vcTry28 _ _ w _).mpr ?_)
  unfold VCTry28
  have lb := h.lt
  refine (c76 h hk hr hl).mono ?_
  rintro v w1 ⟨rfl, h', k1⟩
  have z1 := k1.size
  have K1 : Kp O w w1 := k1.mono fun i _ hi => by have hi : i = b := hi; rw [hi]; exact lb.2
  simp only [ptr_some, ad3, Nat.zero_add, Nat.add_zero]
  refine ⟨_, rfl, k1.keeps0, bif_ne (fun hE => ?_) (fun hE => ?_)⟩
  · have eE : newE rl k Ds (lastE S ws) a = 10 := by unfold newE; rw [if_pos hE]
    rw [eE]
    have e10 : refE rl k = 10 := by
      unfold refE at hE ⊢
      split
      · rfl
      · rename_i hh; rw [if_neg hh] at hE; exact absurd rfl hE
    rw [e10]
    exact ⟨_, rfl, rfl, K1, (fun hh => by cases hh), fun _ => h'.kp (Kp.refl none_ _) fun i _ hi => ⟨id, .inl hi⟩⟩
  · obtain ⟨q, c, e0, r0⟩ := h'.disks
    refine ⟨_, _, _, e0, bif_dec (fun hn => ?_) (fun hn => ?_)⟩
    · have eE : newE rl k Ds (lastE S ws) a = 14 := by unfold newE; rw [if_neg (fun hh => hh hE), if_pos (by omega)]
      rw [eE]
      exact ⟨_, rfl, rfl, K1, (fun hh => by cases hh), fun _ => h'.kp (Kp.refl none_ _) fun i _ hi => ⟨id, .inl hi⟩⟩
    · have eE : newE rl k Ds (lastE S ws) a = createE (lastE S ws) a := by unfold newE; rw [if_neg (fun hh => hh hE), if_neg (by omega)]
      rw [eE]
      obtain ⟨dv, own, Od, rq, rc, h1, h2, h3, h4, h5, h6, h7, h8⟩ := h'
      refine (c47 h2 hws ha a Ds.length).mono ?_
      rintro v w2 ⟨rfl, d2, k2, n2⟩
      have z2 := k2.size
      have K2 : Kp O w w2 := K1.trans (k2.mono fun i _ hi => h8 i hi)
      obtain ⟨g1, g2, g3, g4, g5, g6⟩ := FSM.turn h1 h2 h3 h4 h5 h6 h7 h8 d2 k2 n2
      refine ⟨_, rfl, k2.keeps0, bif_ne (fun hC => ?_) (fun hC => ?_)⟩
      · rw [if_neg hC] at g2
        rw [if_neg hC]
        refine ⟨_, rfl, rfl, K2, fun hh => absurd hh hC, fun _ => ⟨dv, _, _, rq, rc, g1, g2, g3, g4, g5, fun h0 a e => ⟨.inl (h6 h0 a e).1, (h6 h0 a e).2.1, fun hh => ?_, fun hh => (h6 h0 a e).2.2.2 hh.1⟩, fun i hi => ⟨.inl (h7 i hi.1).1, fun hh => ?_⟩, fun i hi => ?_⟩⟩
        · rcases hh.1 with hh | hh
          · exact (h6 h0 a e).2.2.1 hh
          · have := g6 h0 a e; omega
        · rcases hh.1 with hh | hh
          · exact (h7 i hi.1).2 hh
          · have := hi.2; omega
        · rcases hi.1 with hh | hh
          · exact .inl (h8 i hh)
          · exact .inr (by omega)
      · rw [if_pos hC] at g2
        rw [hC, if_pos rfl]
        obtain ⟨qd, cd, rfl⟩ := g4.slice
        have k3 : Kp none_ w2 (w2.alloc (.cells #[.slice none 0 0, .slice none 0 0, .slice none 0 0] 29)) := (Kp.refl none_ _).alloc1 _
        have z3 : (w2.alloc (.cells #[.slice none 0 0, .slice none 0 0, .slice none 0 0] 29)).heap.size = w2.heap.size + 1 := alloc_size _ _
        have B3 : Big (w2.alloc (.cells #[.slice none 0 0, .slice none 0 0, .slice none 0 0] 29)) w2.heap.size 29 [.slice none 0 0, .slice none 0 0, .slice none 0 0] := Big.new _ _ 29
        refine ⟨_, _, _, g1.get 0 rfl, ?_⟩
        generalize w2.alloc (.cells #[.slice none 0 0, .slice none 0 0, .slice none 0 0] 29) = w3 at *
        have g4' : OwnRow w3 (fun i => own i ∧ i < w1.heap.size) 36 1 (.slice qd Ds.length cd) Ds.length (flatC ptC Ds) := g4.kp k3 fun _ _ _ _ _ => id
        refine push_row (l := Ds) w2.heap.size (cs := #[.pointer (some ⟨w2.heap.size, 0, none⟩)]) ptC_len ptC_one (by omega) und120 elem36 rfl g4' rfl (by omega) fun q' c' w4 ro k4 ka => ?_
        have z4 := k4.size
        have nO : ∀ i, own i ∧ i < w1.heap.size → ¬ ((Od i ∨ w1.heap.size ≤ i) ∧ i < w2.heap.size) := fun i hi hh => by
          rcases hh.1 with hh | hh
          · exact (h7 i hi.1).2 hh
          · omega
        have nb_ : ¬ (own b ∧ b < w1.heap.size) := fun hh => (h7 b hh.1).2 h2.lt.2
        have nd : ¬ (own w2.heap.size ∧ w2.heap.size < w1.heap.size) := fun hh => by omega
        have g1' := (g1.kp0 k3).kp k4 nb_
        obtain ⟨s1, s2⟩ := g1'.slot 0 (by simp)
        have bd : b ≠ w2.heap.size := by have := lb.1; omega
        refine ⟨_, _, _, rfl, ka.keeps fun i hi => ?_, s1, s2, .inl bd, fun _ => ?_⟩
        · rw [List.mem_singleton] at hi
          subst hi
          exact ⟨by rw [alloc_size]; omega, nd⟩
        have k5 : Kp (one_ b) w4 (w4.setCell ⟨b, 0, none⟩ (.slice q' (Ds.length + 1) c')) := kp_set _ _ _ _
        have n5 : Nb b 0 1 w4 (w4.setCell ⟨b, 0, none⟩ (.slice q' (Ds.length + 1) c')) := Nb.set w4 (b := b) (o := 0) (i := 0) (by omega) _
        have c5 : Cs (w4.setCell ⟨b, 0, none⟩ (.slice q' (Ds.length + 1) c')) b 0 [.slice q' (Ds.length + 1) c'] := g1'.set 0 _
        have z5 : (w4.setCell ⟨b, 0, none⟩ (.slice q' (Ds.length + 1) c')).heap.size = w4.heap.size := set_size _ _ _
        generalize w4.setCell ⟨b, 0, none⟩ (.slice q' (Ds.length + 1) c') = w5 at *
        have D5 : DR w5 (fun i => (Od i ∨ w1.heap.size ≤ i) ∧ i < w2.heap.size) b 1 S (ws ++ [⟨[], a, Ds.length⟩]) := ((g2.kp0 k3).kp k4 fun i _ hi => ⟨fun ho => nO i ho hi, hi⟩).nb k5 n5 (.inr (by omega))
        have C5 := ((g3.kp0 k3).kp k4 nb_).nb k5 n5 (.inr (by omega))
        have R5 : RowsAt w5 1 intC rq rl := ((g5.kp0 k3).kp k4 fun h0 a e hh => (h6 h0 a e).2.2.2 hh.1).kp k5 fun h0 a e hh => (h6 h0 a e).2.1 hh
        have ro5 : OwnRow w5 (fun i => (own i ∧ i < w1.heap.size) ∨ fresh w3 i) 36 1 (.slice q' (Ds.length + 1) c') (Ds ++ [w2.heap.size]).length (flatC ptC (Ds ++ [w2.heap.size])) := ro.kp k5 fun g n cap _ hg e => by
          have e : g = b := e
          rw [e] at hg
          rcases hg with hg | hg
          · exact nb_ hg
          · have hg : w3.heap.size ≤ b := hg
            have := lb.1
            omega
        refine ⟨_, rfl, rfl, ?_, fun _ => ⟨w2.heap.size, by omega, by omega, ⟨_, _, _, rq, rc, c5, D5, C5, ro5, R5, fun h0 a e => ⟨.inl (h6 h0 a e).1, (h6 h0 a e).2.1, fun hh => ?_, fun hh => ?_⟩, fun i hi => ?_, fun i hi => ?_⟩, (B3.kp k4 nd).kp k5 (fun e => bd e.symm)⟩, fun hh => absurd rfl hh⟩
        · exact (((K2.trans k3.wide).then k4 fun i hi hh => (h7 i hh.1).1).trans (k5.mono fun i _ hi => by have hi : i = b := hi; rw [hi]; exact lb.2))
        · rcases hh.1 with hh | hh
          · exact (h6 h0 a e).2.2.1 hh
          · have := g6 h0 a e; omega
        · rcases hh with hh | hh
          · exact (h6 h0 a e).2.2.2 hh.1
          · have := g6 h0 a e
            have hh : w3.heap.size ≤ a.block := hh
            omega
        · rcases hi with hi | hi
          · exact ⟨.inl (h7 i hi.1).1, nO i hi⟩
          · have hi : w3.heap.size ≤ i := hi
            exact ⟨.inr ⟨by omega, by omega⟩, fun hh => by have := hh.2; omega⟩
        · rcases hi.1 with hh | hh
          · exact .inl (h8 i hh)
          · exact .inr ⟨by omega, by have := hi.2; omega⟩
end Go.Proofs.Ytlgkcbdpaffigaa
