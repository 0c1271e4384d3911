/- Files by names: the program's, its calls. -/
import Derived.Test.YtlgkcbdpaffigaaDa
import Derived.Test.YtlgkcbdpaffigaaCj
namespace Go.Proofs.Ytlgkcbdpaffigaa
open Go Go.SX Go.Proofs
set_option maxRecDepth 100000
set_option linter.unusedVariables false
set_option linter.unusedSimpArgs false
theorem kp_of_below {w w' : World} (h : Go.RowKit.Below w.heap.size w w') : Kp none_ w w' := by
  obtain ⟨a, b, c, d, e⟩ := h
  exact ⟨a, b, c, fun x hx => by unfold World.frozen?; rw [e _ hx], d, fun i hi _ => e i hi⟩
theorem elem3x : elemOk Try.prog 3 1 = true := by kernel_rfl
noncomputable def i3 : TypeInfo := (Try.prog.info? 3).get (by kernel_rfl)
theorem flat_int (l : List Int) : flatC intC l = l.map (.int .i64) := by
  induction l with
  | nil => rfl
  | cons x r ih =>
    have : flatC intC (x :: r) = .int .i64 x :: flatC intC r := rfl
    rw [this, ih]
    rfl
/-- A list of numbers, copied. -/
theorem clone_int {w : World} {q : Option Addr} {c : Nat} {l : List Int} (h : RowsAt w 1 intC q l) (hl : l.length ≤ 1000000) (h0 : (q = none ∧ l = []) ∨ ∃ b off, q = some ⟨b, off, none⟩) : Rets Try.prog 75 #[.slice q l.length c] w fun v w' => ∃ (q' : Option Addr) (c' : Nat), v = .slice q' l.length c' ∧ RowsAt w' 1 intC q' l ∧ (∀ a, q' = some a → w.heap.size ≤ a.block) ∧ Kp none_ w w' := by
  rcases h0 with ⟨rfl, rfl⟩ | ⟨b, off, rfl⟩
  · refine Calls.mono (Try.slices_Clone_nil 0 c w) ?_
    rintro e w' ⟨rfl, e2⟩
    obtain rfl := e2.symm
    exact ⟨_, rfl, none, 0, rfl, fun i hi => by simp at hi, (fun a e => by cases e), Kp.refl _ _⟩
  · have hc := Try.slices_Clone i3 (.int .i64 0) 1 8 (Option.some_get _).symm (by kernel_rfl) (by kernel_rfl) (by kernel_rfl) rfl (by omega) (fun w => by kernel_rfl) b off l.length c (l.map (.int .i64)) w (by simp) (by unfold maxLen; omega) (by omega) (fun j u hj => by
      rw [List.getElem?_map] at hj
      have hjl : j < l.length := by
        cases hh : l[j]? with
        | none => rw [hh] at hj; cases hj
        | some x => exact (List.getElem?_eq_some_iff.1 hh).1
      rw [List.getElem?_eq_getElem hjl] at hj
      cases hj
      obtain ⟨a, ea, ha⟩ := h j hjl
      cases ea
      have := ha 0 _ rfl
      rw [Nat.mul_one, cell_add0, ad_add] at this
      exact this) (fun u hu => by
      obtain ⟨x, _, rfl⟩ := List.mem_map.1 hu
      rfl)
    refine Calls.mono hc ?_
    rintro e w' ⟨v', rfl, ho, hne, hb⟩
    have ho : OwnRow w' (fun i => w.heap.size ≤ i) 3 1 v' l.length (l.map (.int .i64)) := ho
    obtain ⟨q', c', rfl⟩ := ho.slice
    have fl := flat_int l
    rw [← fl] at ho
    refine ⟨_, rfl, q', c', rfl, rows_of intC_len (by omega) ho, ?_, kp_of_below hb⟩
    intro a e
    rcases ho.2 with ⟨e1, _⟩ | ⟨g, cap, cur, e1, hg, _⟩
    · injection e1 with e1 _ _; rw [e1] at e; cases e
    · injection e1 with e1 _ _; rw [e1] at e; cases e; exact hg
/-- Neighbours have changed; a directory has not. -/
theorem DR.nb {O : Nat → Prop} {w w' : World} {b o p n : Nat} {S : List Ent} {ws : List Chg} (h : DR w O b o S ws) (k : Kp (one_ b) w w') (nb : Nb b p n w w') (hd : o + 3 ≤ p ∨ p + n ≤ o) : DR w' O b o S ws := by
  obtain ⟨m0, m1, vw, own, h1, h2, h3, h4, h5, h6, h8, h9⟩ := h
  refine ⟨m0, m1, vw, fun i => own i ∧ i < w.heap.size, h1.nb k nb (by simpa using hd), h2, h3.kp k (mapO_ne h3 (h1.get 0 rfl)), h4.kp k (mapO_ne h4 (h1.get 0 rfl)), h5, h6, fun i hi => h8 i hi.1, (h9.mono (own' := fun i => own i ∧ i < w.heap.size) fun i hi hl => ⟨hi, hl⟩).kp k fun g n cap _ hg e => (h8 g hg.1).2.1 e⟩
def ptC (d : Nat) : List Value := [.pointer (some ⟨d, 0, none⟩)]
theorem ptC_len (d : Nat) : (ptC d).length = 1 := rfl
theorem ptC_one (d : Nat) : ∀ u ∈ ptC d, u.oneCell' = true := fun u hu => by
  simp only [ptC, List.mem_cons, List.not_mem_nil, or_false] at hu
  subst hu
  rfl
theorem elem36 : elemOk Try.prog 36 1 = true := by kernel_rfl
/-- The program's files by names. -/
def FSM (w : World) (O : Nat → Prop) (b : Nat) (Ds : List Nat) (S : List Ent) (ws : List Chg) (cap k r : Int) (rl : List Int) : Prop :=
  ∃ (dv : Value) (own Od : Nat → Prop) (rq : Option Addr) (rc : Nat), Cs w b 0 [dv] ∧ DR w Od b 1 S ws ∧ Cs w b 4 [.int .i64 cap, .int .i64 k, .int .i64 r, .slice rq rl.length rc] ∧ OwnRow w own 36 1 dv Ds.length (flatC ptC Ds) ∧ RowsAt w 1 intC rq rl ∧ (0 < rl.length → ∀ a, rq = some a → O a.block ∧ a.block ≠ b ∧ ¬ Od a.block ∧ ¬ own a.block) ∧ (∀ i, own i → O i ∧ ¬ Od i) ∧ (∀ i, Od i → O i)
theorem FSM.lt {w : World} {O : Nat → Prop} {b : Nat} {Ds : List Nat} {S : List Ent} {ws : List Chg} {cap k r : Int} {rl : List Int} (h : FSM w O b Ds S ws cap k r rl) : b < w.heap.size ∧ O b := by
  obtain ⟨dv, own, Od, rq, rc, h1, h2, h3, h4, h5, h6, h7, h8⟩ := h
  exact ⟨h2.lt.1, h8 _ h2.lt.2⟩
theorem c51 {w : World} {O : Nat → Prop} {b : Nat} {Ds : List Nat} {S : List Ent} {ws : List Chg} {cap k r : Int} {rl : List Int} (h : FSM w O b Ds S ws cap k r rl) : Rets Try.prog 51 #[ptA b 0] w fun v w' => v = .tuple #[.int .i64 k, .int .i64 r] ∧ w' = w.drew := by
  refine ent [_] Try.func51 ((vcTry51 _ w _).mpr ?_)
  unfold VCTry51
  obtain ⟨dv, own, Od, rq, rc, h1, h2, h3, h4, h5, h6, h7, h8⟩ := h
  refine bif_b (fun hh => by cases hh) (fun _ => ?_)
  simp only [ptr_some, ad3, Nat.zero_add]
  exact ⟨_, h3.get 1 rfl, _, h3.get 2 rfl, _, rfl, rfl, trivial⟩
/-- A call is counted. -/
def refE (rl : List Int) (k : Int) : Int := if k + 1 ∈ rl then 10 else 0
def refN (rl : List Int) (k r : Int) : Int := if k + 1 ∈ rl then r + 1 else r
theorem c76 {w : World} {O : Nat → Prop} {b : Nat} {Ds : List Nat} {S : List Ent} {ws : List Chg} {cap k r : Int} {rl : List Int} (h : FSM w O b Ds S ws cap k r rl) (hk : 0 ≤ k ∧ k ≤ 1000000) (hr : 0 ≤ r ∧ r ≤ 1000000) (hl : rl.length ≤ 1000000) : Rets Try.prog 76 #[ptA b 0] w fun v w' => v = .int .i64 (refE rl k) ∧ FSM w' O b Ds S ws cap (k + 1) (refN rl k r) rl ∧ Kp (one_ b) w w' := by
  refine ent [_] Try.func76 ((vcTry76 _ w _).mpr ?_)
  unfold VCTry76
  obtain ⟨dv, own, Od, rq, rc, h1, h2, h3, h4, h5, h6, h7, h8⟩ := h
  refine bif_b (fun hh => by cases hh) (fun _ => ?_)
  simp only [ptr_some, ad3, Nat.zero_add, Nat.add_zero]
  obtain ⟨g1, g2⟩ := h3.slot 1 (by simp)
  have k1 : Kp (one_ b) w (w.setCell ⟨b, 5, none⟩ (.int .i64 (k + 1))) := kp_set _ _ _ _
  have n1 : Nb b 4 4 w (w.setCell ⟨b, 5, none⟩ (.int .i64 (k + 1))) := Nb.set w (b := b) (o := 4) (i := 1) (by omega) _
  have c1 : Cs (w.setCell ⟨b, 5, none⟩ (.int .i64 (k + 1))) b 4 [.int .i64 cap, .int .i64 (k + 1), .int .i64 r, .slice rq rl.length rc] := h3.set 1 (.int .i64 (k + 1))
  refine ⟨_, h3.get 1 rfl, wr64 (by omega) ⟨g1, g2, ?_⟩⟩
  generalize w.setCell ⟨b, 5, none⟩ (.int .i64 (k + 1)) = w1 at *
  have r1 : RowsAt w1 1 intC rq rl := h5.kp k1 fun h0 a e hh => (h6 h0 a e).2.1 hh
  have lay : ∀ {w2 : World} {rr : Int}, Kp (one_ b) w w2 → Nb b 4 4 w w2 → Cs w2 b 4 [.int .i64 cap, .int .i64 (k + 1), .int .i64 rr, .slice rq rl.length rc] → FSM w2 O b Ds S ws cap (k + 1) rr rl := fun {w2 rr} k2 n2 c2 =>
    ⟨dv, fun i => own i ∧ i < w.heap.size, Od, rq, rc, h1.nb k2 n2 (.inl (by simp)), h2.nb k2 n2 (.inl (by omega)), c2, (h4.mono (own' := fun i => own i ∧ i < w.heap.size) fun i hi hl => ⟨hi, hl⟩).kp k2 (fun g n cap _ hg e => by have e : g = b := e; rw [e] at hg; exact (h7 b hg.1).2 h2.lt.2), h5.kp k2 (fun h0 a e hh => (h6 h0 a e).2.1 hh), fun h0 a e => ⟨(h6 h0 a e).1, (h6 h0 a e).2.1, (h6 h0 a e).2.2.1, fun hh => (h6 h0 a e).2.2.2 hh.1⟩, fun i hi => h7 i hi.1, h8⟩
  refine ⟨_, _, _, c1.get 3 rfl, fun i e w' => ∃ j : Nat, i = j ∧ j ≤ rl.length ∧ e = 0 ∧ w' = w1 ∧ ∀ x (hx : x < rl.length), x < j → rl[x] ≠ k + 1, fun i _ _ => (rl.length - i).toNat, ⟨0, rfl, by omega, rfl, rfl, fun x hx h => by omega⟩, ?_⟩
  rintro i e w2 ⟨j, rfl, hj, rfl, rfl, hn⟩
  refine bif_dec (fun hi => ?_) (fun hi => ?_)
  · have hjl : j < rl.length := by omega
    refine ⟨⟨by omega, hi⟩, r1.get hjl fun a ea hc => ⟨_, (cell_add0 _ _).symm.trans (hc 0 _ rfl), _, c1.get 1 rfl, bif_eq (fun he => ?_) (fun he => ?_)⟩⟩
    · have hm : k + 1 ∈ rl := by rw [← he]; exact List.getElem_mem hjl
      obtain ⟨g3, g4⟩ := c1.slot 2 (by simp)
      refine ⟨_, c1.get 2 rfl, wr64 (by omega) ⟨g3, g4, _, rfl, ?_, ?_, ?_⟩⟩
      · unfold refE; rw [if_pos hm]
      · unfold refN
        rw [if_pos hm]
        exact lay (k1.trans (kp_set _ _ _ _)) (n1.trans (Nb.set w2 (b := b) (o := 4) (i := 2) (by omega) _)) (c1.set 2 (.int .i64 (r + 1)))
      · exact k1.trans (kp_set _ _ _ _)
    · refine wr64 (by omega) ⟨⟨j + 1, by omega, by omega, rfl, rfl, fun x hx hxj => ?_⟩, by first | omega | (dsimp only; omega)⟩
      by_cases ee : x = j
      · subst ee; exact he
      · exact hn x hx (by omega)
  · have hm : k + 1 ∉ rl := fun hm => by
      obtain ⟨x, hx, e⟩ := List.getElem_of_mem hm
      exact hn x hx (by omega) e
    refine ⟨_, rfl, ?_, ?_, k1⟩
    · unfold refE; rw [if_neg hm]
    · unfold refN; rw [if_neg hm]
      exact lay k1 n1 c1
end Go.Proofs.Ytlgkcbdpaffigaa
