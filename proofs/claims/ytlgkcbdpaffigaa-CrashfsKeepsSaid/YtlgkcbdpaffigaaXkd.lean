/- What the row needs, part 4. -/
import Derived.Test.YtlgkcbdpaffigaaProg
import Derived.Test.YtlgkcbdpaffigaaXkc
namespace Go.Proofs.Ytlgkcbdpaffigaa
open Go Go.SX Go.Proofs
set_option maxRecDepth 100000
set_option linter.unusedVariables false
set_option linter.unusedSimpArgs false
theorem kp_of_below {w w' : World} (h : Go.RowKit.Below w.heap.size w w') : Kp none_ w w' := by
  obtain ⟨a, b, c, d, e⟩ := h
  exact ⟨a, b, c, fun x hx => by unfold World.frozen?; rw [e _ hx], d, fun i hi _ => e i hi⟩
noncomputable def i3 : TypeInfo := (Try.prog.info? 3).get (by kernel_rfl)
theorem flat_int (l : List Int) : flatC intC l = l.map (.int .i64) := by
  induction l with
  | nil => rfl
  | cons x r ih =>
    have : flatC intC (x :: r) = .int .i64 x :: flatC intC r := rfl
    rw [this, ih]
    rfl
theorem Try.underlying62x : Try.prog.underlying 62 = some (.slice 3) := by kernel_rfl
theorem info3x : ∃ i, Try.prog.info? 3 = some i := ⟨i3, (Option.some_get _).symm⟩
/-- No numbers, copied. -/
theorem c75o (q : Option Addr) (c : Nat) (w : World) : Rets Try.prog 75 #[.slice q 0 c] w fun v w' => (∃ q' c', v = .slice q' 0 c' ∧ ∀ a, q' = some a → w.heap.size ≤ a.block) ∧ Kp none_ w w' := by
  refine ent [_] Try.func75 ((vcTry75 _ _ _ w _).mpr ?_)
  unfold VCTry75
  refine bif_b (fun _ => ⟨_, rfl, ⟨none, 0, rfl, fun a e => by cases e⟩, Kp.refl _ _⟩) (fun _ => ?_)
  refine lit_own (size := 1) Try.underlying62x info3x fun w1 o1 k1 => ?_
  refine ⟨_, _, _, rfl, k1.keeps0, ?_⟩
  refine ⟨_, _, append_zero Try.underlying62x info3x o1 q c, _, _, _, rfl, (Kp.refl none_ _).keeps0, _, rfl, ⟨_, _, rfl, fun a e => ?_⟩, k1⟩
  cases e
  exact Nat.le_refl _
/-- A list of numbers, copied. -/
theorem clone_int {w : World} {q : Option Addr} {c : Nat} {l : List Int} (h : RowsAt w 1 intC q l) (hl : l.length ≤ 1000000) (h0 : l = [] ∨ ∃ b off, q = some ⟨b, off, none⟩) : Rets Try.prog 75 #[.slice q l.length c] w fun v w' => ∃ (q' : Option Addr) (c' : Nat), v = .slice q' l.length c' ∧ RowsAt w' 1 intC q' l ∧ (∀ a, q' = some a → w.heap.size ≤ a.block) ∧ Kp none_ w w' := by
  rcases h0 with rfl | ⟨b, off, rfl⟩
  · refine (c75o q c w).mono ?_
    rintro v w' ⟨⟨q', c', rfl, hq⟩, k⟩
    exact ⟨q', c', rfl, (fun i hi => by simp at hi), hq, k⟩
  · have hc := Try.slices_Clone i3 (.int .i64 0) 1 8 (Option.some_get _).symm (by kernel_rfl) (by kernel_rfl) (by kernel_rfl) rfl (by omega) (fun w => by kernel_rfl) b off l.length c (l.map (.int .i64)) w (by simp) (by unfold maxLen; omega) (by omega) (fun j u hj => by
      rw [List.getElem?_map] at hj
      have hjl : j < l.length := by
        cases hh : l[j]? with
        | none => rw [hh] at hj; cases hj
        | some x => exact (List.getElem?_eq_some_iff.1 hh).1
      rw [List.getElem?_eq_getElem hjl] at hj
      cases hj
      obtain ⟨a, ea, ha⟩ := h j hjl
      cases ea
      have := ha 0 _ rfl
      rw [Nat.mul_one, cell_add0, ad_add] at this
      exact this) (fun u hu => by
      obtain ⟨x, _, rfl⟩ := List.mem_map.1 hu
      rfl)
    refine Calls.mono hc ?_
    rintro e w' ⟨v', rfl, ho, hne, hb⟩
    have ho : OwnRow w' (fun i => w.heap.size ≤ i) 3 1 v' l.length (l.map (.int .i64)) := ho
    obtain ⟨q', c', rfl⟩ := ho.slice
    have fl := flat_int l
    rw [← fl] at ho
    refine ⟨_, rfl, q', c', rfl, rows_of intC_len (by omega) ho, ?_, kp_of_below hb⟩
    intro a e
    rcases ho.2 with ⟨e1, _⟩ | ⟨g, cap, cur, e1, hg, _⟩
    · injection e1 with e1 _ _; rw [e1] at e; cases e
    · injection e1 with e1 _ _; rw [e1] at e; cases e; exact hg
/-- Neighbours have changed; a directory has not. -/
theorem DR.nb {O : Nat → Prop} {w w' : World} {b o p n : Nat} {S : List Ent} {ws : List Chg} (h : DR w O b o S ws) (k : Kp (one_ b) w w') (nb : Nb b p n w w') (hd : o + 3 ≤ p ∨ p + n ≤ o) : DR w' O b o S ws := by
  obtain ⟨m0, m1, vw, own, h1, h2, h3, h4, h5, h6, h8, h9⟩ := h
  refine ⟨m0, m1, vw, fun i => own i ∧ i < w.heap.size, h1.nb k nb (by simpa using hd), h2, h3.kp k (mapO_ne h3 (h1.get 0 rfl)), h4.kp k (mapO_ne h4 (h1.get 0 rfl)), h5, h6, fun i hi => h8 i hi.1, (h9.mono (own' := fun i => own i ∧ i < w.heap.size) fun i hi hl => ⟨hi, hl⟩).kp k fun g n cap _ hg e => (h8 g hg.1).2.1 e⟩
def ptC (d : Nat) : List Value := [.pointer (some ⟨d, 0, none⟩)]
theorem ptC_len (d : Nat) : (ptC d).length = 1 := rfl
theorem ptC_one (d : Nat) : ∀ u ∈ ptC d, u.oneCell' = true := fun u hu => by
  simp only [ptC, List.mem_cons, List.not_mem_nil, or_false] at hu
  subst hu
  rfl
theorem elem36 : elemOk Try.prog 36 1 = true := by kernel_rfl
/-- The program's files by names. -/
def FSM (w : World) (O : Nat → Prop) (b : Nat) (Ds : List Nat) (S : List Ent) (ws : List Chg) (cap k r : Int) (rl : List Int) : Prop :=
  ∃ (dv : Value) (own Od : Nat → Prop) (rq : Option Addr) (rc : Nat), Cs w b 0 [dv] ∧ DR w Od b 1 S ws ∧ Cs w b 4 [.int .i64 cap, .int .i64 k, .int .i64 r, .slice rq rl.length rc] ∧ OwnRow w own 36 1 dv Ds.length (flatC ptC Ds) ∧ RowsAt w 1 intC rq rl ∧ (0 < rl.length → ∀ a, rq = some a → O a.block ∧ a.block ≠ b ∧ ¬ Od a.block ∧ ¬ own a.block) ∧ (∀ i, own i → O i ∧ ¬ Od i) ∧ (∀ i, Od i → O i)
theorem FSM.lt {w : World} {O : Nat → Prop} {b : Nat} {Ds : List Nat} {S : List Ent} {ws : List Chg} {cap k r : Int} {rl : List Int} (h : FSM w O b Ds S ws cap k r rl) : b < w.heap.size ∧ O b := by
  obtain ⟨dv, own, Od, rq, rc, h1, h2, h3, h4, h5, h6, h7, h8⟩ := h
  exact ⟨h2.lt.1, h8 _ h2.lt.2⟩
theorem c51 {w : World} {O : Nat → Prop} {b : Nat} {Ds : List Nat} {S : List Ent} {ws : List Chg} {cap k r : Int} {rl : List Int} (h : FSM w O b Ds S ws cap k r rl) : Rets Try.prog 51 #[ptA b 0] w fun v w' => v = .tuple #[.int .i64 k, .int .i64 r] ∧ w' = w.drew := by
  refine ent [_] Try.func51 ((vcTry51 _ w _).mpr ?_)
  unfold VCTry51
  obtain ⟨dv, own, Od, rq, rc, h1, h2, h3, h4, h5, h6, h7, h8⟩ := h
  refine bif_b (fun hh => by cases hh) (fun _ => ?_)
  simp only [ptr_some, ad3, Nat.zero_add]
  exact ⟨_, h3.get 1 rfl, _, h3.get 2 rfl, _, rfl, rfl, trivial⟩
/-- A call is counted. -/
def refE (rl : List Int) (k : Int) : Int := if k + 1 ∈ rl then 10 else 0
def refN (rl : List Int) (k r : Int) : Int := if k + 1 ∈ rl then r + 1 else r
theorem c76 {w : World} {O : Nat → Prop} {b : Nat} {Ds : List Nat} {S : List Ent} {ws : List Chg} {cap k r : Int} {rl : List Int} (h : FSM w O b Ds S ws cap k r rl) (hk : 0 ≤ k ∧ k ≤ 1000000) (hr : 0 ≤ r ∧ r ≤ 1000000) (hl : rl.length ≤ 1000000) : Rets Try.prog 76 #[ptA b 0] w fun v w' => v = .int .i64 (refE rl k) ∧ FSM w' O b Ds S ws cap (k + 1) (refN rl k r) rl ∧ Kp (one_ b) w w' := by
  refine ent [_] Try.func76 ((vcTry76 _ w _).mpr ?_)
  unfold VCTry76
  obtain ⟨dv, own, Od, rq, rc, h1, h2, h3, h4, h5, h6, h7, h8⟩ := h
  refine bif_b (fun hh => by cases hh) (fun _ => ?_)
  simp only [ptr_some, ad3, Nat.zero_add, Nat.add_zero]
  obtain ⟨g1, g2⟩ := h3.slot 1 (by simp)
  have k1 : Kp (one_ b) w (w.setCell ⟨b, 5, none⟩ (.int .i64 (k + 1))) := kp_set _ _ _ _
  have n1 : Nb b 4 4 w (w.setCell ⟨b, 5, none⟩ (.int .i64 (k + 1))) := Nb.set w (b := b) (o := 4) (i := 1) (by omega) _
  have c1 : Cs (w.setCell ⟨b, 5, none⟩ (.int .i64 (k + 1))) b 4 [.int .i64 cap, .int .i64 (k + 1), .int .i64 r, .slice rq rl.length rc] := h3.set 1 (.int .i64 (k + 1))
  refine ⟨_, h3.get 1 rfl, wr64 (by omega) ⟨g1, g2, ?_⟩⟩
  generalize w.setCell ⟨b, 5, none⟩ (.int .i64 (k + 1)) = w1 at *
  have r1 : RowsAt w1 1 intC rq rl := h5.kp k1 fun h0 a e hh => (h6 h0 a e).2.1 hh
  have lay : ∀ {w2 : World} {rr : Int}, Kp (one_ b) w w2 → Nb b 4 4 w w2 → Cs w2 b 4 [.int .i64 cap, .int .i64 (k + 1), .int .i64 rr, .slice rq rl.length rc] → FSM w2 O b Ds S ws cap (k + 1) rr rl := fun {w2 rr} k2 n2 c2 =>
    ⟨dv, fun i => own i ∧ i < w.heap.size, Od, rq, rc, h1.nb k2 n2 (.inl (by simp)), h2.nb k2 n2 (.inl (by omega)), c2, (h4.mono (own' := fun i => own i ∧ i < w.heap.size) fun i hi hl => ⟨hi, hl⟩).kp k2 (fun g n cap _ hg e => by have e : g = b := e; rw [e] at hg; exact (h7 b hg.1).2 h2.lt.2), h5.kp k2 (fun h0 a e hh => (h6 h0 a e).2.1 hh), fun h0 a e => ⟨(h6 h0 a e).1, (h6 h0 a e).2.1, (h6 h0 a e).2.2.1, fun hh => (h6 h0 a e).2.2.2 hh.1⟩, fun i hi => h7 i hi.1, h8⟩
  refine ⟨_, _, _, c1.get 3 rfl, fun i e w' => ∃ j : Nat, i = j ∧ j ≤ rl.length ∧ e = 0 ∧ w' = w1 ∧ ∀ x (hx : x < rl.length), x < j → rl[x] ≠ k + 1, fun i _ _ => (rl.length - i).toNat, ⟨0, rfl, by omega, rfl, rfl, fun x hx h => by omega⟩, ?_⟩
  rintro i e w2 ⟨j, rfl, hj, rfl, rfl, hn⟩
  refine bif_dec (fun hi => ?_) (fun hi => ?_)
  · have hjl : j < rl.length := by omega
    refine ⟨⟨by omega, hi⟩, r1.get hjl fun a ea hc => ⟨_, (cell_add0 _ _).symm.trans (hc 0 _ rfl), _, c1.get 1 rfl, bif_eq (fun he => ?_) (fun he => ?_)⟩⟩
    · have hm : k + 1 ∈ rl := by rw [← he]; exact List.getElem_mem hjl
      obtain ⟨g3, g4⟩ := c1.slot 2 (by simp)
      refine ⟨_, c1.get 2 rfl, wr64 (by omega) ⟨g3, g4, _, rfl, ?_, ?_, ?_⟩⟩
      · unfold refE; rw [if_pos hm]
      · unfold refN
        rw [if_pos hm]
        exact lay (k1.trans (kp_set _ _ _ _)) (n1.trans (Nb.set w2 (b := b) (o := 4) (i := 2) (by omega) _)) (c1.set 2 (.int .i64 (r + 1)))
      · exact k1.trans (kp_set _ _ _ _)
    · refine wr64 (by omega) ⟨⟨j + 1, by omega, by omega, rfl, rfl, fun x hx hxj => ?_⟩, by first | omega | (dsimp only; omega)⟩
      by_cases ee : x = j
      · subst ee; exact he
      · exact hn x hx (by omega)
  · have hm : k + 1 ∉ rl := fun hm => by
      obtain ⟨x, hx, e⟩ := List.getElem_of_mem hm
      exact hn x hx (by omega) e
    refine ⟨_, rfl, ?_, ?_, k1⟩
    · unfold refE; rw [if_neg hm]
    · unfold refN; rw [if_neg hm]
      exact lay k1 n1 c1
end Go.Proofs.Ytlgkcbdpaffigaa

namespace Go.Proofs.Ytlgkcbdpaffigaa
open Go Go.SX Go.Proofs
set_option maxRecDepth 100000
set_option linter.unusedVariables false
set_option linter.unusedSimpArgs false
/-- Nothing is there yet. -/
theorem c24 (cap : Int) (w : World) : Rets Try.prog 24 #[.int .i64 cap] w fun v w' => v = ptA w.heap.size 0 ∧ FSM w' (fun i => w.heap.size ≤ i) w.heap.size [] [] [] (maxI 0 (minI 65536 cap)) 0 0 [] ∧ Kp none_ w w' := by
  refine ent [_] Try.func24 ((vcTry24 _ w _).mpr ?_)
  unfold VCTry24
  intro _
  have ka : Kp none_ w (w.alloc (.cells #[.slice none 0 0, .map none, .map none, .slice none 0 0, .int .i64 (maxI 0 (minI 65536 cap)), .int .i64 0, .int .i64 0, .slice none 0 0] 122)) := (Kp.refl none_ _).alloc1 _
  have Ba : Big (w.alloc (.cells #[.slice none 0 0, .map none, .map none, .slice none 0 0, .int .i64 (maxI 0 (minI 65536 cap)), .int .i64 0, .int .i64 0, .slice none 0 0] 122)) w.heap.size 122 [.slice none 0 0, .map none, .map none, .slice none 0 0, .int .i64 (maxI 0 (minI 65536 cap)), .int .i64 0, .int .i64 0, .slice none 0 0] := Big.new _ _ 122
  generalize w.alloc (.cells #[.slice none 0 0, .map none, .map none, .slice none 0 0, .int .i64 (maxI 0 (minI 65536 cap)), .int .i64 0, .int .i64 0, .slice none 0 0] 122) = W at *
  have sub : ∀ (o : Nat) (vs : List Value), (∀ j v, vs[j]? = some v → ([.slice none 0 0, .map none, .map none, .slice none 0 0, .int .i64 (maxI 0 (minI 65536 cap)), .int .i64 0, .int .i64 0, .slice none 0 0] : List Value)[o + j]? = some v) → Cs W w.heap.size o vs := fun o vs h j v hv => ⟨by rw [Ba.cell]; exact h j v hv, Ba.frz _⟩
  refine ⟨_, rfl, rfl, ⟨.slice none 0 0, none_, fun i => i = w.heap.size, none, 0, sub 0 _ ?_, DR.zero (sub 1 _ ?_) (fun i => i = w.heap.size) rfl, sub 4 _ ?_, OwnRow.nil _ _ _ _, fun i hi => by simp at hi, (fun h0 a e => by cases e), (fun i hi => hi.elim), fun i hi => by omega⟩, ka⟩
  all_goals
    intro j v hv
    match j, hv with
    | 0, hv => exact hv
    | 1, hv => first | exact hv | (simp at hv)
    | 2, hv => first | exact hv | (simp at hv)
    | 3, hv => first | exact hv | (simp at hv)
    | j + 4, hv => simp at hv
theorem FSM.kp {S' O O' : Nat → Prop} {w w' : World} {b : Nat} {Ds : List Nat} {S : List Ent} {ws : List Chg} {cap k r : Int} {rl : List Int} (h : FSM w O b Ds S ws cap k r rl) (kk : Kp S' w w') (hs : ∀ i, i < w.heap.size → O i → ¬ S' i ∧ O' i) : FSM w' O' b Ds S ws cap k r rl := by
  obtain ⟨dv, own, Od, rq, rc, h1, h2, h3, h4, h5, h6, h7, h8⟩ := h
  have hb := h2.lt
  have sb := (hs b hb.1 (h8 _ hb.2)).1
  have rlt : 0 < rl.length → ∀ a, rq = some a → a.block < w.heap.size := fun h0 a e => h5.lt intC_len (by omega) h0 a e
  refine ⟨dv, fun i => own i ∧ i < w.heap.size, fun i => Od i ∧ i < w.heap.size, rq, rc, h1.kp kk sb, h2.kp kk fun i hl hi => ⟨(hs i hl (h8 i hi)).1, hi, hl⟩, h3.kp kk sb, ?_, h5.kp kk fun h0 a e => (hs _ (rlt h0 a e) (h6 h0 a e).1).1, fun h0 a e => ⟨(hs _ (rlt h0 a e) (h6 h0 a e).1).2, (h6 h0 a e).2.1, fun hh => (h6 h0 a e).2.2.1 hh.1, fun hh => (h6 h0 a e).2.2.2 hh.1⟩, fun i hi => ⟨(hs i hi.2 (h7 i hi.1).1).2, fun hh => (h7 i hi.1).2 hh.1⟩, fun i hi => (hs i hi.2 (h8 i hi.1)).2⟩
  exact (h4.mono (own' := fun i => own i ∧ i < w.heap.size) fun i hi hl => ⟨hi, hl⟩).kp kk fun g n cap _ hg => (hs g hg.2 (h7 g hg.1).1).1
theorem FSM.kp0 {O : Nat → Prop} {w w' : World} {b : Nat} {Ds : List Nat} {S : List Ent} {ws : List Chg} {cap k r : Int} {rl : List Int} (h : FSM w O b Ds S ws cap k r rl) (kk : Kp none_ w w') : FSM w' O b Ds S ws cap k r rl := h.kp kk fun i _ hi => ⟨id, hi⟩
theorem FSM.dir {O : Nat → Prop} {w : World} {b : Nat} {Ds : List Nat} {S : List Ent} {ws : List Chg} {cap k r : Int} {rl : List Int} (h : FSM w O b Ds S ws cap k r rl) : ∃ Od, DR w Od b 1 S ws := by
  obtain ⟨dv, own, Od, rq, rc, h1, h2, h3, h4, h5, h6, h7, h8⟩ := h
  exact ⟨Od, h2⟩
theorem FSM.disks {O : Nat → Prop} {w : World} {b : Nat} {Ds : List Nat} {S : List Ent} {ws : List Chg} {cap k r : Int} {rl : List Int} (h : FSM w O b Ds S ws cap k r rl) : ∃ q c, w.cell? ⟨b, 0, none⟩ = some (.slice q Ds.length c) ∧ RowsAt w 1 ptC q Ds := by
  obtain ⟨dv, own, Od, rq, rc, h1, h2, h3, h4, h5, h6, h7, h8⟩ := h
  obtain ⟨q, c, rfl⟩ := h4.slice
  exact ⟨q, c, h1.get 0 rfl, rows_of ptC_len (by omega) h4⟩
/-- What is refused from now on. -/
theorem c27 {w : World} {O : Nat → Prop} {b : Nat} {Ds : List Nat} {S : List Ent} {ws : List Chg} {cap k r : Int} {rl : List Int} (h : FSM w O b Ds S ws cap k r rl) (hO : ∀ i, O i → i < w.heap.size) {q : Option Addr} {c : Nat} {l : List Int} (g : RowsAt w 1 intC q l) (hl : l.length ≤ 1000000) (h0 : l = [] ∨ ∃ b off, q = some ⟨b, off, none⟩) : Rets Try.prog 27 #[ptA b 0, .slice q l.length c] w fun v w' => v = .tuple #[] ∧ FSM w' (fun i => O i ∨ w.heap.size ≤ i) b Ds S ws cap k r l ∧ Kp O w w' := by
  refine ent [_, _] Try.func27 ((vcTry27 _ _ _ _ w _).mpr ?_)
  unfold VCTry27
  refine bif_not (fun _ => ?_) (fun hh => by cases hh)
  refine (clone_int g hl h0).mono ?_
  rintro v w1 ⟨q', c', rfl, g1, f1, k1⟩
  have z1 := k1.size
  simp only [ptr_some, ad3, Nat.zero_add, Nat.add_zero]
  obtain ⟨dv, own, Od, rq, rc, h1, h2, h3, h4, h5, h6, h7, h8⟩ := h.kp0 k1
  have lb := h.lt
  obtain ⟨e1, e2⟩ := h3.slot 3 (by simp)
  have kk : Kp (one_ b) w1 (w1.setCell ⟨b, 7, none⟩ (.slice q' l.length c')) := kp_set _ _ _ _
  have nb : Nb b 4 4 w1 (w1.setCell ⟨b, 7, none⟩ (.slice q' l.length c')) := Nb.set w1 (b := b) (o := 4) (i := 3) (by omega) _
  have cc : Cs (w1.setCell ⟨b, 7, none⟩ (.slice q' l.length c')) b 4 [.int .i64 cap, .int .i64 k, .int .i64 r, .slice q' l.length c'] := h3.set 3 _
  refine ⟨_, _, _, rfl, k1.keeps0, e1, e2, _, rfl, rfl, ⟨dv, own, Od, q', c', h1.nb kk nb (.inl (by simp)), h2.nb kk nb (.inl (by omega)), cc, h4.kp kk (fun g n cap _ hg e => by have e : g = b := e; rw [e] at hg; exact (h7 b hg).2 h2.lt.2), g1.kp kk (fun _ a e hh => by have := f1 a e; have hh : a.block = b := hh; omega), fun _ a e => ?_, fun i hi => ⟨.inl (h7 i hi).1, (h7 i hi).2⟩, fun i hi => .inl (h8 i hi)⟩, ?_⟩
  · have := f1 a e
    exact ⟨.inr this, by omega, fun hh => by have := hO _ (h8 _ hh); omega, fun hh => by have := hO _ (h7 _ hh).1; omega⟩
  · exact k1.wide.trans (kk.mono fun i _ hi => by have hi : i = b := hi; rw [hi]; exact lb.2)
/-- A file's disk, or none. -/
theorem c77 {w : World} {O : Nat → Prop} {b : Nat} {Ds : List Nat} {S : List Ent} {ws : List Chg} {cap k r : Int} {rl : List Int} (h : FSM w O b Ds S ws cap k r rl) (i : Int) : Rets Try.prog 77 #[ptA b 0, .int .i64 i] w fun v w' => w' = w ∧ v = .pointer (if 0 ≤ i then (Ds[i.toNat]?).map fun d => ⟨d, 0, none⟩ else none) := by
  refine ent [_, _] Try.func77 ((vcTry77 _ _ w _).mpr ?_)
  unfold VCTry77
  obtain ⟨q, c, e0, r0⟩ := h.disks
  refine bif_b (fun hh => by cases hh) (fun _ => bif_dec (fun hi => ⟨_, rfl, rfl, by rw [if_neg (by omega)]⟩) (fun hi => ?_))
  simp only [ptr_some, ad3, Nat.zero_add, Nat.add_zero]
  refine ⟨_, _, _, e0, bif_dec (fun hi2 => ⟨_, rfl, trivial, by rw [if_pos (by omega), List.getElem?_eq_none (by omega)]; rfl⟩) (fun hi2 => ⟨_, _, _, e0, ⟨by omega, by omega⟩, r0.get (i := i.toNat) (by omega) fun a ea hc => ⟨_, (cell_add0 _ _).symm.trans (hc 0 _ rfl), _, rfl, trivial, ?_⟩⟩)⟩
  rw [if_pos (by omega), List.getElem?_eq_getElem (by omega)]
  rfl
theorem c33 {w : World} {O : Nat → Prop} {b : Nat} {Ds : List Nat} {S : List Ent} {ws : List Chg} {cap k r : Int} {rl : List Int} (h : FSM w O b Ds S ws cap k r rl) (a : List UInt8) : Rets Try.prog 33 #[ptA b 0, .string (ba a)] w fun v w' => w' = w ∧ v = .tuple #[.int .i64 ((lookE (lastE S ws) a).getD 0), .int .i64 (if has Prod.fst (lastE S ws) a = true then 0 else 7)] := by
  refine ent [_, _] Try.func33 ((vcTry33 _ _ w _).mpr ?_)
  unfold VCTry33
  obtain ⟨Od, d⟩ := h.dir
  refine bif_b (fun hh => by cases hh) (fun _ => ?_)
  simp only [ptr_some, ad3, Nat.zero_add, Nat.add_zero]
  refine (c42 d a).mono ?_
  rintro v w' ⟨e, rfl⟩
  obtain rfl := e.symm
  refine ⟨_, _, rfl, (Kp.refl none_ _).keeps0, bif_not (fun hh => ⟨_, rfl, rfl, ?_⟩) (fun hh => ⟨_, rfl, rfl, ?_⟩)⟩
  · have hl : lookE (lastE S ws) a = none := by
      have := look_has (l := lastE S ws) (s := a)
      rw [hh] at this
      cases hl : lookE (lastE S ws) a with
      | none => rfl
      | some _ => rw [hl] at this; cases this
    rw [hh, hl]
    rfl
  · rw [hh]; rfl
end Go.Proofs.Ytlgkcbdpaffigaa

namespace Go.Proofs.Ytlgkcbdpaffigaa
open Go Go.SX Go.Proofs
set_option maxRecDepth 100000
set_option linter.unusedVariables false
set_option linter.unusedSimpArgs false
def newE (rl : List Int) (k : Int) (Ds : List Nat) (N : List Ent) (a : List UInt8) : Int := if refE rl k ≠ 0 then 10 else if 1000 ≤ Ds.length then 14 else createE N a
theorem und120 : Try.prog.underlying 120 = some (.slice 36) := Try.underlying120
/-- The directory has gone on. -/
theorem FSM.turn {w w' : World} {O Od own : Nat → Prop} {b : Nat} {Ds : List Nat} {S S' : List Ent} {ws ws' : List Chg} {cap k r : Int} {rl : List Int} {dv : Value} {rq : Option Addr} {rc : Nat}
    (h1 : Cs w b 0 [dv]) (h2 : DR w Od b 1 S ws) (h3 : Cs w b 4 [.int .i64 cap, .int .i64 k, .int .i64 r, .slice rq rl.length rc]) (h4 : OwnRow w own 36 1 dv Ds.length (flatC ptC Ds)) (h5 : RowsAt w 1 intC rq rl) (h6 : 0 < rl.length → ∀ a, rq = some a → O a.block ∧ a.block ≠ b ∧ ¬ Od a.block ∧ ¬ own a.block) (h7 : ∀ i, own i → O i ∧ ¬ Od i) (h8 : ∀ i, Od i → O i)
    (d : DR w' (fun i => Od i ∨ w.heap.size ≤ i) b 1 S' ws') (kk : Kp Od w w') (nb : Nb b 1 3 w w') :
    Cs w' b 0 [dv] ∧ DR w' (fun i => (Od i ∨ w.heap.size ≤ i) ∧ i < w'.heap.size) b 1 S' ws' ∧ Cs w' b 4 [.int .i64 cap, .int .i64 k, .int .i64 r, .slice rq rl.length rc] ∧ OwnRow w' (fun i => own i ∧ i < w.heap.size) 36 1 dv Ds.length (flatC ptC Ds) ∧ RowsAt w' 1 intC rq rl ∧ (0 < rl.length → ∀ a, rq = some a → a.block < w.heap.size) := by
  refine ⟨h1.nb kk nb (.inl (by simp)), d.mono fun i hl hi => ⟨hi, hl⟩, h3.nb kk nb (.inr (by omega)), ?_, h5.kp kk fun h0 a e => (h6 h0 a e).2.2.1, fun h0 a e => h5.lt intC_len (by omega) h0 a e⟩
  exact (h4.mono (own' := fun i => own i ∧ i < w.heap.size) fun i hi hl => ⟨hi, hl⟩).kp kk fun g n cap _ hg => (h7 g hg.1).2
theorem c28 {w : World} {O : Nat → Prop} {b : Nat} {Ds : List Nat} {S : List Ent} {ws : List Chg} {cap k r : Int} {rl : List Int} (h : FSM w O b Ds S ws cap k r rl) (hO : ∀ i, O i → i < w.heap.size) (hk : 0 ≤ k ∧ k ≤ 1000000) (hr : 0 ≤ r ∧ r ≤ 1000000) (hl : rl.length ≤ 1000000) (ha : Asc Prod.fst (lastE S ws)) (hws : ws.length ≤ 1000000) (a : List UInt8) : Rets Try.prog 28 #[ptA b 0, .string (ba a)] w fun v w' =>
    v = .tuple #[.int .i64 (if newE rl k Ds (lastE S ws) a = 0 then Ds.length else 0), .int .i64 (newE rl k Ds (lastE S ws) a)] ∧ Kp O w w' ∧
    (newE rl k Ds (lastE S ws) a = 0 → ∃ d, w.heap.size ≤ d ∧ d < w'.heap.size ∧ FSM w' (fun i => O i ∨ (w.heap.size ≤ i ∧ i ≠ d)) b (Ds ++ [d]) S (ws ++ [⟨[], a, Ds.length⟩]) cap (k + 1) (refN rl k r) rl ∧ Big w' d 29 [.slice none 0 0, .slice none 0 0, .slice none 0 0]) ∧
    (newE rl k Ds (lastE S ws) a ≠ 0 → FSM w' (fun i => O i ∨ w.heap.size ≤ i) b Ds S ws cap (k + 1) (refN rl k r) rl) := by
  refine ent [_, _] Try.func28 ((vcTry28 _ _ w _).mpr ?_)
  unfold VCTry28
  have lb := h.lt
  refine (c76 h hk hr hl).mono ?_
  rintro v w1 ⟨rfl, h', k1⟩
  have z1 := k1.size
  have K1 : Kp O w w1 := k1.mono fun i _ hi => by have hi : i = b := hi; rw [hi]; exact lb.2
  simp only [ptr_some, ad3, Nat.zero_add, Nat.add_zero]
  refine ⟨_, rfl, k1.keeps0, bif_ne (fun hE => ?_) (fun hE => ?_)⟩
  · have eE : newE rl k Ds (lastE S ws) a = 10 := by unfold newE; rw [if_pos hE]
    rw [eE]
    have e10 : refE rl k = 10 := by
      unfold refE at hE ⊢
      split
      · rfl
      · rename_i hh; rw [if_neg hh] at hE; exact absurd rfl hE
    rw [e10]
    exact ⟨_, rfl, rfl, K1, (fun hh => by cases hh), fun _ => h'.kp (Kp.refl none_ _) fun i _ hi => ⟨id, .inl hi⟩⟩
  · obtain ⟨q, c, e0, r0⟩ := h'.disks
    refine ⟨_, _, _, e0, bif_dec (fun hn => ?_) (fun hn => ?_)⟩
    · have eE : newE rl k Ds (lastE S ws) a = 14 := by unfold newE; rw [if_neg (fun hh => hh hE), if_pos (by omega)]
      rw [eE]
      exact ⟨_, rfl, rfl, K1, (fun hh => by cases hh), fun _ => h'.kp (Kp.refl none_ _) fun i _ hi => ⟨id, .inl hi⟩⟩
    · have eE : newE rl k Ds (lastE S ws) a = createE (lastE S ws) a := by unfold newE; rw [if_neg (fun hh => hh hE), if_neg (by omega)]
      rw [eE]
      obtain ⟨dv, own, Od, rq, rc, h1, h2, h3, h4, h5, h6, h7, h8⟩ := h'
      refine (c47 h2 hws ha a Ds.length).mono ?_
      rintro v w2 ⟨rfl, d2, k2, n2⟩
      have z2 := k2.size
      have K2 : Kp O w w2 := K1.trans (k2.mono fun i _ hi => h8 i hi)
      obtain ⟨g1, g2, g3, g4, g5, g6⟩ := FSM.turn h1 h2 h3 h4 h5 h6 h7 h8 d2 k2 n2
      refine ⟨_, rfl, k2.keeps0, bif_ne (fun hC => ?_) (fun hC => ?_)⟩
      · rw [if_neg hC] at g2
        rw [if_neg hC]
        refine ⟨_, rfl, rfl, K2, fun hh => absurd hh hC, fun _ => ⟨dv, _, _, rq, rc, g1, g2, g3, g4, g5, fun h0 a e => ⟨.inl (h6 h0 a e).1, (h6 h0 a e).2.1, fun hh => ?_, fun hh => (h6 h0 a e).2.2.2 hh.1⟩, fun i hi => ⟨.inl (h7 i hi.1).1, fun hh => ?_⟩, fun i hi => ?_⟩⟩
        · rcases hh.1 with hh | hh
          · exact (h6 h0 a e).2.2.1 hh
          · have := g6 h0 a e; omega
        · rcases hh.1 with hh | hh
          · exact (h7 i hi.1).2 hh
          · have := hi.2; omega
        · rcases hi.1 with hh | hh
          · exact .inl (h8 i hh)
          · exact .inr (by omega)
      · rw [if_pos hC] at g2
        rw [hC, if_pos rfl]
        obtain ⟨qd, cd, rfl⟩ := g4.slice
        have k3 : Kp none_ w2 (w2.alloc (.cells #[.slice none 0 0, .slice none 0 0, .slice none 0 0] 29)) := (Kp.refl none_ _).alloc1 _
        have z3 : (w2.alloc (.cells #[.slice none 0 0, .slice none 0 0, .slice none 0 0] 29)).heap.size = w2.heap.size + 1 := alloc_size _ _
        have B3 : Big (w2.alloc (.cells #[.slice none 0 0, .slice none 0 0, .slice none 0 0] 29)) w2.heap.size 29 [.slice none 0 0, .slice none 0 0, .slice none 0 0] := Big.new _ _ 29
        refine ⟨_, _, _, g1.get 0 rfl, ?_⟩
        generalize w2.alloc (.cells #[.slice none 0 0, .slice none 0 0, .slice none 0 0] 29) = w3 at *
        have g4' : OwnRow w3 (fun i => own i ∧ i < w1.heap.size) 36 1 (.slice qd Ds.length cd) Ds.length (flatC ptC Ds) := g4.kp k3 fun _ _ _ _ _ => id
        refine push_row (l := Ds) w2.heap.size (cs := #[.pointer (some ⟨w2.heap.size, 0, none⟩)]) ptC_len ptC_one (by omega) und120 elem36 rfl g4' rfl (by omega) fun q' c' w4 ro k4 ka => ?_
        have z4 := k4.size
        have nO : ∀ i, own i ∧ i < w1.heap.size → ¬ ((Od i ∨ w1.heap.size ≤ i) ∧ i < w2.heap.size) := fun i hi hh => by
          rcases hh.1 with hh | hh
          · exact (h7 i hi.1).2 hh
          · omega
        have nb_ : ¬ (own b ∧ b < w1.heap.size) := fun hh => (h7 b hh.1).2 h2.lt.2
        have nd : ¬ (own w2.heap.size ∧ w2.heap.size < w1.heap.size) := fun hh => by omega
        have g1' := (g1.kp0 k3).kp k4 nb_
        obtain ⟨s1, s2⟩ := g1'.slot 0 (by simp)
        have bd : b ≠ w2.heap.size := by have := lb.1; omega
        refine ⟨_, _, _, rfl, ka.keeps fun i hi => ?_, s1, s2, .inl bd, fun _ => ?_⟩
        · rw [List.mem_singleton] at hi
          subst hi
          exact ⟨by rw [alloc_size]; omega, nd⟩
        have k5 : Kp (one_ b) w4 (w4.setCell ⟨b, 0, none⟩ (.slice q' (Ds.length + 1) c')) := kp_set _ _ _ _
        have n5 : Nb b 0 1 w4 (w4.setCell ⟨b, 0, none⟩ (.slice q' (Ds.length + 1) c')) := Nb.set w4 (b := b) (o := 0) (i := 0) (by omega) _
        have c5 : Cs (w4.setCell ⟨b, 0, none⟩ (.slice q' (Ds.length + 1) c')) b 0 [.slice q' (Ds.length + 1) c'] := g1'.set 0 _
        have z5 : (w4.setCell ⟨b, 0, none⟩ (.slice q' (Ds.length + 1) c')).heap.size = w4.heap.size := set_size _ _ _
        generalize w4.setCell ⟨b, 0, none⟩ (.slice q' (Ds.length + 1) c') = w5 at *
        have D5 : DR w5 (fun i => (Od i ∨ w1.heap.size ≤ i) ∧ i < w2.heap.size) b 1 S (ws ++ [⟨[], a, Ds.length⟩]) := ((g2.kp0 k3).kp k4 fun i _ hi => ⟨fun ho => nO i ho hi, hi⟩).nb k5 n5 (.inr (by omega))
        have C5 := ((g3.kp0 k3).kp k4 nb_).nb k5 n5 (.inr (by omega))
        have R5 : RowsAt w5 1 intC rq rl := ((g5.kp0 k3).kp k4 fun h0 a e hh => (h6 h0 a e).2.2.2 hh.1).kp k5 fun h0 a e hh => (h6 h0 a e).2.1 hh
        have ro5 : OwnRow w5 (fun i => (own i ∧ i < w1.heap.size) ∨ fresh w3 i) 36 1 (.slice q' (Ds.length + 1) c') (Ds ++ [w2.heap.size]).length (flatC ptC (Ds ++ [w2.heap.size])) := ro.kp k5 fun g n cap _ hg e => by
          have e : g = b := e
          rw [e] at hg
          rcases hg with hg | hg
          · exact nb_ hg
          · have hg : w3.heap.size ≤ b := hg
            have := lb.1
            omega
        refine ⟨_, rfl, rfl, ?_, fun _ => ⟨w2.heap.size, by omega, by omega, ⟨_, _, _, rq, rc, c5, D5, C5, ro5, R5, fun h0 a e => ⟨.inl (h6 h0 a e).1, (h6 h0 a e).2.1, fun hh => ?_, fun hh => ?_⟩, fun i hi => ?_, fun i hi => ?_⟩, (B3.kp k4 nd).kp k5 (fun e => bd e.symm)⟩, fun hh => absurd rfl hh⟩
        · exact (((K2.trans k3.wide).then k4 fun i hi hh => (h7 i hh.1).1).trans (k5.mono fun i _ hi => by have hi : i = b := hi; rw [hi]; exact lb.2))
        · rcases hh.1 with hh | hh
          · exact (h6 h0 a e).2.2.1 hh
          · have := g6 h0 a e; omega
        · rcases hh with hh | hh
          · exact (h6 h0 a e).2.2.2 hh.1
          · have := g6 h0 a e
            have hh : w3.heap.size ≤ a.block := hh
            omega
        · rcases hi with hi | hi
          · exact ⟨.inl (h7 i hi.1).1, nO i hi⟩
          · have hi : w3.heap.size ≤ i := hi
            exact ⟨.inr ⟨by omega, by omega⟩, fun hh => by have := hh.2; omega⟩
        · rcases hi.1 with hh | hh
          · exact .inl (h8 i hh)
          · exact .inr ⟨by omega, by have := hi.2; omega⟩
end Go.Proofs.Ytlgkcbdpaffigaa

namespace Go.Proofs.Ytlgkcbdpaffigaa
open Go Go.SX Go.Proofs
set_option maxRecDepth 100000
set_option linter.unusedVariables false
set_option linter.unusedSimpArgs false
/-! ### A disk's state -/
/-- Sectors: how many, what each is now, whether something is safe, what is; what waits, with its sector's number. Bytes stand at their places in the file. -/
structure St where
  size : Nat
  now : Int → Int
  has : Nat → Bool
  safe : Int → Int
  wait : List (Nat × (Int → Int))
def isByte (x : Int) : Prop := 0 ≤ x ∧ x < 256
structure St.Ok (s : St) : Prop where
  size : s.size ≤ 4096
  now : ∀ p, isByte (s.now p)
  safe : ∀ p, isByte (s.safe p)
  wait : ∀ e ∈ s.wait, e.1 < s.size ∧ ∀ p, isByte (e.2 p)
/-- Every block of one's own has a colour; 0: not one's own. -/
abbrev Col := Nat → Nat
def cl (col : Col) (k : Nat) : Nat → Prop := fun i => col i = k
def ownC (col : Col) : Nat → Prop := fun i => col i ≠ 0
/-- Colours of new blocks come to those that were. -/
def Grow (col col' : Col) (w w' : World) : Prop := (∀ i, i < w.heap.size → col' i = col i) ∧ ∀ i, col' i ≠ 0 → i < w'.heap.size
theorem Grow.trans {col c1 c2 : Col} {w w1 w2 : World} (h : Grow col c1 w w1) (k : Grow c1 c2 w1 w2) (hs : w.heap.size ≤ w1.heap.size) : Grow col c2 w w2 :=
  ⟨fun i hi => (k.1 i (by omega)).trans (h.1 i hi), k.2⟩
theorem Grow.refl {col : Col} {w w' : World} (h : ∀ i, col i ≠ 0 → i < w.heap.size) (hs : w.heap.size ≤ w'.heap.size) : Grow col col w w' := ⟨fun _ _ => rfl, fun i hi => Nat.lt_of_lt_of_le (h i hi) hs⟩
def byF (f : Int → Int) (n : Nat) : List Value := (List.range n).map fun i : Nat => .int .u8 (f i)
theorem byF_len (f : Int → Int) (n : Nat) : (byF f n).length = n := by simp [byF]
theorem byF_get (f : Int → Int) {n i : Nat} (h : i < n) : (byF f n)[i]? = some (.int .u8 (f i)) := by simp [byF, h]
/-- A sector's bytes, in a block that nobody changes. -/
def Sec (w : World) (col : Col) (a : Addr) (f : Int → Int) : Prop := col a.block = 5 ∧ ∀ j : Nat, j < 512 → w.cell? (a.add j) = some (.int .u8 (f j))
def secAt (f : Int → Int) (i : Nat) : Int → Int := fun j => f (512 * i + j)
structure Dsk (w : World) (col : Col) (D : Nat) (s : St) : Prop where
  colD : col D = 1
  lt : ∀ i, col i ≠ 0 → i < w.heap.size
  frz : ∀ o, w.frozen? ⟨D, o, none⟩ = false
  now : ∃ q c, w.cell? ⟨D, 0, none⟩ = some (.slice q (512 * s.size) c) ∧ OwnRow w (cl col 2) 5 1 (.slice q (512 * s.size) c) (512 * s.size) (byF s.now (512 * s.size))
  safe : ∃ q c xs, w.cell? ⟨D, 1, none⟩ = some (.slice q s.size c) ∧ OwnRow w (cl col 3) 25 1 (.slice q s.size c) s.size xs ∧
    ∀ i, i < s.size → (s.has i = false → xs[i]? = some (.slice none 0 0)) ∧ (s.has i = true → ∃ a c', xs[i]? = some (.slice (some a) 512 c') ∧ 512 ≤ c' ∧ Sec w col a (secAt s.safe i))
  wait : ∃ q c xs, w.cell? ⟨D, 2, none⟩ = some (.slice q s.wait.length c) ∧ OwnRow w (cl col 4) 118 2 (.slice q s.wait.length c) s.wait.length xs ∧
    ∀ k e, s.wait[k]? = some e → ∃ a c', xs[k * 2]? = some (.int .i64 e.1) ∧ xs[k * 2 + 1]? = some (.slice (some a) 512 c') ∧ 512 ≤ c' ∧ Sec w col a (secAt e.2 e.1)
  ok : s.Ok
section
variable {w w' : World} {col : Col} {D : Nat} {s : St}
theorem Sec.kp {S : Nat → Prop} {a : Addr} {f : Int → Int} (h : Sec w col a f) (hk : Kp S w w') (hs : ∀ i, S i → col i ≠ 5) : Sec w' col a f :=
  ⟨h.1, fun j hj => hk.cell (h.2 j hj) (by rw [add_block]; exact fun hh => hs _ hh h.1)⟩
/-- Nothing of it was changed. -/
theorem Dsk.kp {S : Nat → Prop} (h : Dsk w col D s) (hk : Kp S w w') (hs : ∀ i, S i → col i = 0) : Dsk w' col D s := by
  have ne : ∀ i k, col i = k → k ≠ 0 → ¬ S i := fun i k e hk hh => hk (by rw [← e]; exact hs i hh)
  have hD : ¬ S D := ne D 1 h.colD (by omega)
  obtain ⟨q1, c1, n1, n2⟩ := h.now
  obtain ⟨q2, c2, xs, s1, s2, s3⟩ := h.safe
  obtain ⟨q3, c3, ys, t1, t2, t3⟩ := h.wait
  have hDl : D < w.heap.size := cell_lt n1
  refine ⟨h.colD, fun i hi => Nat.lt_of_lt_of_le (h.lt i hi) hk.size, fun o => (hk.frz ⟨D, o, none⟩ hDl).trans (h.frz o), ⟨q1, c1, hk.cell n1 hD, n2.kp hk fun g _ _ _ hg => ne g 2 hg (by omega)⟩,
    ⟨q2, c2, xs, hk.cell s1 hD, s2.kp hk fun g _ _ _ hg => ne g 3 hg (by omega), fun i hi => ⟨(s3 i hi).1, fun hh => ?_⟩⟩, ⟨q3, c3, ys, hk.cell t1 hD, t2.kp hk fun g _ _ _ hg => ne g 4 hg (by omega), fun k e he => ?_⟩, h.ok⟩
  · obtain ⟨a, c', x1, x2, x3⟩ := (s3 i hi).2 hh
    exact ⟨a, c', x1, x2, x3.kp hk fun j hj => by rw [hs j hj]; omega⟩
  · obtain ⟨a, c', x0, x1, x2, x3⟩ := t3 k e he
    exact ⟨a, c', x0, x1, x2, x3.kp hk fun j hj => by rw [hs j hj]; omega⟩
theorem Dsk.kp0 (h : Dsk w col D s) (hk : Kp none_ w w') : Dsk w' col D s := h.kp hk fun _ h => h.elim
theorem Dsk.drew (h : Dsk w col D s) : Dsk w.drew col D s := h.kp0 (Kp.refl none_ w).drew
def rightF (at_ n : Int) : Bool := decide (0 ≤ at_ ∧ 0 ≤ n ∧ n ≤ 2097152 ∧ at_ ≤ 2097152 - n)
theorem c63 (w : World) (at_ n : Int) : Rets Try.prog 63 #[.int .i64 at_, .int .i64 n] w fun v w' => v = .bool (rightF at_ n) ∧ w' = w := by
  refine ent [_, _] Try.func63 ((vcTry63 _ _ w _).mpr ?_)
  unfold VCTry63 rightF
  refine bif_dec (fun h => bif_dec (fun h1 => bif_dec (fun h2 => wr64 (by omega) ⟨_, rfl, ?_, rfl⟩) (fun h2 => ⟨_, rfl, ?_, rfl⟩)) (fun h1 => ⟨_, rfl, ?_, rfl⟩)) (fun h => ⟨_, rfl, ?_, rfl⟩)
  · congr 1; simp only [decide_eq_decide]; omega
  all_goals (congr 1; symm; simp only [decide_eq_false_iff_not]; omega)
theorem c95 (w : World) (at_ n : Int) : Rets Try.prog 95 #[.int .i64 at_, .int .i64 n] w fun v w' => v = .bool (rightF at_ n) ∧ w' = w := by
  refine ent [_, _] Try.func95 ((vcTry95 _ _ w _).mpr ?_)
  unfold VCTry95 rightF
  refine bif_dec (fun h => bif_dec (fun h1 => bif_dec (fun h2 => wr64 (by omega) ⟨_, rfl, ?_, rfl⟩) (fun h2 => ⟨_, rfl, ?_, rfl⟩)) (fun h1 => ⟨_, rfl, ?_, rfl⟩)) (fun h => ⟨_, rfl, ?_, rfl⟩)
  · congr 1; simp only [decide_eq_decide]; omega
  all_goals (congr 1; symm; simp only [decide_eq_false_iff_not]; omega)
theorem c67 (w : World) (n : Int) (h : 0 ≤ n ∧ n ≤ 4194304) : Rets Try.prog 67 #[.int .i64 n] w fun v w' => v = .int .i64 ((n + 511) / 512) ∧ w' = w := by
  refine ent [_] Try.func67 ((vcTry67 _ w _).mpr ?_)
  unfold VCTry67
  have e : (n + 512 - 1).tdiv 512 = (n + 511) / 512 := by rw [Int.tdiv_eq_ediv_of_nonneg (by omega)]; congr 1; omega
  refine wr64 (by omega) (wr64 (by omega) ⟨by omega, ?_⟩)
  rw [e]
  exact wr64 (by omega) ⟨_, rfl, rfl, rfl⟩
theorem c18 (h : Dsk w col D s) : Rets Try.prog 18 #[.pointer (some ⟨D, 0, none⟩)] w fun v w' => v = .int .i64 s.size ∧ w' = w := by
  refine ent [_] Try.func18 ((vcTry18 _ w _).mpr ?_)
  unfold VCTry18
  obtain ⟨q1, c1, n1, n2⟩ := h.now
  have hs := h.ok.size
  show cond false _ _
  simp only [cond_false, ptr_some, ad_add, Nat.zero_add]
  have e : ((512 * s.size : Nat) : Int).tdiv 512 = s.size := by rw [Int.tdiv_eq_ediv_of_nonneg (by omega)]; omega
  refine ⟨_, _, _, n1, by omega, ?_⟩
  rw [e]
  exact wr64 (by omega) ⟨_, rfl, rfl, trivial⟩
theorem c21 (h : Dsk w col D s) : Rets Try.prog 21 #[.pointer (some ⟨D, 0, none⟩)] w fun v w' => v = .int .i64 s.wait.length ∧ w' = w := by
  refine ent [_] Try.func21 ((vcTry21 _ w _).mpr ?_)
  unfold VCTry21
  obtain ⟨q3, c3, ys, t1, t2, t3⟩ := h.wait
  show cond false _ _
  simp only [cond_false, ptr_some, ad_add, Nat.zero_add]
  exact ⟨_, _, _, t1, _, rfl, rfl, trivial⟩
theorem maxI_max (a b : Int) : maxI a b = max a b := by unfold maxI; split <;> omega
/-- The size behind a write. -/
def needF (s : St) (at_ n : Int) : Int := if n = 0 then s.size else max s.size ((at_ + n + 511) / 512)
theorem c65 (h : Dsk w col D s) (at_ n : Int) : Rets Try.prog 65 #[.pointer (some ⟨D, 0, none⟩), .int .i64 at_, .int .i64 n] w fun v w' =>
    v = .tuple #[.int .i64 (if rightF at_ n = true then needF s at_ n else 0), .bool (rightF at_ n)] ∧ w' = w := by
  refine ent [_, _, _] Try.func65 ((vcTry65 _ _ _ w _).mpr ?_)
  unfold VCTry65
  have hs := h.ok.size
  show cond false _ _
  simp only [cond_false]
  refine (c63 w at_ n).mono ?_
  rintro v wx ⟨rfl, e⟩
  obtain rfl := e.symm
  refine ⟨_, rfl, (Kp.refl none_ _).keeps0, bif_not (fun hr => ⟨_, rfl, by rw [hr]; rfl, rfl⟩) (fun hr => ?_)⟩
  have hr' := hr
  unfold rightF at hr'
  have hr' := of_decide_eq_true hr'
  refine bif_eq (fun h0 => (c18 h).mono ?_) (fun h0 => (c18 h).mono ?_)
  · rintro v wx ⟨rfl, e⟩
    obtain rfl := e.symm
    refine ⟨_, rfl, (Kp.refl none_ _).keeps0, _, rfl, ?_, rfl⟩
    rw [hr, if_pos rfl]
    unfold needF
    rw [if_pos h0]
  · rintro v wx ⟨rfl, e⟩
    obtain rfl := e.symm
    refine ⟨_, rfl, (Kp.refl none_ _).keeps0, wr64 (by omega) ((c67 w (at_ + n) (by omega)).mono ?_)⟩
    rintro v wx ⟨rfl, e⟩
    obtain rfl := e.symm
    refine ⟨_, rfl, (Kp.refl none_ _).keeps0, _, rfl, ?_, rfl⟩
    rw [hr, if_pos rfl, maxI_max]
    unfold needF
    rw [if_neg h0]
/-- A sector as a slice of the row. -/
theorem c62 (h : Dsk w col D s) (i : Nat) (hi : i < s.size) : Rets Try.prog 62 #[.pointer (some ⟨D, 0, none⟩), .int .i64 i] w fun v w' =>
    (∃ g c, w.cell? ⟨D, 0, none⟩ = some (.slice (some ⟨g, 0, none⟩) (512 * s.size) c) ∧ col g = 2 ∧ v = .slice (cutA (some ⟨g, 0, none⟩) (512 * (i + 1)) (512 * i) 1) 512 512 ∧ v = .slice (some ⟨g, 512 * i, none⟩) 512 512) ∧ w' = w := by
  refine ent [_, _] Try.func62 ((vcTry62 _ _ w _).mpr ?_)
  unfold VCTry62
  obtain ⟨q1, c1, n1, n2⟩ := h.now
  have hs := h.ok.size
  obtain ⟨g, cur, rfl, _, hg, _, hc, _⟩ := n2.parts (by omega)
  refine wr64 (by omega) (wr64 (by omega) (wr64 (by omega) ?_))
  simp only [ptr_some, ad_add, Nat.zero_add]
  have e1 : (((i : Int) + 1) * 512).toNat = 512 * (i + 1) := by omega
  have e2 : ((i : Int) * 512).toNat = 512 * i := by omega
  refine ⟨_, _, _, n1, by omega, ⟨by omega, ?_⟩, by omega, ?_⟩
  · show _ ≤ (((((i : Int) + 1) * 512).toNat : Nat) : Int)
    omega
  · rw [e1, e2]
    refine ⟨_, rfl, ⟨g, c1, n1, hg, ?_, ?_⟩, trivial⟩
    · congr 1 <;> omega
    · have : cutA (some ⟨g, 0, none⟩) (512 * (i + 1)) (512 * i) 1 = some ⟨g, 512 * i, none⟩ := by
        unfold cutA
        rw [if_neg (by omega)]
        simp [ad_add]
      rw [this]
      congr 1 <;> omega
end
end Go.Proofs.Ytlgkcbdpaffigaa

namespace Go.Proofs.Ytlgkcbdpaffigaa
open Go Go.SX Go.Proofs
set_option maxRecDepth 100000
set_option linter.unusedVariables false
set_option linter.unusedSimpArgs false
/-- A row's new block gets the row's colour. -/
theorem recolor {w w' : World} {col : Col} {k : Nat} {e : TypeId} {size : Nat} {v : Value} {n : Nat} {xs : List Value} (lt : ∀ i, col i ≠ 0 → i < w.heap.size) (hs : w.heap.size ≤ w'.heap.size) (h : OwnRow w' (fun i => cl col k i ∨ fresh w i) e size v n xs) :
    ∃ col', (∀ i, i < w.heap.size → col' i = col i) ∧ (∀ i, col' i ≠ 0 → i < w.heap.size ∨ (col' i = k ∧ i < w'.heap.size)) ∧ OwnRow w' (cl col' k) e size v n xs := by
  rcases h.2 with ⟨h1, h2⟩ | ⟨g, cap, cur, h1, h2, h3, h4⟩
  · exact ⟨fun i => if i < w.heap.size then col i else 0, fun i hi => if_pos hi, fun i hi => by by_cases h : i < w.heap.size; exact .inl h; simp [h] at hi, h.1, .inl ⟨h1, h2⟩⟩
  · have gl := (Array.getElem?_eq_some_iff.1 h3).1
    refine ⟨fun i => if i < w.heap.size then col i else if i = g then k else 0, fun i hi => if_pos hi, fun i hi => ?_, h.1, .inr ⟨g, cap, cur, h1, ?_, h3, h4⟩⟩
    · by_cases h : i < w.heap.size
      · exact .inl h
      · by_cases e : i = g
        · subst e
          exact .inr ⟨by simp [h], gl⟩
        · simp [h, e] at hi
    · show (if g < w.heap.size then col g else if g = g then k else 0) = k
      by_cases hg : g < w.heap.size
      · rw [if_pos hg]
        rcases h2 with h2 | h2
        · exact h2
        · unfold fresh at h2; omega
      · rw [if_neg hg, if_pos rfl]
section
variable {w w' : World} {col col' : Col} {D : Nat} {s : St} {S : Nat → Prop}
theorem OwnRow.kpc {k : Nat} {e : TypeId} {size : Nat} {v : Value} {n : Nat} {xs : List Value} (h : OwnRow w (cl col k) e size v n xs) (hk : Kp S w w') (hs : ∀ i, i < w.heap.size → S i → col i ≠ k) (hc : ∀ i, i < w.heap.size → col' i = col i) : OwnRow w' (cl col' k) e size v n xs := by
  rcases h.2 with ⟨h1, h2⟩ | ⟨g, cap, cur, h1, h2, h3, h4⟩
  · exact ⟨h.1, .inl ⟨h1, h2⟩⟩
  · have gl := (Array.getElem?_eq_some_iff.1 h3).1
    exact ⟨h.1, .inr ⟨g, cap, cur, h1, (hc g gl).trans h2, (hk.same g gl fun hh => hs g gl hh h2).trans h3, h4⟩⟩
theorem Sec.kpc {a : Addr} {f : Int → Int} (h : Sec w col a f) (hk : Kp S w w') (hs : ∀ i, i < w.heap.size → S i → col i ≠ 5) (hc : ∀ i, i < w.heap.size → col' i = col i) : Sec w' col' a f := by
  have gl : a.block < w.heap.size := by have := cell_lt (h.2 0 (by omega)); rwa [add_block] at this
  exact ⟨(hc _ gl).trans h.1, fun j hj => hk.cell (h.2 j hj) (by rw [add_block]; exact fun hh => hs _ gl hh h.1)⟩
theorem Dsk.nowK (h : Dsk w col D s) (hk : Kp S w w') (hs : ∀ i, i < w.heap.size → S i → col i ≠ 2) (hc : ∀ i, i < w.heap.size → col' i = col i) (hd : ∀ v, w.cell? ⟨D, 0, none⟩ = some v → w'.cell? ⟨D, 0, none⟩ = some v) :
    ∃ q c, w'.cell? ⟨D, 0, none⟩ = some (.slice q (512 * s.size) c) ∧ OwnRow w' (cl col' 2) 5 1 (.slice q (512 * s.size) c) (512 * s.size) (byF s.now (512 * s.size)) := by
  obtain ⟨q, c, h1, h2⟩ := h.now
  exact ⟨q, c, hd _ h1, OwnRow.kpc h2 hk hs hc⟩
theorem Dsk.safeK (h : Dsk w col D s) (hk : Kp S w w') (hs : ∀ i, i < w.heap.size → S i → col i ≠ 3 ∧ col i ≠ 5) (hc : ∀ i, i < w.heap.size → col' i = col i) (hd : ∀ v, w.cell? ⟨D, 1, none⟩ = some v → w'.cell? ⟨D, 1, none⟩ = some v) :
    ∃ q c xs, w'.cell? ⟨D, 1, none⟩ = some (.slice q s.size c) ∧ OwnRow w' (cl col' 3) 25 1 (.slice q s.size c) s.size xs ∧
    ∀ i, i < s.size → (s.has i = false → xs[i]? = some (.slice none 0 0)) ∧ (s.has i = true → ∃ a c', xs[i]? = some (.slice (some a) 512 c') ∧ 512 ≤ c' ∧ Sec w' col' a (secAt s.safe i)) := by
  obtain ⟨q, c, xs, h1, h2, h3⟩ := h.safe
  refine ⟨q, c, xs, hd _ h1, OwnRow.kpc h2 hk (fun i hi hh => (hs i hi hh).1) hc, fun i hi => ⟨(h3 i hi).1, fun hh => ?_⟩⟩
  obtain ⟨a, c', x1, x2, x3⟩ := (h3 i hi).2 hh
  exact ⟨a, c', x1, x2, Sec.kpc x3 hk (fun i hi hh => (hs i hi hh).2) hc⟩
theorem Dsk.waitK (h : Dsk w col D s) (hk : Kp S w w') (hs : ∀ i, i < w.heap.size → S i → col i ≠ 4 ∧ col i ≠ 5) (hc : ∀ i, i < w.heap.size → col' i = col i) (hd : ∀ v, w.cell? ⟨D, 2, none⟩ = some v → w'.cell? ⟨D, 2, none⟩ = some v) :
    ∃ q c xs, w'.cell? ⟨D, 2, none⟩ = some (.slice q s.wait.length c) ∧ OwnRow w' (cl col' 4) 118 2 (.slice q s.wait.length c) s.wait.length xs ∧
    ∀ k e, s.wait[k]? = some e → ∃ a c', xs[k * 2]? = some (.int .i64 e.1) ∧ xs[k * 2 + 1]? = some (.slice (some a) 512 c') ∧ 512 ≤ c' ∧ Sec w' col' a (secAt e.2 e.1) := by
  obtain ⟨q, c, xs, h1, h2, h3⟩ := h.wait
  refine ⟨q, c, xs, hd _ h1, OwnRow.kpc h2 hk (fun i hi hh => (hs i hi hh).1) hc, fun k e he => ?_⟩
  obtain ⟨a, c', x0, x1, x2, x3⟩ := h3 k e he
  exact ⟨a, c', x0, x1, x2, Sec.kpc x3 hk (fun i hi hh => (hs i hi hh).2) hc⟩
theorem Dsk.dlt (h : Dsk w col D s) : D < w.heap.size := h.lt D (by rw [h.colD]; omega)
theorem info5 : ∃ i, Try.prog.info? 5 = some i ∧ i.zero = some (.int .u8 0) ∧ i.size = 1 ∧ i.bytes = 1 := by
  have h : (Try.prog.info? 5).map (fun i => (i.zero, i.size, i.bytes)) = some (some (.int .u8 0), 1, 1) := by kernel_rfl
  obtain ⟨i, hi, hh⟩ := Option.map_eq_some_iff.1 h
  simp only [Prod.mk.injEq] at hh
  exact ⟨i, hi, hh⟩
theorem info25 : ∃ i, Try.prog.info? 25 = some i ∧ i.zero = some (.slice none 0 0) ∧ i.size = 1 ∧ i.bytes = 24 := by
  have h : (Try.prog.info? 25).map (fun i => (i.zero, i.size, i.bytes)) = some (some (.slice none 0 0), 1, 24) := by kernel_rfl
  obtain ⟨i, hi, hh⟩ := Option.map_eq_some_iff.1 h
  simp only [Prod.mk.injEq] at hh
  exact ⟨i, hi, hh⟩
theorem elem5 : elemOk Try.prog 5 1 = true := by kernel_rfl
theorem elem118 : elemOk Try.prog 118 2 = true := by kernel_rfl
/-- A disk, grown. -/
def growSt (s : St) (m : Nat) : St := if s.size < m then { s with size := m, now := fun p => if p < 512 * s.size then s.now p else 0, has := fun i => if i < s.size then s.has i else false } else s
theorem byF_grow (f : Int → Int) (n k : Nat) : byF (fun p => if p < (n : Int) then f p else 0) (n + k) = byF f n ++ List.replicate k (.int .u8 0) := by
  apply List.ext_getElem
  · simp [byF]
  · intro i h1 h2
    simp only [byF_len] at h1
    by_cases h : i < n
    · rw [List.getElem_append_left (by rw [byF_len]; exact h)]
      simp only [byF, List.getElem_map, List.getElem_range]
      rw [if_pos (by omega)]
    · rw [List.getElem_append_right (by rw [byF_len]; omega)]
      simp only [byF, List.getElem_map, List.getElem_range, List.getElem_replicate]
      rw [if_neg (by omega)]
theorem c66 (h : Dsk w col D s) (m : Nat) (hm : m ≤ 4096) : Rets Try.prog 66 #[.pointer (some ⟨D, 0, none⟩), .int .i64 m] w fun v w' =>
    v = .tuple #[] ∧ Kp (ownC col) w w' ∧ ∃ col', Grow col col' w w' ∧ Dsk w' col' D (growSt s m) := by
  refine ent [_, _] Try.func66 ((vcTry66 _ _ w _).mpr ?_)
  unfold VCTry66
  have hs := h.ok.size
  refine (c18 h).mono ?_
  rintro v wx ⟨rfl, e⟩
  obtain rfl := e.symm
  refine ⟨_, rfl, (Kp.refl none_ _).keeps0, wr64 (by omega) (bif_dec (fun hlt => ?_) (fun hge => ?_))⟩
  rotate_left
  · refine ⟨_, rfl, rfl, Kp.refl _ _, col, Grow.refl h.lt (Nat.le_refl _), ?_⟩
    unfold growSt
    rw [if_neg (by omega)]
    exact h
  obtain ⟨k, hk⟩ : ∃ k : Nat, m = s.size + k := ⟨m - s.size, by omega⟩
  have hk0 : 0 < k := by omega
  subst hk
  obtain ⟨q1, c1, n1, n2⟩ := h.now
  simp only [ptr_some, ad_add, Nat.zero_add, Nat.add_zero]
  have e1 : (((s.size + k : Nat) : Int) - s.size) * 512 = ((512 * k : Nat) : Int) := by omega
  have e2 : ((s.size + k : Nat) : Int) - s.size = (k : Int) := by omega
  refine ⟨_, _, _, n1, wr64 (by omega) ?_⟩
  rw [e1]
  refine zeros_own (own := cl col 2) (size := 1) (bytes := 1) (z := .int .u8 0) Try.underlying25 Try.underlying3 info5 rfl (by omega) (by omega) (fun u hu => ?_) n2 (by omega) (by omega) (fun q2 c2 w2 r2 k2 => ?_)
  · rw [zerosL_one rfl] at hu
    rw [List.eq_of_mem_replicate hu]
    simp [Value.oneCell']
  have z2 := k2.size
  have hD := h.dlt
  have hD2 : ¬ cl col 2 D := fun hh => by have := h.colD; unfold cl at hh; omega
  have fz2 : ∀ o, w2.frozen? ⟨D, o, none⟩ = false := fun o => (k2.frz ⟨D, o, none⟩ hD).trans (h.frz o)
  refine ⟨_, _, _, rfl, k2.keeps0, ⟨_, k2.cell n1 hD2⟩, fz2 0, ?_⟩
  rw [zerosL_one rfl, ← byF_grow] at r2
  have r2' : OwnRow w2 (fun i => cl col 2 i ∨ fresh w i) 5 1 (.slice q2 (512 * (s.size + k)) c2) (512 * (s.size + k)) (byF (fun p => if p < ((512 * s.size : Nat) : Int) then s.now p else 0) (512 * (s.size + k))) := by
    rw [Nat.mul_add]; exact r2
  rw [← Nat.mul_add]
  obtain ⟨col2, g1, g2, r3⟩ := recolor h.lt z2 r2'
  have kD : Kp (one_ D) w2 (w2.setCell ⟨D, 0, none⟩ (.slice q2 (512 * (s.size + k)) c2)) := Kp.setCell (S := one_ D) (x := ⟨D, 0, none⟩) (Kp.refl (one_ D) w2) _ (.inl rfl)
  have k23 : Kp (fun i => col i = 2 ∨ i = D) w (w2.setCell ⟨D, 0, none⟩ (.slice q2 (512 * (s.size + k)) c2)) := (k2.mono fun _ _ h => .inl h).trans (kD.mono fun _ _ h => .inr h)
  have cD0 : (w2.setCell ⟨D, 0, none⟩ (.slice q2 (512 * (s.size + k)) c2)).cell? ⟨D, 0, none⟩ = some (.slice q2 (512 * (s.size + k)) c2) := cell_set_same _ (k2.cell n1 hD2)
  have cDo : ∀ o v, o ≠ 0 → w.cell? ⟨D, o, none⟩ = some v → (w2.setCell ⟨D, 0, none⟩ (.slice q2 (512 * (s.size + k)) c2)).cell? ⟨D, o, none⟩ = some v := fun o v ho hv => by rw [cell_set_off _ (Ne.symm ho)]; exact k2.cell hv hD2
  have fz3 : ∀ o, (w2.setCell ⟨D, 0, none⟩ (.slice q2 (512 * (s.size + k)) c2)).frozen? ⟨D, o, none⟩ = false := fun o => by rw [frozen_set]; exact fz2 o
  have s3 : (w2.setCell ⟨D, 0, none⟩ (.slice q2 (512 * (s.size + k)) c2)).heap.size = w2.heap.size := by simp [World.setCell]
  have ne : ∀ i c, (col i = 2 ∨ i = D) → c ≠ 1 → c ≠ 2 → col i ≠ c := fun i c hi h1 h2 => by
    rcases hi with hi | hi
    · omega
    · rw [hi, h.colD]; omega
  obtain ⟨q3, c3, xs, t1, t2, t3⟩ := h.safeK (col' := col2) k23 (fun i _ hh => ⟨ne i 3 hh (by omega) (by omega), ne i 5 hh (by omega) (by omega)⟩) g1 (cDo 1 · (by omega))
  have hw3 := h.waitK (col' := col2) k23 (fun i _ hh => ⟨ne i 4 hh (by omega) (by omega), ne i 5 hh (by omega) (by omega)⟩) g1 (cDo 2 · (by omega))
  have r3D := OwnRow.kpc (col' := col2) r3 kD (fun i _ hh => by have e : i = D := hh; rw [e, g1 D hD, h.colD]; omega) (fun _ _ => rfl)
  generalize w2.setCell ⟨D, 0, none⟩ (.slice q2 (512 * (s.size + k)) c2) = w3 at *
  have lt2 : ∀ i, col2 i ≠ 0 → i < w3.heap.size := fun i hi => by rcases g2 i hi with h | h <;> omega
  refine ⟨_, _, _, t1, ?_⟩
  rw [e2]
  refine zeros_own (own := cl col2 3) (size := 1) (bytes := 24) (z := .slice none 0 0) Try.underlying26 Try.underlying3 info25 rfl (by omega) (by omega) (fun u hu => ?_) t2 (by omega) (by omega) (fun q4 c4 w4 r4 k4 => ?_)
  · rw [zerosL_one rfl] at hu
    rw [List.eq_of_mem_replicate hu]
    simp [Value.oneCell']
  have z4 := k4.size
  have hD3 : D < w3.heap.size := by omega
  have hcD : col2 D = 1 := (g1 D hD).trans h.colD
  have hD4 : ¬ cl col2 3 D := fun hh => by unfold cl at hh; omega
  have fz4 : ∀ o, w4.frozen? ⟨D, o, none⟩ = false := fun o => (k4.frz ⟨D, o, none⟩ hD3).trans (fz3 o)
  refine ⟨_, _, _, rfl, k4.keeps0, ⟨_, k4.cell t1 hD4⟩, fz4 1, ?_⟩
  rw [zerosL_one rfl] at r4
  obtain ⟨col4, g5, g6, r5⟩ := recolor lt2 z4 r4
  have kE : Kp (one_ D) w4 (w4.setCell ⟨D, 1, none⟩ (.slice q4 (s.size + k) c4)) := Kp.setCell (S := one_ D) (x := ⟨D, 1, none⟩) (Kp.refl (one_ D) w4) _ (.inl rfl)
  have k35 : Kp (fun i => col2 i = 3 ∨ i = D) w3 (w4.setCell ⟨D, 1, none⟩ (.slice q4 (s.size + k) c4)) := (k4.mono fun _ _ h => .inl h).trans (kE.mono fun _ _ h => .inr h)
  have ne2 : ∀ i c, (col2 i = 3 ∨ i = D) → c ≠ 1 → c ≠ 3 → col2 i ≠ c := fun i c hi h1 h2 => by
    rcases hi with hi | hi
    · omega
    · rw [hi, hcD]; omega
  have cEo : ∀ o v, o ≠ 1 → w3.cell? ⟨D, o, none⟩ = some v → (w4.setCell ⟨D, 1, none⟩ (.slice q4 (s.size + k) c4)).cell? ⟨D, o, none⟩ = some v := fun o v ho hv => by rw [cell_set_off _ (Ne.symm ho)]; exact k4.cell hv hD4
  have gr : growSt s (s.size + k) = { s with size := s.size + k, now := fun p => if p < 512 * s.size then s.now p else 0, has := fun i => if i < s.size then s.has i else false } := if_pos (by omega)
  have kAll : Kp (ownC col) w (w4.setCell ⟨D, 1, none⟩ (.slice q4 (s.size + k) c4)) := by
    refine (k23.mono fun i _ hi => ?_).then k35 fun i hi hh => ?_
    · rcases hi with hi | hi
      · unfold ownC; omega
      · unfold ownC; rw [hi, h.colD]; omega
    · unfold ownC
      rcases hh with hh | hh
      · rw [g1 i hi] at hh; omega
      · rw [hh, h.colD]; omega
  refine ⟨_, rfl, rfl, kAll, col4, ⟨fun i hi => (g5 i (by omega)).trans (g1 i hi), fun i hi => ?_⟩, ?_⟩
  · have : (w4.setCell ⟨D, 1, none⟩ (.slice q4 (s.size + k) c4)).heap.size = w4.heap.size := by simp [World.setCell]
    rcases g6 i hi with h | h <;> omega
  rw [gr]
  refine ⟨(g5 D hD3).trans hcD, fun i hi => ?_, fun o => by rw [frozen_set]; exact fz4 o, ⟨q2, c2, cEo 0 _ (by omega) cD0, ?_⟩, ⟨q4, c4, xs ++ List.replicate k (.slice none 0 0), cell_set_same _ (k4.cell t1 hD4), OwnRow.kpc r5 kE (fun i _ hh => by have e : i = D := hh; rw [e, g5 D hD3, hcD]; omega) (fun _ _ => rfl), fun i hi => ?_⟩, ?_, ⟨hm, fun p => ?_, h.ok.safe, fun e he => ⟨?_, (h.ok.wait e he).2⟩⟩⟩
  · have : (w4.setCell ⟨D, 1, none⟩ (.slice q4 (s.size + k) c4)).heap.size = w4.heap.size := by simp [World.setCell]
    rcases g6 i hi with h | h <;> omega
  · have e : ((512 * s.size : Nat) : Int) = 512 * (s.size : Int) := by omega
    rw [e] at r3D
    exact OwnRow.kpc r3D k35 (fun i _ hh => ne2 i 2 hh (by omega) (by omega)) g5
  · have hxl : xs.length = s.size := by have := t2.1; omega
    by_cases hi' : i < s.size
    · have := t3 i hi'
      simp only [hi', if_true]
      rw [List.getElem?_append_left (by omega)]
      refine ⟨this.1, fun hh => ?_⟩
      obtain ⟨a, c', x1, x2, x3⟩ := this.2 hh
      exact ⟨a, c', x1, x2, Sec.kpc x3 k35 (fun i _ hh => ne2 i 5 hh (by omega) (by omega)) g5⟩
    · simp only [hi', if_false]
      have hi : i < s.size + k := hi
      refine ⟨fun _ => ?_, fun h => (by cases h)⟩
      rw [List.getElem?_append_right (by omega), List.getElem?_replicate, if_pos (by omega)]
  · obtain ⟨q6, c6, ys, u1, u2, u3⟩ := hw3
    refine ⟨q6, c6, ys, cEo 2 _ (by omega) u1, OwnRow.kpc u2 k35 (fun i _ hh => ne2 i 4 hh (by omega) (by omega)) g5, fun j e he => ?_⟩
    obtain ⟨a, c', x0, x1, x2, x3⟩ := u3 j e he
    exact ⟨a, c', x0, x1, x2, Sec.kpc x3 k35 (fun i _ hh => ne2 i 5 hh (by omega) (by omega)) g5⟩
  · show isByte (if _ then _ else _)
    split
    · exact h.ok.now p
    · unfold isByte; omega
  · have := (h.ok.wait e he).1
    show e.1 < s.size + k
    omega
end
end Go.Proofs.Ytlgkcbdpaffigaa

namespace Go.Proofs.Ytlgkcbdpaffigaa
open Go Go.SX Go.Proofs
set_option maxRecDepth 100000
set_option linter.unusedVariables false
set_option linter.unusedSimpArgs false
section
variable {w w' : World} {col col' : Col} {D : Nat} {s : St} {S : Nat → Prop}
/-- An element of a row of one's own is set. -/
theorem OwnRow.setAt {own : Nat → Prop} {e : TypeId} {q : Option Addr} {n c : Nat} {xs : List Value} (h : OwnRow w own e 1 (.slice q n c) n xs) {i : Nat} (hi : i < n) :
    ∃ g, q = some ⟨g, 0, none⟩ ∧ own g ∧ (∃ u, w.cell? ⟨g, i, none⟩ = some u) ∧ w.frozen? ⟨g, i, none⟩ = false ∧ ∀ v, OwnRow (w.setCell ⟨g, i, none⟩ v) own e 1 (.slice q n c) n (xs.set i v) ∧ Kp own w (w.setCell ⟨g, i, none⟩ v) := by
  obtain ⟨g, cur, rfl, _, ho, hg, hnc, hcm, hcs, ht⟩ := h.parts (by omega)
  have hxl : xs.length = n := by have := h.1; omega
  refine ⟨g, rfl, ho, ⟨cur[i]'(by omega), ?_⟩, ?_, fun v => ⟨⟨by simp [hxl], .inr ⟨g, c, cur.setIfInBounds i v, rfl, ho, heap_setCell_same w g i cur e v hg, hnc, hcm, by simp [hcs], ?_⟩⟩, Kp.setCell (Kp.refl own w) v (.inl ho)⟩⟩
  · simp only [World.cell?, hg]
    exact Array.getElem?_eq_getElem _
  · simp only [World.frozen?, hg]
    simp
  · rw [← ht, Nat.mul_one]
    simp only [Array.toList_setIfInBounds, List.take_set]
/-- A sector's bytes, where the slice says. -/
theorem Dsk.sector (h : Dsk w col D s) {i : Nat} (hi : i < s.size) {g c : Nat} (hg : w.cell? ⟨D, 0, none⟩ = some (.slice (some ⟨g, 0, none⟩) (512 * s.size) c)) : ∀ j : Nat, j < 512 → w.cell? ⟨g, 512 * i + j, none⟩ = some (.int .u8 (secAt s.now i j)) := by
  intro j hj
  obtain ⟨q1, c1, n1, n2⟩ := h.now
  rw [hg] at n1
  cases n1
  obtain ⟨a, e, ha⟩ := n2.at (j := 512 * i + j) (u := .int .u8 (s.now ((512 * i + j : Nat) : Int))) (byF_get _ (by omega))
  cases e
  rw [ad_add, Nat.zero_add] at ha
  rw [ha]
  unfold secAt
  congr 3
/-- What 'strange' says. -/
def strangeF (i : Nat) (fill : Int) (j : Int) : Int := (fill + 7 * i + j) % 256
theorem wrap8 (z : Int) : IntKind.wrap .u8 z = z % 256 := by simp [IntKind.wrap, IntKind.bits, IntKind.signed]
/-- What is safe of one more sector. -/
def setSafe (s : St) (i : Nat) (f : Int → Int) : St := { s with has := fun j => if j = i then true else s.has j, safe := fun p => if 512 * i ≤ p ∧ p < 512 * i + 512 then f (p - 512 * i) else s.safe p }
theorem setSafeK (h : Dsk w col D s) {i : Nat} (hi : i < s.size) {f : Int → Int} (hf : ∀ j, isByte (f j)) {w2 : World} (k2 : Kp none_ w w2) {g2 c2 : Nat} (hrow : OwnRow w2 (fresh w) 5 1 (.slice (some ⟨g2, 0, none⟩) 512 c2) 512 (byF f 512)) :
    ∃ q c, w2.cell? ⟨D, 1, none⟩ = some (.slice q s.size c) ∧ ∃ g, q = some ⟨g, 0, none⟩ ∧ (∃ u, w2.cell? ⟨g, i, none⟩ = some u) ∧ w2.frozen? ⟨g, i, none⟩ = false ∧
      Kp (ownC col) w (w2.setCell ⟨g, i, none⟩ (.slice (some ⟨g2, 0, none⟩) 512 c2)) ∧ ∃ col', Grow col col' w (w2.setCell ⟨g, i, none⟩ (.slice (some ⟨g2, 0, none⟩) 512 c2)) ∧ Dsk (w2.setCell ⟨g, i, none⟩ (.slice (some ⟨g2, 0, none⟩) 512 c2)) col' D (setSafe s i f) := by
  obtain ⟨q, c, xs, t1, t2, t3⟩ := h.safe
  have hD := h.dlt
  have z2 := k2.size
  obtain ⟨g, rfl, hg, hu, hfz, hset⟩ := OwnRow.setAt (t2.kp k2 fun _ _ _ _ _ => id) hi
  have hgc : col g = 3 := hg
  have gl : g < w.heap.size := h.lt g (by omega)
  have hfr : fresh w g2 ∧ g2 < w2.heap.size ∧ 512 ≤ c2 := by
    obtain ⟨g', cur, e, _, ho, hh, hc', _⟩ := hrow.parts (by omega)
    cases e
    exact ⟨ho, (Array.getElem?_eq_some_iff.1 hh).1, hc'⟩
  have hf2 : w.heap.size ≤ g2 := hfr.1
  refine ⟨_, c, k2.cell0 t1, g, rfl, hu, hfz, ?_⟩
  obtain ⟨r1, k3⟩ := hset (.slice (some ⟨g2, 0, none⟩) 512 c2)
  have s3 : (w2.setCell ⟨g, i, none⟩ (.slice (some ⟨g2, 0, none⟩) 512 c2)).heap.size = w2.heap.size := by simp [World.setCell]
  have k13 : Kp (one_ g) w (w2.setCell ⟨g, i, none⟩ (.slice (some ⟨g2, 0, none⟩) 512 c2)) := Kp.setCell (x := ⟨g, i, none⟩) (k2.mono fun _ _ h => h.elim) _ (.inl rfl)
  have k23 : Kp (one_ g) w2 (w2.setCell ⟨g, i, none⟩ (.slice (some ⟨g2, 0, none⟩) 512 c2)) := Kp.setCell (S := one_ g) (x := ⟨g, i, none⟩) (Kp.refl (one_ g) w2) _ (.inl rfl)
  let col' : Col := fun j => if j = g2 then 5 else col j
  have hc' : ∀ j, j < w.heap.size → col' j = col j := fun j hj => if_neg (by omega)
  have hDg : D ≠ g := fun e => by have h1 := h.colD; rw [e, hgc] at h1; omega
  have hd : ∀ o v, w.cell? ⟨D, o, none⟩ = some v → (w2.setCell ⟨g, i, none⟩ (.slice (some ⟨g2, 0, none⟩) 512 c2)).cell? ⟨D, o, none⟩ = some v := fun o v hv => k13.cell hv (fun e => hDg e)
  have ne : ∀ j k, one_ g j → k ≠ 3 → col j ≠ k := fun j k e hk => by have e : j = g := e; rw [e, hgc]; omega
  refine ⟨k13.mono fun j _ hj => by have e : j = g := hj; show col j ≠ 0; rw [e, hgc]; omega, col', ⟨hc', fun j hj => ?_⟩, ?_⟩
  · by_cases e : j = g2
    · rw [s3, e]; exact hfr.2.1
    · have : col j ≠ 0 := by simpa [col', e] using hj
      have := h.lt j this
      omega
  refine ⟨(hc' D hD).trans h.colD, fun j hj => ?_, fun o => by rw [frozen_set, k2.frz ⟨D, o, none⟩ hD]; exact h.frz o, h.nowK k13 (fun j _ e => ne j 2 e (by omega)) hc' (hd 0), ⟨_, c, xs.set i (.slice (some ⟨g2, 0, none⟩) 512 c2), hd 1 _ t1, ?_, fun j hj => ?_⟩, ?_, ⟨h.ok.size, h.ok.now, fun p => ?_, h.ok.wait⟩⟩
  · by_cases e : j = g2
    · rw [s3, e]; exact hfr.2.1
    · have : col j ≠ 0 := by simpa [col', e] using hj
      have := h.lt j this
      omega
  · refine r1.mono fun j hj hl => ?_
    have hj' : col j = 3 := hj
    have := h.lt j (by omega)
    exact (hc' j this).trans hj'
  · by_cases e : j = i
    · subst e
      refine ⟨fun hh => ?_, fun _ => ⟨⟨g2, 0, none⟩, c2, ?_, hfr.2.2, ?_, fun k hk => ?_⟩⟩
      · simp [setSafe] at hh
      · have hxl : xs.length = s.size := by have := t2.1; omega
        rw [List.getElem?_set_self (by omega)]
      · show col' g2 = 5
        exact if_pos rfl
      · obtain ⟨a, ea, ha⟩ := hrow.at (j := k) (u := .int .u8 (f k)) (byF_get _ hk)
        cases ea
        have hgg : g2 ≠ g := by omega
        have : (w2.setCell ⟨g, j, none⟩ (.slice (some ⟨g2, 0, none⟩) 512 c2)).cell? ((⟨g2, 0, none⟩ : Addr).add k) = some (.int .u8 (f k)) := k23.cell ha (by rw [add_block]; exact fun e => hgg e)
        rw [this]
        have : secAt (setSafe s j f).safe j k = f k := by
          unfold secAt setSafe
          dsimp only
          rw [if_pos (by omega)]
          congr 1; omega
        rw [this]
    · have := t3 j hj
      have e1 : (setSafe s i f).has j = s.has j := if_neg e
      rw [e1, List.getElem?_set_ne (fun h => e h.symm)]
      refine ⟨this.1, fun hh => ?_⟩
      obtain ⟨a, c', x1, x2, x3⟩ := this.2 hh
      refine ⟨a, c', x1, x2, ?_⟩
      have x4 := Sec.kpc (col' := col') x3 k13 (fun j _ e => ne j 5 e (by omega)) hc'
      refine ⟨x4.1, fun k hk => ?_⟩
      rw [x4.2 k hk]
      have : secAt (setSafe s i f).safe j k = secAt s.safe j k := by
        unfold secAt setSafe
        dsimp only
        rw [if_neg (by omega)]
      rw [this]
  · exact h.waitK k13 (fun j _ e => ⟨ne j 4 e (by omega), ne j 5 e (by omega)⟩) hc' (hd 2)
  · show isByte (if _ then _ else _)
    split
    · exact hf _
    · exact h.ok.safe p
end
end Go.Proofs.Ytlgkcbdpaffigaa

namespace Go.Proofs.Ytlgkcbdpaffigaa
open Go Go.SX Go.Proofs
set_option maxRecDepth 100000
set_option linter.unusedVariables false
set_option linter.unusedSimpArgs false
theorem byF_set (f : Int → Int) (n k : Nat) (x : Int) : (byF f n).set k (.int .u8 x) = byF (fun p => if p = (k : Int) then x else f p) n := by
  apply List.ext_getElem
  · simp [byF]
  · intro i h1 h2
    rw [List.getElem_set]
    simp only [byF, List.getElem_map, List.getElem_range]
    by_cases e : k = i
    · rw [if_pos e, if_pos (by omega)]
    · rw [if_neg e, if_neg (by omega)]
theorem byF_congr {f g : Int → Int} {n : Nat} (h : ∀ i : Nat, i < n → f i = g i) : byF f n = byF g n := by
  unfold byF
  apply List.map_congr_left
  intro i hi
  rw [h i (List.mem_range.1 hi)]
section
variable {w w' : World} {col col' : Col} {D : Nat} {s : St} {S : Nat → Prop}
/-- Only bytes of the row were changed. -/
theorem Dsk.nowSet (h : Dsk w col D s) {g c : Nat} {now' : Int → Int} (hD : w.cell? ⟨D, 0, none⟩ = some (.slice (some ⟨g, 0, none⟩) (512 * s.size) c)) (hk : Kp (cl col 2) w w') (hr : OwnRow w' (cl col 2) 5 1 (.slice (some ⟨g, 0, none⟩) (512 * s.size) c) (512 * s.size) (byF now' (512 * s.size))) (hb : ∀ p, isByte (now' p)) : Dsk w' col D { s with now := now' } := by
  have hd := h.dlt
  have nD : ¬ cl col 2 D := fun hh => by have := h.colD; unfold cl at hh; omega
  have ne : ∀ i k, cl col 2 i → k ≠ 2 → col i ≠ k := fun i k hi hk => by unfold cl at hi; omega
  exact ⟨h.colD, fun i hi => Nat.lt_of_lt_of_le (h.lt i hi) hk.size, fun o => (hk.frz ⟨D, o, none⟩ hd).trans (h.frz o), ⟨_, c, hk.cell hD nD, hr⟩, h.safeK hk (fun i _ hi => ⟨ne i 3 hi (by omega), ne i 5 hi (by omega)⟩) (fun _ _ => rfl) (fun v hv => hk.cell hv nD), h.waitK hk (fun i _ hi => ⟨ne i 4 hi (by omega), ne i 5 hi (by omega)⟩) (fun _ _ => rfl) (fun v hv => hk.cell hv nD), ⟨h.ok.size, hb, h.ok.safe, h.ok.wait⟩⟩
/-- A sector's bytes are others. -/
def setNow (s : St) (i : Nat) (f : Int → Int) : St := { s with now := fun p => if 512 * i ≤ p ∧ p < 512 * i + 512 then f (p - 512 * i) else s.now p }
theorem Dsk.nowRow (h : Dsk w col D s) {g c : Nat} (hD : w.cell? ⟨D, 0, none⟩ = some (.slice (some ⟨g, 0, none⟩) (512 * s.size) c)) : OwnRow w (cl col 2) 5 1 (.slice (some ⟨g, 0, none⟩) (512 * s.size) c) (512 * s.size) (byF s.now (512 * s.size)) := by
  obtain ⟨q, c', h1, h2⟩ := h.now
  rw [hD] at h1
  cases h1
  exact h2
theorem c64 (h : Dsk w col D s) {i : Nat} (hi : i < s.size) {g c : Nat} (hD : w.cell? ⟨D, 0, none⟩ = some (.slice (some ⟨g, 0, none⟩) (512 * s.size) c)) (fill : Int) (hf : isByte fill) :
    Rets Try.prog 64 #[.slice (some ⟨g, 512 * i, none⟩) 512 512, .int .i64 i, .int .u8 fill] w fun v w' => v = .tuple #[] ∧ Kp (cl col 2) w w' ∧ Dsk w' col D (setNow s i (strangeF i fill)) := by
  refine ent [_, _, _] Try.func64 ((vcTry64 _ _ _ _ _ w _).mpr ?_)
  unfold VCTry64
  have hs := h.ok.size
  refine ⟨fun j w' => (0 ≤ j ∧ j ≤ 512) ∧ Kp (cl col 2) w w' ∧ OwnRow w' (cl col 2) 5 1 (.slice (some ⟨g, 0, none⟩) (512 * s.size) c) (512 * s.size) (byF (fun p => if 512 * i ≤ p ∧ p < 512 * i + j then strangeF i fill (p - 512 * i) else s.now p) (512 * s.size)), fun j _ => (512 - j).toNat, ⟨by omega, Kp.refl _ _, ?_⟩, ?_⟩
  · rw [byF_congr (g := s.now) (fun k _ => if_neg (by omega))]
    exact h.nowRow hD
  rintro j w1 ⟨hj, k1, r1⟩
  refine bif_dec (fun hlt => ?_) (fun hge => ?_)
  rotate_left
  · refine ⟨_, rfl, rfl, k1, ?_⟩
    have : j = 512 := by omega
    subst this
    refine h.nowSet hD k1 r1 fun p => ?_
    show isByte (if _ then _ else _)
    split
    · exact ⟨Int.emod_nonneg _ (by decide), Int.emod_lt_of_pos _ (by decide)⟩
    · exact h.ok.now p
  obtain ⟨J, rfl⟩ := Int.eq_ofNat_of_zero_le hj.1
  obtain ⟨g', e, hog, hu, hfz, hset⟩ := OwnRow.setAt r1 (i := 512 * i + J) (by omega)
  cases e
  unfold isByte at hf
  refine wr64 (by omega) ?_
  simp only [Wr, wrap8, ptr_some, ad_add, Nat.mul_one, Nat.zero_add, Nat.add_zero, Int.toNat_natCast]
  obtain ⟨r2, k2⟩ := hset (.int .u8 (((fill + 7 * (i : Int) % 256) % 256 + (J : Int) % 256) % 256))
  have hw : IntKind.wrap .i64 ((J : Int) + 1) = J + 1 := wrap64 (by omega)
  rw [hw]
  refine ⟨by omega, hu, hfz, ⟨⟨by omega, k1.trans k2, ?_⟩, by first | omega | (dsimp only; omega)⟩⟩
  rw [byF_set] at r2
  rw [byF_congr (g := fun p => if p = ((512 * i + J : Nat) : Int) then (((fill + 7 * (i : Int) % 256) % 256 + (J : Int) % 256) % 256) else if 512 * (i : Int) ≤ p ∧ p < 512 * i + J then strangeF i fill (p - 512 * i) else s.now p)]
  · exact r2
  · intro k hk
    by_cases e : (k : Int) = ((512 * i + J : Nat) : Int)
    · rw [if_pos e, if_pos (by omega)]
      unfold strangeF
      omega
    · rw [if_neg e]
      by_cases e2 : 512 * (i : Int) ≤ k ∧ (k : Int) < 512 * i + J
      · rw [if_pos e2, if_pos (by omega)]
      · rw [if_neg e2, if_neg (by omega)]
/-- What is safe, up to a sector. -/
def syncTo (s : St) (k : Nat) : St := { s with has := fun j => if j < k then true else s.has j, safe := fun p => if 0 ≤ p ∧ p < 512 * k then s.now p else s.safe p }
def syncSt (s : St) : St := { syncTo s s.size with wait := [] }
theorem syncTo_next' (s : St) (k : Nat) : setSafe (syncTo s k) k (secAt s.now k) = syncTo s (k + 1) := by
  simp only [setSafe, syncTo, secAt, St.mk.injEq, true_and, and_true]
  refine ⟨funext fun j => ?_, funext fun p => ?_⟩
  · by_cases h1 : j = k
    · rw [if_pos h1, if_pos (by omega)]
    · rw [if_neg h1]
      by_cases h2 : j < k
      · rw [if_pos h2, if_pos (by omega)]
      · rw [if_neg h2, if_neg (by omega)]
  · by_cases h1 : 512 * (k : Int) ≤ p ∧ p < 512 * k + 512
    · rw [if_pos h1, if_pos (by omega)]; congr 1; omega
    · rw [if_neg h1]
      by_cases h2 : 0 ≤ p ∧ p < 512 * (k : Int)
      · rw [if_pos h2, if_pos (by omega)]
      · rw [if_neg h2, if_neg (by omega)]
theorem info5e : ∃ i, Try.prog.info? 5 = some i := by obtain ⟨i, h, _⟩ := info5; exact ⟨i, h⟩
/-- A sector's copy, in a block of its own. -/
theorem secCopy (h : Dsk w col D s) {i : Nat} (hi : i < s.size) {g c : Nat} (hD : w.cell? ⟨D, 0, none⟩ = some (.slice (some ⟨g, 0, none⟩) (512 * s.size) c)) {b0 : Addr} {K : Value → World → Prop}
    (hK : ∀ g2 c2 w2, OwnRow w2 (fresh w) 5 1 (.slice (some ⟨g2, 0, none⟩) 512 c2) 512 (byF (secAt s.now i) 512) → Kp none_ w w2 → K (.slice (some ⟨g2, 0, none⟩) 512 c2) w2) :
    Runs Try.prog (Builtin.append_ #[25, 25] 25 #[.slice (some b0) 0 0, .slice (some ⟨g, 512 * i, none⟩) 512 512]) w K := by
  refine lit_append (news := byF (secAt s.now i) 512) Try.underlying25 elem5 (byF_len _ _) (fun j u hj => ?_) (by omega) (by omega) hK
  have hj' : j < 512 := by have := (List.getElem?_eq_some_iff.1 hj).1; rwa [byF_len] at this
  rw [byF_get _ hj'] at hj
  cases hj
  rw [ad_add]
  exact h.sector hi hD j hj'
theorem c16 (h : Dsk w col D s) : Rets Try.prog 16 #[.pointer (some ⟨D, 0, none⟩)] w fun v w' => v = .tuple #[] ∧ Kp (ownC col) w w' ∧ ∃ col', Grow col col' w w' ∧ Dsk w' col' D (syncSt s) := by
  refine ent [_] Try.func16 ((vcTry16 _ w _).mpr ?_)
  unfold VCTry16
  have hs := h.ok.size
  obtain ⟨q0, c0, xs0, t0, _, _⟩ := h.safe
  show cond false _ _
  simp only [cond_false, ptr_some, ad_add, Nat.zero_add, Nat.add_zero]
  have s0 : syncTo s 0 = s := by
    obtain ⟨a, b, c, d, e⟩ := s
    simp only [syncTo, St.mk.injEq, true_and, and_true]
    exact ⟨funext fun j => if_neg (by omega), funext fun p => if_neg (by omega)⟩
  refine ⟨_, _, _, t0, fun i w' => ∃ k : Nat, i = k ∧ k ≤ s.size ∧ Kp (ownC col) w w' ∧ ∃ col', Grow col col' w w' ∧ Dsk w' col' D (syncTo s k), fun i _ => (s.size - i).toNat, ⟨0, rfl, by omega, Kp.refl _ _, col, Grow.refl h.lt (Nat.le_refl _), by rw [s0]; exact h⟩, ?_⟩
  rintro i w1 ⟨k, rfl, hk, k1, col1, gr1, h1⟩
  refine bif_dec (fun hlt => ?_) (fun hge => ?_)
  rotate_left
  · -- nothing waits
    have : k = s.size := by omega
    subst this
    obtain ⟨q4, c4, ys, u1, u2, u3⟩ := h1.wait
    have hd := h1.dlt
    have kD : Kp (one_ D) w1 (w1.setCell ⟨D, 2, none⟩ (.slice none 0 0)) := Kp.setCell (S := one_ D) (x := ⟨D, 2, none⟩) (Kp.refl (one_ D) w1) _ (.inl rfl)
    have ne : ∀ i c, one_ D i → c ≠ 1 → col1 i ≠ c := fun i c hi hc => by have e : i = D := hi; rw [e, h1.colD]; omega
    have cD : ∀ o v, o ≠ 2 → w1.cell? ⟨D, o, none⟩ = some v → (w1.setCell ⟨D, 2, none⟩ (.slice none 0 0)).cell? ⟨D, o, none⟩ = some v := fun o v ho hv => by rw [cell_set_off _ (Ne.symm ho)]; exact hv
    have sz : (w1.setCell ⟨D, 2, none⟩ (.slice none 0 0)).heap.size = w1.heap.size := by simp [World.setCell]
    refine ⟨⟨_, u1⟩, h1.frz 2, _, rfl, rfl, k1.then kD (fun i hi hh => ?_), col1, ⟨gr1.1, fun i hi => by rw [sz]; exact gr1.2 i hi⟩, ?_⟩
    · have e : i = D := hh
      show col i ≠ 0
      rw [← gr1.1 i hi, e, h1.colD]
      omega
    · exact ⟨h1.colD, fun i hi => by rw [sz]; exact h1.lt i hi, fun o => by rw [frozen_set]; exact h1.frz o, h1.nowK kD (fun i _ hi => ne i 2 hi (by omega)) (fun _ _ => rfl) (cD 0 · (by omega)), h1.safeK kD (fun i _ hi => ⟨ne i 3 hi (by omega), ne i 5 hi (by omega)⟩) (fun _ _ => rfl) (cD 1 · (by omega)), ⟨none, 0, [], cell_set_same _ u1, OwnRow.nil _ _ _ _, fun k e he => by simp [syncSt] at he⟩, ⟨h1.ok.size, h1.ok.now, h1.ok.safe, fun e he => by simp [syncSt] at he⟩⟩
  obtain ⟨q1, c1, xs, t1, t2, t3⟩ := h1.safe
  have hki : k < (syncTo s k).size := by show k < s.size; omega
  obtain ⟨qn, cn, n1, n2⟩ := h1.now
  obtain ⟨g, cur, rfl, _, hgc, _, hcn, _⟩ := n2.parts (by omega)
  -- the round's end
  have fin : ∀ w2 g2 c2, Kp none_ w1 w2 → OwnRow w2 (fresh w1) 5 1 (.slice (some ⟨g2, 0, none⟩) 512 c2) 512 (byF (secAt s.now k) 512) →
      w2.cell? ⟨D, 1, none⟩ = some (.slice q1 s.size c1) ∧ (0 ≤ (k : Int) ∧ (k : Int) < (s.size : Int)) ∧ Ptr q1 fun a27 => (∃ v28, w2.cell? ((a27.add ((k : Int).toNat * 1)).add 0) = some v28) ∧ w2.frozen? ((a27.add ((k : Int).toNat * 1)).add 0) = false ∧
        Wr .i64 ((k : Int) + 1) fun i29 => (∃ k' : Nat, i29 = k' ∧ k' ≤ s.size ∧ Kp (ownC col) w (w2.setCell ((a27.add ((k : Int).toNat * 1)).add 0) (.slice (some ⟨g2, 0, none⟩) 512 c2)) ∧ ∃ col', Grow col col' w (w2.setCell ((a27.add ((k : Int).toNat * 1)).add 0) (.slice (some ⟨g2, 0, none⟩) 512 c2)) ∧ Dsk (w2.setCell ((a27.add ((k : Int).toNat * 1)).add 0) (.slice (some ⟨g2, 0, none⟩) 512 c2)) col' D (syncTo s k')) ∧
          (s.size - i29).toNat < (s.size - (k : Int)).toNat := by
    intro w2 g2 c2 k2 r2
    obtain ⟨q', c', x1, g', rfl, x2, x3, x4, col2, x5, x6⟩ := setSafeK h1 hki (f := secAt s.now k) (fun j => h.ok.now _) k2 r2
    have e := x1.symm.trans (k2.cell0 t1)
    cases e
    rw [syncTo_next'] at x6
    simp only [ptr_some, ad_add, Nat.mul_one, Nat.zero_add, Nat.add_zero, Int.toNat_natCast]
    refine ⟨x1, by omega, x2, x3, wr64 (by omega) ⟨⟨k + 1, by omega, by omega, k1.then x4 (fun i hi hh => ?_), col2, gr1.trans x5 k1.size, x6⟩, by omega⟩⟩
    have hh : col1 i ≠ 0 := hh
    show col i ≠ 0
    rw [← gr1.1 i hi]
    exact hh
  have lit := fun (w2 : World) => lit_run (P := Try.prog) w2 Try.underlying25 info5e
  refine ⟨_, _, _, t1, ⟨_, _, lit w1.drew, _, _, _, rfl, (((Kp.refl none_ w1.drew).alloc _ _).keeps0), ?_⟩, ?_⟩
  · have ka : Kp none_ w1 (w1.drew.alloc (.cells #[] 5)) := (Kp.refl none_ w1).drew.alloc _ _
    have h2 := h1.kp0 ka
    refine ⟨cell_alloc _ t1, (c62 h2 k hki).mono ?_⟩
    rintro v wx ⟨⟨g', c', y1, y2, _, rfl⟩, e⟩
    obtain rfl := e.symm
    refine ⟨_, _, _, rfl, (Kp.refl none_ _).keeps0, ka.cell0 t1, secCopy h2 hki y1 fun g2 c2 w2 r2 k2 => ?_⟩
    obtain ⟨f1, f2⟩ := fin w2 g2 c2 (ka.trans k2) (r2.mono fun i hi _ => Nat.le_trans ka.size hi)
    exact ⟨_, _, _, rfl, k2.keeps0, f1, f2⟩
  · have h2 := h1.drew
    refine (c62 h2 k hki).mono ?_
    rintro v wx ⟨⟨g', c', y1, y2, _, rfl⟩, e⟩
    obtain rfl := e.symm
    have ka : Kp none_ w1.drew (w1.drew.alloc (.cells #[] 5)) := (Kp.refl none_ w1.drew).alloc _ _
    have h3 := h2.kp0 ka
    refine ⟨_, _, _, rfl, (Kp.refl none_ _).keeps0, t1, _, _, lit w1.drew, _, _, _, rfl, ka.keeps0, ka.cell0 t1, secCopy h3 hki (ka.cell0 y1) fun g2 c2 w2 r2 k2 => ?_⟩
    obtain ⟨f1, f2⟩ := fin w2 g2 c2 (((Kp.refl none_ w1).drew.trans ka).trans k2) (r2.mono fun i hi _ => Nat.le_trans ka.size hi)
    exact ⟨_, _, _, rfl, k2.keeps0, f1, f2⟩
end
end Go.Proofs.Ytlgkcbdpaffigaa

namespace Go.Proofs.Ytlgkcbdpaffigaa
open Go Go.SX Go.Proofs
set_option maxRecDepth 100000
set_option linter.unusedVariables false
set_option linter.unusedSimpArgs false
theorem ok5 (x : Int) : Value.oneCell' (.int .u8 x) = true := by simp [Value.oneCell']
theorem byF_one (f : Int → Int) (n : Nat) : ∀ u ∈ byF f n, u.oneCell' = true := fun u hu => by
  obtain ⟨i, _, rfl⟩ := List.mem_map.1 hu
  exact ok5 _
theorem cut0 (g c : Nat) : cutA (some ⟨g, 0, none⟩) c 0 1 = some ⟨g, 0, none⟩ := by
  unfold cutA
  split
  · rfl
  · simp [ad_add]
theorem cutn {g c o : Nat} (h : o ≠ c) : cutA (some ⟨g, 0, none⟩) c o 1 = some ⟨g, o, none⟩ := by
  unfold cutA
  rw [if_neg (by omega)]
  simp [ad_add]
/-- Bytes laid over others, in a row. -/
theorem byF_over (f g : Int → Int) (n o m : Nat) (h : o + m ≤ n) : (byF f n).take o ++ byF g m ++ (byF f n).drop (o + m) = byF (fun p => if (o : Int) ≤ p ∧ p < o + m then g (p - o) else f p) n := by
  apply List.ext_getElem
  · simp only [List.length_append, List.length_take, List.length_drop, byF_len]; omega
  · intro i h1 h2
    rw [byF_len] at h2
    simp only [byF, List.getElem_map, List.getElem_range]
    by_cases c1 : i < o
    · rw [List.getElem_append_left (by simp; omega), List.getElem_append_left (by simp; omega), List.getElem_take]
      simp only [List.getElem_map, List.getElem_range]
      rw [if_neg (by omega)]
    · by_cases c2 : i < o + m
      · rw [List.getElem_append_left (by simp; omega), List.getElem_append_right (by simp; omega)]
        simp only [List.getElem_map, List.getElem_range, List.length_take, List.length_map, List.length_range]
        rw [if_pos (by omega)]
        congr 2
        omega
      · rw [List.getElem_append_right (by simp; omega), List.getElem_drop]
        simp only [List.getElem_map, List.getElem_range, List.length_append, List.length_take, List.length_map, List.length_range]
        rw [if_neg (by omega)]
        congr 2
        omega
section
variable {w w' : World} {col col' : Col} {D : Nat} {s : St} {S : Nat → Prop}
/-- The bytes from a place on. -/
def readF (s : St) (at_ : Int) : Int → Int := fun p => if at_ + p < 512 * s.size then s.now (at_ + p) else 0
theorem c17 (h : Dsk w col D s) (at_ : Int) (n : Nat) (hr : rightF at_ n = true) (hn : n = 0 → s.size = 0) : Rets Try.prog 17 #[.pointer (some ⟨D, 0, none⟩), .int .i64 at_, .int .i64 n] w fun v w' =>
    ∃ q c, v = .tuple #[.slice q n c, .int .i64 0] ∧ Kp none_ w w' ∧ OwnRow w' (fresh w) 5 1 (.slice q n c) n (byF (readF s at_) n) := by
  refine ent [_, _, _] Try.func17 ((vcTry17 _ _ _ w _).mpr ?_)
  unfold VCTry17
  have hs := h.ok.size
  have hr' := hr
  unfold rightF at hr'
  have hr' := of_decide_eq_true hr'
  show cond false _ _
  simp only [cond_false]
  refine (c63 w at_ n).mono ?_
  rintro v wx ⟨rfl, e⟩
  obtain rfl := e.symm
  rw [hr]
  refine ⟨_, rfl, (Kp.refl none_ _).keeps0, bif_b (fun h => by cases h) (fun _ => ?_)⟩
  obtain ⟨i5, i51, i52, i53, i54⟩ := info5
  refine make_own Try.underlying25 ⟨i5, .int .u8 0, i51, i52, i53, rfl, by omega, fun w2 r2 k2 => ?_⟩ (by omega)
  obtain ⟨q1, c1, n1, n2⟩ := h.now
  have zrow : List.replicate n (Value.int .u8 0) = byF (fun _ => 0) n := by
    apply List.ext_getElem
    · simp [byF]
    · intro i h1 h2; simp [byF]
  rw [zrow] at r2
  simp only [ptr_some, ad_add, Nat.zero_add]
  refine ⟨_, _, _, rfl, k2.keeps0, _, _, _, k2.cell0 n1, bif_dec (fun hlt => ?_) (fun hge => ⟨_, rfl, _, _, rfl, k2, ?_⟩)⟩
  rotate_left
  · rw [byF_congr (g := fun _ => 0)]
    · exact r2
    · intro i hi
      exact if_neg (by omega)
  obtain ⟨g, cur, rfl, _, hgc, _, hcn, _⟩ := n2.parts (by omega)
  have e1 : cutA (some ⟨g, 0, none⟩) c1 at_.toNat 1 = some ⟨g, at_.toNat, none⟩ := cutn (by omega)
  refine ⟨_, _, _, k2.cell0 n1, by omega, ?_⟩
  rw [e1, ← cut0 w.heap.size n]
  have h2 := h.kp0 k2
  have hm : (byF (fun p => s.now (at_ + p)) (min (512 * s.size - at_.toNat) n)).length = Nat.min (512 * s.size - at_.toNat) n := byF_len _ _
  refine copy_own (own := fresh w) (n := n) (xs := byF (fun _ => 0) n) (cs := byF (fun p => s.now (at_ + p)) (min (512 * s.size - at_.toNat) n)) Try.underlying25 (by kernel_rfl) r2 hm (by rw [byF_len]; omega) (by omega) (fun j v hj => ?_) (byF_one _ _) (fun w3 r3 k3 => ?_)
  · have hj' : j < min (512 * s.size - at_.toNat) n := by have := (List.getElem?_eq_some_iff.1 hj).1; rwa [byF_len] at this
    rw [byF_get _ hj'] at hj
    cases hj
    have n1' := k2.cell0 n1
    obtain ⟨a, ea, ha⟩ := (h2.nowRow n1').at (j := at_.toNat + j) (u := .int .u8 (s.now ((at_.toNat + j : Nat) : Int))) (byF_get _ (by omega))
    cases ea
    rw [ad_add, Nat.zero_add] at ha
    rw [ad_add, ha]
    congr 3
    omega
  · rw [cut0]
    refine ⟨_, rfl, k3.keeps0, _, rfl, _, _, rfl, k2.then k3 (fun i hi hf => by unfold fresh at hf; omega), ?_⟩
    have := byF_over (fun _ => 0) (fun p => s.now (at_ + p)) n 0 (min (512 * s.size - at_.toNat) n) (by omega)
    rw [byF_len] at r3
    rw [this] at r3
    rw [byF_congr (g := fun p => if ((0 : Nat) : Int) ≤ p ∧ p < ((0 : Nat) : Int) + ((min (512 * s.size - at_.toNat) n : Nat) : Int) then s.now (at_ + (p - ((0 : Nat) : Int))) else 0)]
    · exact r3
    · intro i hi
      unfold readF
      by_cases c1 : at_ + (i : Int) < 512 * s.size
      · rw [if_pos c1, if_pos (by omega)]
        congr 1
      · rw [if_neg c1, if_neg (by omega)]
/-- One more sector waits. -/
def pushSt (s : St) (k : Nat) (f : Int → Int) : St := { s with wait := s.wait ++ [(k, f)] }
theorem pushWaitK (h : Dsk w col D s) {k : Nat} (hk : k < s.size) {f : Int → Int} (hf : ∀ p, isByte (f p)) (hl : s.wait.length ≤ 100000) {w2 : World} (k2 : Kp none_ w w2) {g2 c2 : Nat} (hrow : OwnRow w2 (fresh w) 5 1 (.slice (some ⟨g2, 0, none⟩) 512 c2) 512 (byF (secAt f k) 512)) :
    ∃ q c, w2.cell? ⟨D, 2, none⟩ = some (.slice q s.wait.length c) ∧ (w2.alloc (.cells #[.int .i64 k, .slice (some ⟨g2, 0, none⟩) 512 c2] 118)).cell? ⟨D, 2, none⟩ = some (.slice q s.wait.length c) ∧
      Runs Try.prog (Builtin.append_ #[27, 27] 27 #[.slice q s.wait.length c, .slice (some ⟨w2.heap.size, 0, none⟩) 1 1]) (w2.alloc (.cells #[.int .i64 k, .slice (some ⟨g2, 0, none⟩) 512 c2] 118)) fun v w3 =>
        ∃ q' c', v = .slice q' (s.wait.length + 1) c' ∧ Keeps (w2.alloc (.cells #[.int .i64 k, .slice (some ⟨g2, 0, none⟩) 512 c2] 118)) w3 [] ∧ (∃ u, w3.cell? ⟨D, 2, none⟩ = some u) ∧ w3.frozen? ⟨D, 2, none⟩ = false ∧
          Kp (ownC col) w (w3.setCell ⟨D, 2, none⟩ (.slice q' (s.wait.length + 1) c')) ∧ ∃ col', Grow col col' w (w3.setCell ⟨D, 2, none⟩ (.slice q' (s.wait.length + 1) c')) ∧ Dsk (w3.setCell ⟨D, 2, none⟩ (.slice q' (s.wait.length + 1) c')) col' D (pushSt s k f) := by
  obtain ⟨q, c, ys, t1, t2, t3⟩ := h.wait
  have hD := h.dlt
  have z2 := k2.size
  have hfr : fresh w g2 ∧ g2 < w2.heap.size ∧ 512 ≤ c2 := by
    obtain ⟨g', cur, e, _, ho, hh, hc', _⟩ := hrow.parts (by omega)
    cases e
    exact ⟨ho, (Array.getElem?_eq_some_iff.1 hh).1, hc'⟩
  have hf2 : w.heap.size ≤ g2 := hfr.1
  refine ⟨q, c, k2.cell0 t1, cell_alloc _ (k2.cell0 t1), ?_⟩
  refine append_new (own := cl col 4) (xs := ys) #[.int .i64 k, .slice (some ⟨g2, 0, none⟩) 512 c2] Try.underlying27 elem118 (by omega) (t2.kp k2 fun _ _ _ _ _ => id) rfl (by simp [Value.oneCell']) (by omega) ?_
  intro q3 c3 w3 r3 k3 k3a
  have z3 := k3.size
  have z3a := k3a.size
  have sA : (w2.alloc (.cells #[Value.int .i64 k, .slice (some ⟨g2, 0, none⟩) 512 c2] 118)).heap.size = w2.heap.size + 1 := alloc_size _ _
  have hD4 : ¬ cl col 4 D := fun hh => by have := h.colD; unfold cl at hh; omega
  have cD2 : w3.cell? ⟨D, 2, none⟩ = some (.slice q s.wait.length c) := k3.cell (k2.cell0 t1) hD4
  refine ⟨q3, c3, rfl, k3a.keeps0, ⟨_, cD2⟩, (k3.frz ⟨D, 2, none⟩ (show D < w2.heap.size by omega)).trans ((k2.frz ⟨D, 2, none⟩ hD).trans (h.frz 2)), ?_⟩
  have k13 : Kp (cl col 4) w w3 := (k2.mono fun _ _ h => h.elim).trans k3
  obtain ⟨col1, g1, g1', r4⟩ := recolor (w := w) (k := 4) h.lt (Nat.le_trans z2 z3) (r3.mono fun i hi _ => hi.imp id fun hh => Nat.le_trans z2 hh)
  -- the copy's own block
  have hg2ne : col1 g2 ≠ 4 ∨ True := .inr trivial
  have kD : Kp (one_ D) w3 (w3.setCell ⟨D, 2, none⟩ (.slice q3 (s.wait.length + 1) c3)) := Kp.setCell (S := one_ D) (x := ⟨D, 2, none⟩) (Kp.refl (one_ D) w3) _ (.inl rfl)
  have k14 : Kp (fun i => col i = 4 ∨ i = D) w (w3.setCell ⟨D, 2, none⟩ (.slice q3 (s.wait.length + 1) c3)) := (k13.mono fun _ _ h => .inl h).trans (kD.mono fun _ _ h => .inr h)
  have sS : (w3.setCell ⟨D, 2, none⟩ (.slice q3 (s.wait.length + 1) c3)).heap.size = w3.heap.size := by simp [World.setCell]
  have ne : ∀ i c, (col i = 4 ∨ i = D) → c ≠ 1 → c ≠ 4 → col i ≠ c := fun i c hi h1 h2 => by
    rcases hi with hi | hi
    · omega
    · rw [hi, h.colD]; omega
  have kAll : Kp (ownC col) w (w3.setCell ⟨D, 2, none⟩ (.slice q3 (s.wait.length + 1) c3)) := k14.mono fun i _ hi => by
    show col i ≠ 0
    rcases hi with hi | hi
    · omega
    · rw [hi, h.colD]; omega
  -- the row's block and the copy's are two
  have two : ∀ g, q3 = some ⟨g, 0, none⟩ → g ≠ g2 := by
    intro g e e2
    subst e2
    obtain ⟨g', cur, e', _, ho, hh, _⟩ := r3.parts (by omega)
    rw [e] at e'
    cases e'
    rcases ho with ho | ho
    · have := h.lt g (by have : col g = 4 := ho; omega)
      omega
    · unfold fresh at ho; omega
  let col2 : Col := fun j => if j = g2 then 5 else col1 j
  have hc2 : ∀ j, j < w.heap.size → col2 j = col j := fun j hj => (if_neg (by omega)).trans (g1 j hj)
  refine ⟨kAll, col2, ⟨hc2, fun j hj => ?_⟩, ?_⟩
  · by_cases e : j = g2
    · rw [sS, e]; omega
    · have : col1 j ≠ 0 := by simpa [col2, e] using hj
      rcases g1' j this with h | h <;> omega
  have hd : ∀ o v, o ≠ 2 → w.cell? ⟨D, o, none⟩ = some v → (w3.setCell ⟨D, 2, none⟩ (.slice q3 (s.wait.length + 1) c3)).cell? ⟨D, o, none⟩ = some v := fun o v ho hv => by rw [cell_set_off _ (Ne.symm ho)]; exact k13.cell hv hD4
  have r5 := r4.kp kD fun g _ _ _ hg hh => by
    have e : g = D := hh
    have hg : col1 g = 4 := hg
    rw [e, g1 D hD, h.colD] at hg
    omega
  refine ⟨(hc2 D hD).trans h.colD, fun j hj => ?_, fun o => ?_, h.nowK k14 (fun i _ hi => ne i 2 hi (by omega) (by omega)) hc2 (hd 0 · (by omega)), h.safeK k14 (fun i _ hi => ⟨ne i 3 hi (by omega) (by omega), ne i 5 hi (by omega) (by omega)⟩) hc2 (hd 1 · (by omega)),
    ⟨q3, c3, ys ++ [.int .i64 k, .slice (some ⟨g2, 0, none⟩) 512 c2], ?_, ?_, fun j e he => ?_⟩, ⟨h.ok.size, h.ok.now, h.ok.safe, fun e he => ?_⟩⟩
  · by_cases e : j = g2
    · rw [sS, e]; omega
    · have : col1 j ≠ 0 := by simpa [col2, e] using hj
      rcases g1' j this with h | h <;> omega
  · rw [frozen_set, k13.frz ⟨D, o, none⟩ hD]; exact h.frz o
  · have : (pushSt s k f).wait.length = s.wait.length + 1 := by simp [pushSt]
    rw [this]
    exact cell_set_same _ cD2
  · have : (pushSt s k f).wait.length = s.wait.length + 1 := by simp [pushSt]
    rw [this]
    rcases r5.2 with ⟨e1, e2⟩ | ⟨g, cap, cur, e1, e2, e3, e4⟩
    · exact ⟨r5.1, .inl ⟨e1, e2⟩⟩
    · refine ⟨r5.1, .inr ⟨g, cap, cur, e1, ?_, e3, e4⟩⟩
      cases e1
      show (if g = g2 then 5 else col1 g) = 4
      rw [if_neg (two g rfl)]
      exact e2
  · have hyl : ys.length = s.wait.length * 2 := t2.1
    by_cases hj : j < s.wait.length
    · have he' : s.wait[j]? = some e := by
        have : (s.wait ++ [(k, f)])[j]? = some e := he
        rwa [List.getElem?_append_left hj] at this
      obtain ⟨a, c', x0, x1, x2, x3⟩ := t3 j e he'
      refine ⟨a, c', ?_, ?_, x2, Sec.kpc x3 k14 (fun i _ hi => ne i 5 hi (by omega) (by omega)) hc2⟩
      · rw [List.getElem?_append_left (by omega)]; exact x0
      · rw [List.getElem?_append_left (by omega)]; exact x1
    · have hjl : j = s.wait.length := by
        have : j < (s.wait ++ [(k, f)]).length := (List.getElem?_eq_some_iff.1 he).1
        rw [List.length_append] at this
        simp at this
        omega
      subst hjl
      have he' : e = (k, f) := by
        have : (s.wait ++ [(k, f)])[s.wait.length]? = some e := he
        simp at this
        exact this.symm
      subst he'
      refine ⟨⟨g2, 0, none⟩, c2, ?_, ?_, hfr.2.2, if_pos rfl, fun i hi => ?_⟩
      · rw [List.getElem?_append_right (by omega), hyl, Nat.sub_self]; rfl
      · rw [List.getElem?_append_right (by omega), hyl, show s.wait.length * 2 + 1 - s.wait.length * 2 = 1 by omega]; rfl
      · obtain ⟨a, ea, ha⟩ := hrow.at (j := i) (u := .int .u8 (secAt f k i)) (byF_get _ hi)
        cases ea
        have hgD : g2 ≠ D := by omega
        refine kD.cell (k3.cell ha ?_) ?_
        · rw [add_block]
          intro hh
          have hh : col g2 = 4 := hh
          have := h.lt g2 (by omega)
          omega
        · rw [add_block]; exact fun e => hgD e
  · have he : e ∈ s.wait ++ [(k, f)] := he
    simp only [List.mem_append, List.mem_singleton] at he
    rcases he with he | rfl
    · exact h.ok.wait e he
    · exact ⟨hk, hf⟩
end
end Go.Proofs.Ytlgkcbdpaffigaa

namespace Go.Proofs.Ytlgkcbdpaffigaa
open Go Go.SX Go.Proofs
set_option maxRecDepth 100000
set_option linter.unusedVariables false
set_option linter.unusedSimpArgs false
section
variable {w w' : World} {col col' : Col} {D : Nat} {s : St} {S : Nat → Prop}
/-- What is written. -/
def overF (f b : Int → Int) (at_ : Int) (n : Nat) : Int → Int := fun p => if at_ ≤ p ∧ p < at_ + n then b (p - at_) else f p
/-- So many sectors, from one on, wait. -/
def waits (lo k : Nat) (f : Int → Int) : List (Nat × (Int → Int)) := (List.range k).map fun j => (lo + j, f)
theorem waits_succ (lo k : Nat) (f : Int → Int) : waits lo (k + 1) f = waits lo k f ++ [(lo + k, f)] := by simp [waits, List.range_succ]
def loF (at_ : Int) : Nat := (at_ / 512).toNat
def hiF (at_ : Int) (n : Nat) : Nat := ((at_ + n + 511) / 512).toNat
def writeSt (s : St) (at_ : Int) (n : Nat) (b : Int → Int) : St :=
  { growSt s (hiF at_ n) with now := overF (growSt s (hiF at_ n)).now b at_ n, wait := s.wait ++ waits (loF at_) (hiF at_ n - loF at_) (overF (growSt s (hiF at_ n)).now b at_ n) }
theorem growSt_wait (s : St) (m : Nat) : (growSt s m).wait = s.wait := by unfold growSt; split <;> rfl
theorem growSt_size (s : St) (m : Nat) : (growSt s m).size = max s.size m := by
  unfold growSt
  split
  · show m = _; omega
  · omega
theorem growSt_max (s : St) (m : Nat) : growSt s (max s.size m) = growSt s m := by
  unfold growSt
  by_cases h : s.size < m
  · rw [if_pos h, if_pos (by omega)]
    have : max s.size m = m := by omega
    rw [this]
  · rw [if_neg h, if_neg (by omega)]
theorem c20 (h : Dsk w col D s) {q : Option Addr} {n cp : Nat} {b : Int → Int} (hb : Ints w .u8 q n b) (hby : ∀ i : Int, 0 ≤ i → i < n → isByte (b i)) (hq : 0 < n → ∀ a, q = some a → col a.block = 0) (hl : s.wait.length ≤ 90000) (at_ : Int) :
    Rets Try.prog 20 #[.pointer (some ⟨D, 0, none⟩), .int .i64 at_, .slice q n cp] w fun v w' =>
      v = .int .i64 (if rightF at_ n = true then 0 else 1) ∧ Kp (ownC col) w w' ∧ ∃ col', Grow col col' w w' ∧ Dsk w' col' D (if rightF at_ n = true ∧ n ≠ 0 then writeSt s at_ n b else s) := by
  refine ent [_, _, _] Try.func20 ((vcTry20 _ _ _ _ _ w _).mpr ?_)
  unfold VCTry20
  have hs := h.ok.size
  refine (c65 h at_ n).mono ?_
  rintro v wx ⟨rfl, e⟩
  obtain rfl := e.symm
  refine ⟨_, _, rfl, (Kp.refl none_ _).keeps0, bif_not (fun hr => ?_) (fun hr => ?_)⟩
  · rw [hr]
    exact ⟨_, rfl, rfl, Kp.refl _ _, col, Grow.refl h.lt (Nat.le_refl _), h⟩
  refine bif_eq (fun h0 => ?_) (fun h0 => ?_)
  · have hn0 : n = 0 := by omega
    rw [hr, if_pos rfl, if_neg (fun hh => hh.2 hn0)]
    exact ⟨_, rfl, rfl, Kp.refl _ _, col, Grow.refl h.lt (Nat.le_refl _), h⟩
  have hn0 : n ≠ 0 := by omega
  have hr' := hr
  unfold rightF at hr'
  have hr' := of_decide_eq_true hr'
  rw [hr, if_pos rfl, if_pos rfl, if_pos ⟨rfl, hn0⟩]
  have hneed : needF s at_ n = ((max s.size (hiF at_ n) : Nat) : Int) := by unfold needF hiF; rw [if_neg h0]; omega
  have hhi : hiF at_ n ≤ 4096 := by unfold hiF; omega
  rw [hneed]
  refine (c66 h (max s.size (hiF at_ n)) (by omega)).mono ?_
  rintro v w5 ⟨rfl, k5, col5, gr5, h5⟩
  rw [growSt_max] at h5
  have hsz := growSt_size s (hiF at_ n)
  have hwt := growSt_wait s (hiF at_ n)
  refine ⟨rfl, k5.keeps0, ?_⟩
  unfold writeSt
  generalize growSt s (hiF at_ n) = s1 at *
  have hs1 := h5.ok.size
  have hlo : loF at_ < hiF at_ n ∧ hiF at_ n ≤ s1.size := by unfold loF hiF at *; omega
  have hend : at_ + n ≤ 512 * s1.size := by unfold hiF at hlo; omega
  obtain ⟨q1, c1, n1, n2⟩ := h5.now
  obtain ⟨g, cur, rfl, _, hgc, _, hcn, _⟩ := n2.parts (by omega)
  simp only [ptr_some, ad_add, Nat.zero_add, Nat.add_zero]
  have hb5 : Ints w5 .u8 q n b := hb.kp k5 fun h0 a ha hh => hh (hq h0 a ha)
  obtain ⟨a, rfl, _⟩ := hb5 0 (by omega) (by omega)
  have hmin : (byF b n).length = Nat.min n (512 * s1.size - at_.toNat) := by rw [byF_len]; exact (Nat.min_eq_left (by omega)).symm
  refine ⟨_, _, _, n1, by omega, copy_own (own := cl col5 2) (n := 512 * s1.size) (cs := byF b n) Try.underlying25 (by kernel_rfl) n2 hmin (by rw [byF_len]; omega) (by omega) (fun j v hj => ?_) (byF_one _ _) (fun w6 r6 k6 => ?_)⟩
  · have hj' : j < n := by have := (List.getElem?_eq_some_iff.1 hj).1; rwa [byF_len] at this
    rw [byF_get _ hj'] at hj
    cases hj
    obtain ⟨a', e, hc⟩ := hb5 j (by omega) (by omega)
    cases e
    rw [← hc]
    congr 2
  rw [byF_len, byF_over _ _ _ _ _ (by omega)] at r6
  have hnow : byF (fun p => if ((at_.toNat : Nat) : Int) ≤ p ∧ p < ((at_.toNat : Nat) : Int) + (n : Int) then b (p - ((at_.toNat : Nat) : Int)) else s1.now p) (512 * s1.size) = byF (overF s1.now b at_ n) (512 * s1.size) := by
    have e : ((at_.toNat : Nat) : Int) = at_ := by omega
    rw [e]; rfl
  rw [hnow] at r6
  have hnb : ∀ p, isByte (overF s1.now b at_ n p) := fun p => by
    unfold overF
    split
    · exact hby _ (by omega) (by omega)
    · exact h5.ok.now p
  have h6 := h5.nowSet n1 k6 r6 hnb
  have ko : ∀ {i}, i < w.heap.size → ownC col5 i → ownC col i := fun {i} hi hh => by
    show col i ≠ 0
    rw [← gr5.1 i hi]
    exact hh
  have kw6 : Kp (ownC col) w w6 := k5.then k6 fun i hi hh => ko hi (by have hh : col5 i = 2 := hh; show col5 i ≠ 0; omega)
  have gr6 : Grow col col5 w w6 := ⟨gr5.1, fun i hi => Nat.lt_of_lt_of_le (gr5.2 i hi) k6.size⟩
  have e512 : at_.tdiv 512 = (loF at_ : Nat) := by unfold loF; rw [Int.tdiv_eq_ediv_of_nonneg (by omega)]; omega
  rw [e512]
  refine ⟨_, rfl, k6.keeps0, by omega, wr64 (by omega) ?_⟩
  refine ⟨fun i w' => ∃ k : Nat, i = (loF at_ : Nat) + (k : Int) ∧ k ≤ hiF at_ n - loF at_ ∧ Kp (ownC col) w w' ∧ ∃ col', Grow col col' w w' ∧ Dsk w' col' D { s1 with now := overF s1.now b at_ n, wait := s.wait ++ waits (loF at_) k (overF s1.now b at_ n) }, fun i _ => (hiF at_ n - i).toNat,
    ⟨0, by omega, by omega, kw6, col5, gr6, by rw [← hwt]; simpa [waits] using h6⟩, ?_⟩
  rintro i w7 ⟨k, rfl, hk, k7, col7, gr7, h7⟩
  refine wr64 (by omega) ((c67 w7 (at_ + n) (by omega)).mono ?_)
  rintro v wx ⟨rfl, e⟩
  obtain rfl := e.symm
  have ehi : (at_ + (n : Int) + 511) / 512 = (hiF at_ n : Nat) := by unfold hiF; omega
  rw [ehi]
  refine ⟨_, rfl, (Kp.refl none_ _).keeps0, bif_dec (fun hlt => ?_) (fun hge => ?_)⟩
  rotate_left
  · have : k = hiF at_ n - loF at_ := by omega
    subst this
    exact ⟨_, rfl, rfl, k7, col7, gr7, h7⟩
  have hki : loF at_ + k < ({ s1 with now := overF s1.now b at_ n, wait := s.wait ++ waits (loF at_) k (overF s1.now b at_ n) } : St).size := by show loF at_ + k < s1.size; omega
  have ei : ((loF at_ : Nat) : Int) + (k : Int) = ((loF at_ + k : Nat) : Int) := by omega
  rw [ei]
  obtain ⟨qw, cw, ys, u1, u2, u3⟩ := h7.wait
  have hlen : (s.wait ++ waits (loF at_) k (overF s1.now b at_ n)).length ≤ 100000 := by simp [waits]; omega
  -- the round's end
  have fin : ∀ w2 g2 c2, Kp none_ w7 w2 → OwnRow w2 (fresh w7) 5 1 (.slice (some ⟨g2, 0, none⟩) 512 c2) 512 (byF (secAt (overF s1.now b at_ n) (loF at_ + k)) 512) →
      w2.cell? ⟨D, 2, none⟩ = some (.slice qw (s.wait ++ waits (loF at_) k (overF s1.now b at_ n)).length cw) ∧ (w2.alloc (.cells #[.int .i64 ((loF at_ + k : Nat) : Int), .slice (some ⟨g2, 0, none⟩) 512 c2] 118)).cell? ⟨D, 2, none⟩ = some (.slice qw (s.wait ++ waits (loF at_) k (overF s1.now b at_ n)).length cw) ∧
      Runs Try.prog (Builtin.append_ #[27, 27] 27 #[.slice qw (s.wait ++ waits (loF at_) k (overF s1.now b at_ n)).length cw, .slice (some ⟨w2.heap.size, 0, none⟩) 1 1]) (w2.alloc (.cells #[.int .i64 ((loF at_ + k : Nat) : Int), .slice (some ⟨g2, 0, none⟩) 512 c2] 118)) fun v w3 =>
        ∃ q' n' c', v = .slice q' n' c' ∧ Keeps (w2.alloc (.cells #[.int .i64 ((loF at_ + k : Nat) : Int), .slice (some ⟨g2, 0, none⟩) 512 c2] 118)) w3 [] ∧ (∃ u, w3.cell? ⟨D, 2, none⟩ = some u) ∧ w3.frozen? ⟨D, 2, none⟩ = false ∧
          Wr .i64 (((loF at_ + k : Nat) : Int) + 1) fun i48 => (∃ k' : Nat, i48 = (loF at_ : Nat) + (k' : Int) ∧ k' ≤ hiF at_ n - loF at_ ∧ Kp (ownC col) w (w3.setCell ⟨D, 2, none⟩ (.slice q' n' c')) ∧ ∃ col', Grow col col' w (w3.setCell ⟨D, 2, none⟩ (.slice q' n' c')) ∧ Dsk (w3.setCell ⟨D, 2, none⟩ (.slice q' n' c')) col' D { s1 with now := overF s1.now b at_ n, wait := s.wait ++ waits (loF at_) k' (overF s1.now b at_ n) }) ∧
            (hiF at_ n - i48).toNat < (hiF at_ n - ((loF at_ + k : Nat) : Int)).toNat := by
    intro w2 g2 c2 k2 r2
    obtain ⟨q', c', x1, x2, v', w3, x3, q3, c3, rfl, x5, x6, x7, x8, col8, x9, x10⟩ := pushWaitK h7 hki (f := overF s1.now b at_ n) hnb hlen k2 r2
    have e := x1.symm.trans (k2.cell0 u1)
    cases e
    refine ⟨x1, x2, _, _, x3, q3, _, c3, rfl, x5, x6, x7, wr64 (by omega) ⟨⟨k + 1, by omega, by omega, k7.then x8 (fun i hi hh => ?_), col8, gr7.trans x9 k7.size, ?_⟩, by omega⟩⟩
    · have hh : col7 i ≠ 0 := hh
      show col i ≠ 0
      rw [← gr7.1 i hi]
      exact hh
    · have : pushSt { s1 with now := overF s1.now b at_ n, wait := s.wait ++ waits (loF at_) k (overF s1.now b at_ n) } (loF at_ + k) (overF s1.now b at_ n) = { s1 with now := overF s1.now b at_ n, wait := s.wait ++ waits (loF at_) (k + 1) (overF s1.now b at_ n) } := by
        unfold pushSt
        simp only [waits_succ, List.append_assoc]
      rw [this] at x10
      exact x10
  have lit := fun (w2 : World) => lit_run (P := Try.prog) w2 Try.underlying25 info5e
  refine ⟨_, _, _, u1, ⟨_, _, lit w7.drew, _, _, _, rfl, (((Kp.refl none_ w7.drew).alloc _ _).keeps0), ?_⟩, ?_⟩
  · have ka : Kp none_ w7 (w7.drew.alloc (.cells #[] 5)) := (Kp.refl none_ w7).drew.alloc _ _
    have h2 := h7.kp0 ka
    refine ⟨cell_alloc _ u1, (c62 h2 (loF at_ + k) hki).mono ?_⟩
    rintro v wx ⟨⟨g', c', y1, y2, _, rfl⟩, e⟩
    obtain rfl := e.symm
    refine ⟨_, _, _, rfl, (Kp.refl none_ _).keeps0, ka.cell0 u1, secCopy h2 hki y1 fun g2 c2 w2 r2 k2 => ?_⟩
    obtain ⟨f1, f2, f3⟩ := fin w2 g2 c2 (ka.trans k2) (r2.mono fun i hi _ => Nat.le_trans ka.size hi)
    exact ⟨_, _, _, rfl, k2.keeps0, f1, f2, f3⟩
  · have h2 := h7.drew
    refine (c62 h2 (loF at_ + k) hki).mono ?_
    rintro v wx ⟨⟨g', c', y1, y2, _, rfl⟩, e⟩
    obtain rfl := e.symm
    have ka : Kp none_ w7.drew (w7.drew.alloc (.cells #[] 5)) := (Kp.refl none_ w7.drew).alloc _ _
    have h3 := h2.kp0 ka
    refine ⟨_, _, _, rfl, (Kp.refl none_ _).keeps0, u1, _, _, lit w7.drew, _, _, _, rfl, ka.keeps0, ka.cell0 u1, secCopy h3 hki (ka.cell0 y1) fun g2 c2 w2 r2 k2 => ?_⟩
    obtain ⟨f1, f2, f3⟩ := fin w2 g2 c2 (((Kp.refl none_ w7).drew.trans ka).trans k2) (r2.mono fun i hi _ => Nat.le_trans ka.size hi)
    exact ⟨_, _, _, rfl, k2.keeps0, f1, f2, f3⟩
end
end Go.Proofs.Ytlgkcbdpaffigaa

namespace Go.Proofs.Ytlgkcbdpaffigaa
open Go Go.SX Go.Proofs
set_option maxRecDepth 100000
set_option linter.unusedVariables false
set_option linter.unusedSimpArgs false
/-- A crash: what was safe comes back, sector by sector; then what is kept of what waits. -/
def crashA (s : St) (fill : Int) : Nat → St
  | 0 => s
  | k + 1 => setNow (crashA s fill k) k (if s.has k = true then secAt s.safe k else strangeF k fill)
def keepsA (s : St) (n : Nat) (kb : Nat → Bool) : Nat → St
  | 0 => s
  | k + 1 => match s.wait[k]? with
    | some e => if k < n ∧ kb k = true then setNow (keepsA s n kb k) e.1 (secAt e.2 e.1) else keepsA s n kb k
    | none => keepsA s n kb k
theorem crashA_same (s : St) (fill : Int) : ∀ k, (crashA s fill k).size = s.size ∧ (crashA s fill k).has = s.has ∧ (crashA s fill k).safe = s.safe ∧ (crashA s fill k).wait = s.wait
  | 0 => ⟨rfl, rfl, rfl, rfl⟩
  | k + 1 => crashA_same s fill k
theorem keepsA_same (s : St) (n : Nat) (kb : Nat → Bool) : ∀ k, (keepsA s n kb k).size = s.size ∧ (keepsA s n kb k).has = s.has ∧ (keepsA s n kb k).safe = s.safe ∧ (keepsA s n kb k).wait = s.wait
  | 0 => ⟨rfl, rfl, rfl, rfl⟩
  | k + 1 => by
    have h := keepsA_same s n kb k
    unfold keepsA
    split
    · split
      · exact h
      · exact h
    · exact h
def crashSt (s : St) (n : Nat) (kb : Nat → Bool) (fill : Int) : St := syncSt (keepsA (crashA s fill s.size) n kb s.wait.length)
/-- A row of bools. -/
def Bools (w : World) (q : Option Addr) (n : Nat) (kb : Nat → Bool) : Prop := ∀ i, i < n → ∃ a, q = some a ∧ w.cell? (a.add i) = some (.bool (kb i))
theorem Bools.kp {S : Nat → Prop} {w w' : World} {q : Option Addr} {n : Nat} {kb : Nat → Bool} (h : Bools w q n kb) (hk : Kp S w w') (hs : 0 < n → ∀ a, q = some a → ¬ S a.block) : Bools w' q n kb := fun i hi => by
  obtain ⟨a, e, hc⟩ := h i hi
  exact ⟨a, e, hk.cell hc (by rw [add_block]; exact hs (by omega) a e)⟩
section
variable {w w' : World} {col col' : Col} {D : Nat} {s : St} {S : Nat → Prop}
theorem secPut (h : Dsk w col D s) {i : Nat} (hi : i < s.size) {g c : Nat} (hD : w.cell? ⟨D, 0, none⟩ = some (.slice (some ⟨g, 0, none⟩) (512 * s.size) c)) {a : Addr} {c' : Nat} {f : Int → Int} (hs : Sec w col a f) (hf : ∀ j, isByte (f j)) {K : Value → World → Prop}
    (hK : ∀ w2, Kp (cl col 2) w w2 → Dsk w2 col D (setNow s i f) → K (.int .i64 512) w2) :
    Runs Try.prog (Builtin.copy_ #[25, 25] 3 #[.slice (some ⟨g, 512 * i, none⟩) 512 512, .slice (some a) 512 c']) w K := by
  have hrow := h.nowRow hD
  have hc : 512 * s.size ≤ c := (hrow.lens).2
  rw [← cutn (g := g) (c := c) (o := 512 * i) (by omega)]
  refine copy_own (own := cl col 2) (n := 512 * s.size) (cs := byF f 512) Try.underlying25 (by kernel_rfl) hrow (by rw [byF_len]; rfl) (by rw [byF_len]; omega) (by omega) (fun j v hj => ?_) (byF_one _ _) (fun w2 r2 k2 => ?_)
  · have hj' : j < 512 := by have := (List.getElem?_eq_some_iff.1 hj).1; rwa [byF_len] at this
    rw [byF_get _ hj'] at hj
    cases hj
    exact hs.2 j hj'
  · rw [byF_len, byF_over _ _ _ _ _ (by omega)] at r2
    have e : byF (fun p => if ((512 * i : Nat) : Int) ≤ p ∧ p < ((512 * i : Nat) : Int) + ((512 : Nat) : Int) then f (p - ((512 * i : Nat) : Int)) else s.now p) (512 * s.size) = byF (setNow s i f).now (512 * s.size) := by
      refine byF_congr fun j hj => ?_
      simp only [setNow]
      by_cases h1 : 512 * (i : Int) ≤ (j : Int) ∧ (j : Int) < 512 * i + 512
      · rw [if_pos h1, if_pos (by omega)]; congr 1
      · rw [if_neg h1, if_neg (by omega)]
    rw [e] at r2
    rw [byF_len]
    refine hK w2 k2 (h.nowSet hD k2 r2 fun p => ?_)
    show isByte (if _ then _ else _)
    split
    · exact hf _
    · exact h.ok.now p
theorem c19 (h : Dsk w col D s) {q : Option Addr} {n cp : Nat} {kb : Nat → Bool} (hb : Bools w q n kb) (hq : 0 < n → ∀ a, q = some a → col a.block = 0) (fill : Int) (hf : isByte fill) (hl : s.wait.length ≤ 100000) :
    Rets Try.prog 19 #[.pointer (some ⟨D, 0, none⟩), .slice q n cp, .int .u8 fill] w fun v w' => v = .tuple #[] ∧ Kp (ownC col) w w' ∧ ∃ col', Grow col col' w w' ∧ Dsk w' col' D (crashSt s n kb fill) := by
  refine ent [_, _, _] Try.func19 ((vcTry19 _ _ _ _ _ w _).mpr ?_)
  unfold VCTry19
  have hs := h.ok.size
  obtain ⟨q0, c0, xs0, t0, r0, m0⟩ := h.safe
  show cond false _ _
  simp only [cond_false, ptr_some, ad_add, Nat.zero_add, Nat.add_zero]
  have own2 : ∀ i, cl col 2 i → ownC col i := fun i hi => by have hi : col i = 2 := hi; show col i ≠ 0; omega
  refine ⟨_, _, _, t0, fun i w' => ∃ k : Nat, i = k ∧ k ≤ s.size ∧ Kp (cl col 2) w w' ∧ Dsk w' col D (crashA s fill k), fun i _ => (s.size - i).toNat, ⟨0, rfl, by omega, Kp.refl _ _, h⟩, ?_⟩
  rintro i w1 ⟨k, rfl, hk, k1, h1⟩
  obtain ⟨a1, a2, a3, a4⟩ := crashA_same s fill k
  have r1 := OwnRow.kpc (col' := col) r0 k1 (fun i _ hi => by have hi : col i = 2 := hi; omega) (fun _ _ => rfl)
  refine bif_dec (fun hlt => ?_) (fun hge => ?_)
  · have hki : k < s.size := by omega
    have hki1 : k < (crashA s fill k).size := by omega
    obtain ⟨g, eg, _⟩ := OwnRow.setAt r1 hki
    subst eg
    have hm := m0 k hki
    refine ⟨by omega, ?_⟩
    simp only [ptr_some, ad_add, Nat.zero_add, Nat.mul_one, Int.toNat_natCast]
    have next : crashA s fill (k + 1) = setNow (crashA s fill k) k (if s.has k = true then secAt s.safe k else strangeF k fill) := rfl
    cases hh : s.has k with
    | false =>
      obtain ⟨a, ea, ha⟩ := r1.at (hm.1 hh)
      cases ea
      rw [ad_add, Nat.zero_add] at ha
      refine ⟨_, _, _, ha, ?_⟩
      show cond true _ _
      simp only [cond_true]
      refine (c62 h1 k hki1).mono ?_
      rintro v wx ⟨⟨g', c', y1, y2, _, rfl⟩, e⟩
      obtain rfl := e.symm
      refine ⟨_, _, _, rfl, (Kp.refl none_ _).keeps0, (c64 h1 hki1 y1 fill hf).mono ?_⟩
      rintro v w2 ⟨rfl, k2, h2⟩
      rw [hh, if_neg (by decide)] at next
      exact ⟨rfl, k2.keeps0, wr64 (by omega) ⟨⟨k + 1, by omega, by omega, k1.trans k2, by rw [next]; exact h2⟩, by first | omega | (dsimp only; omega)⟩⟩
    | true =>
      obtain ⟨a, c', x1, x2, x3⟩ := hm.2 hh
      obtain ⟨a', ea, ha⟩ := r1.at x1
      cases ea
      rw [ad_add, Nat.zero_add] at ha
      refine ⟨_, _, _, ha, ?_⟩
      show cond false _ _
      simp only [cond_false]
      refine (c62 h1 k hki1).mono ?_
      rintro v wx ⟨⟨g', c'', y1, y2, _, rfl⟩, e⟩
      obtain rfl := e.symm
      have x4 := Sec.kpc (col' := col) x3 k1 (fun i _ hi => by have hi : col i = 2 := hi; omega) (fun _ _ => rfl)
      refine ⟨_, _, _, rfl, (Kp.refl none_ _).keeps0, secPut h1 hki1 y1 x4 (fun j => h.ok.safe _) fun w2 k2 h2 => ?_⟩
      rw [hh, if_pos rfl] at next
      exact ⟨_, rfl, k2.keeps0, wr64 (by omega) ⟨⟨k + 1, by omega, by omega, k1.trans k2, by rw [next]; exact h2⟩, by first | omega | (dsimp only; omega)⟩⟩
  -- what is kept
  have : k = s.size := by omega
  subst this
  generalize hsa : crashA s fill s.size = sa at *
  have hbase : sa.wait = s.wait ∧ sa.size = s.size := ⟨a4, a1⟩
  obtain ⟨q4, c4, ys, u1, u2, u3⟩ := h1.wait
  have hneq : 0 < n → ∀ a, q = some a → ¬ cl col 2 a.block := fun h0 a ha hh => by have := hq h0 a ha; unfold cl at hh; omega
  refine ⟨_, _, _, u1, fun i w' => ∃ k : Nat, i = k ∧ k ≤ s.wait.length ∧ Kp (cl col 2) w1 w' ∧ Dsk w' col D (keepsA sa n kb k), fun i _ => (s.wait.length - i).toNat, ⟨0, rfl, by omega, Kp.refl _ _, h1⟩, ?_⟩
  rintro i w2 ⟨k, rfl, hk2, k2, h2⟩
  obtain ⟨b1, b2, b3, b4⟩ := keepsA_same sa n kb k
  have kw : Kp (ownC col) w w2 := (k1.trans k2).mono fun i _ hi => own2 i hi
  refine bif_dec (fun hlt => ?_) (fun hge => ?_)
  rotate_left
  · have : k = s.wait.length := by rw [hbase.1] at hge; omega
    subst this
    refine (c16 h2).mono ?_
    rintro v w3 ⟨rfl, k3, col3, gr3, h3⟩
    refine ⟨rfl, k3.keeps0, _, rfl, rfl, kw.trans k3, col3, ⟨fun i hi => gr3.1 i (Nat.lt_of_lt_of_le hi kw.size), gr3.2⟩, ?_⟩
    unfold crashSt
    rw [hsa]
    exact h3
  rw [hbase.1] at hlt u1 u2
  have hkw : k < s.wait.length := by omega
  have u2' := OwnRow.kpc (col' := col) u2 k2 (fun i _ hi => by have hi : col i = 2 := hi; omega) (fun _ _ => rfl)
  obtain ⟨e, he⟩ : ∃ e, s.wait[k]? = some e := ⟨s.wait[k]'hkw, List.getElem?_eq_getElem _⟩
  obtain ⟨a, c', x0, x1, x2, x3⟩ := u3 k e (by rw [hbase.1]; exact he)
  obtain ⟨a1', ea, ha0⟩ := u2'.at x0
  obtain ⟨a2', ea2, ha1⟩ := u2'.at x1
  rw [ea] at ea2
  cases ea2
  subst ea
  have hmem := h.ok.wait e (List.mem_of_getElem? he)
  have next : keepsA sa n kb (k + 1) = if k < n ∧ kb k = true then setNow (keepsA sa n kb k) e.1 (secAt e.2 e.1) else keepsA sa n kb k := by
    show (match sa.wait[k]? with | some e => _ | none => _) = _
    rw [hbase.1, he]
  refine ⟨by rw [hbase.1]; omega, ?_⟩
  simp only [ptr_some, add_add, Int.toNat_natCast, Nat.add_zero]
  refine ⟨_, _, _, _, ⟨ha0, ha1, trivial⟩, ?_⟩
  have kT : Kp none_ w2 (((w2.alloc (.cells #[Value.int .i64 0, .slice none 0 0] 118)).setCell ⟨w2.heap.size, 0, none⟩ (.int .i64 e.1)).setCell ⟨w2.heap.size, 1, none⟩ (.slice (some a) 512 c')) :=
    Kp.setCell (Kp.setCell ((Kp.refl none_ w2).alloc1 _) _ (.inr (Nat.le_refl _))) _ (.inr (Nat.le_refl _))
  have cT : (((w2.alloc (.cells #[Value.int .i64 0, .slice none 0 0] 118)).setCell ⟨w2.heap.size, 0, none⟩ (.int .i64 e.1)).setCell ⟨w2.heap.size, 1, none⟩ (.slice (some a) 512 c')).cell? ⟨w2.heap.size, 1, none⟩ = some (.slice (some a) 512 c') := by
    refine cell_set_same _ (u := .slice none 0 0) ?_
    rw [cell_set_off _ (by omega)]
    exact cell_alloc_new rfl
  have sT : (((w2.alloc (.cells #[Value.int .i64 0, .slice none 0 0] 118)).setCell ⟨w2.heap.size, 0, none⟩ (.int .i64 e.1)).setCell ⟨w2.heap.size, 1, none⟩ (.slice (some a) 512 c')).heap.size = w2.heap.size + 1 := by simp [World.setCell, alloc_size]
  generalize (((w2.alloc (.cells #[Value.int .i64 0, .slice none 0 0] 118)).setCell ⟨w2.heap.size, 0, none⟩ (.int .i64 e.1)).setCell ⟨w2.heap.size, 1, none⟩ (.slice (some a) 512 c')) = WT at *
  have h3 := h2.kp0 kT
  have k2T : Kp (cl col 2) w1 WT := k2.trans (kT.mono fun _ _ h => h.elim)
  have hno : ∀ hh : ¬ (k < n ∧ kb k = true), (∃ k' : Nat, (k : Int) + 1 = k' ∧ k' ≤ s.wait.length ∧ Kp (cl col 2) w1 WT ∧ Dsk WT col D (keepsA sa n kb k')) ∧ (s.wait.length - ((k : Int) + 1)).toNat < (s.wait.length - (k : Int)).toNat := fun hh =>
    ⟨⟨k + 1, by omega, by omega, k2T, by rw [next, if_neg hh]; exact h3⟩, by omega⟩
  refine bif_dec (fun hn => ?_) (fun hn => wr64 (by omega) (hno (by omega)))
  have hbw : Bools WT q n kb := ((hb.kp k1 hneq).kp k2 hneq).kp kT fun _ _ _ => id
  obtain ⟨aq, rfl, hbc⟩ := hbw k (by omega)
  refine ⟨by omega, ?_⟩
  simp only [ptr_some, Nat.mul_one]
  refine ⟨_, hbc, bif_b (fun hkb _ => ?_) (fun hkb => wr64 (by omega) (hno (by rw [hkb]; simp)))⟩
  have hes : e.1 < (keepsA sa n kb k).size := by rw [b1, hbase.2]; exact hmem.1
  refine (c62 h3.drew e.1 hes).mono ?_
  rintro v wx ⟨⟨g', c'', y1, y2, _, rfl⟩, ew⟩
  obtain rfl := ew.symm
  have x4 : Sec WT.drew col a (secAt e.2 e.1) := Sec.kpc (col' := col) x3 k2T.drew (fun i _ hi => by have hi : col i = 2 := hi; omega) (fun _ _ => rfl)
  refine ⟨_, _, _, rfl, (Kp.refl none_ WT.drew).keeps (fun i hi => ⟨by simp at hi; show i < WT.heap.size; omega, id⟩), cT, secPut h3.drew hes y1 x4 (fun j => hmem.2 _) fun w5 k5 h5 => ?_⟩
  refine ⟨_, rfl, k5.keeps (fun i hi => ⟨by simp at hi; show i < WT.heap.size; omega, fun hh => ?_⟩), wr64 (by omega) ⟨⟨k + 1, by omega, by omega, k2T.drew.trans k5, by rw [next, if_pos ⟨by omega, hkb⟩]; exact h5⟩, by first | omega | (dsimp only; omega)⟩⟩
  simp at hi
  have hh : col i = 2 := hh
  have := h2.lt i (by omega)
  omega
end
end Go.Proofs.Ytlgkcbdpaffigaa

namespace Go.Proofs.Ytlgkcbdpaffigaa
open Go Go.SX Go.Proofs
set_option maxRecDepth 100000
set_option linter.unusedVariables false
def VCTry58 (p0 : Option Addr) (p1 : Int) (p2 : Option Addr) (n2 c2 : Nat) (w : World) (R : Ending → World → Prop) : Prop :=
Rets Try.prog (95 : Nat) #[Value.int IntKind.i64 p1, Value.int IntKind.i64 (↑n2 : Int)] w fun (v0 : Value) (w1 : World) =>
 ∃ (t2 : Bool),
  v0 = Value.bool t2 ∧
   Keeps w w1 [] ∧
    bif !t2 then R (Ending.returned (Value.int IntKind.i64 (1 : Int))) w1
    else
     bif (↑n2 : Int) == (0 : Int) then R (Ending.returned (Value.int IntKind.i64 (0 : Int))) w1
     else
      Rets Try.prog (96 : Nat) #[Value.pointer p0, Value.int IntKind.i64 p1, Value.int IntKind.i64 (↑n2 : Int)] w1 fun (v3 : Value) (w4 : World) =>
       ∃ (i5 : Int),
        v3 = Value.int IntKind.i64 i5 ∧
         Keeps w1 w4 [] ∧
          ∃ (I6 : World → Prop),
           ∃ (I7 : World → Nat),
            I6 w4 ∧
             ∀ (w8 : World),
              I6 w8 →
               SX.Ptr p0 fun (a9 : Addr) =>
                ∃ (q10 : Option Addr),
                 ∃ (n11 : Nat),
                  ∃ (n12 : Nat),
                   w8.cell? (a9.add (0 : Nat)) = some (Value.slice q10 n11 n12) ∧
                    bif decide ((↑n11 : Int) < i5) then
                     SX.Ptr p0 fun (a13 : Addr) =>
                      ∃ (q14 : Option Addr),
                       ∃ (n15 : Nat),
                        ∃ (n16 : Nat),
                         w8.drew.cell? (a13.add (0 : Nat)) = some (Value.slice q14 n15 n16) ∧
                          Rets Try.prog (97 : Nat) #[] w8.drew fun (v17 : Value) (w18 : World) =>
                           ∃ (s19 : ByteArray),
                            v17 = Value.string s19 ∧
                             Keeps w8.drew w18 [] ∧
                              w18.cell? (a13.add (0 : Nat)) = some (Value.slice q14 n15 n16) ∧
                               (w18.alloc (Obj.cells #[Value.string s19] (9 : Nat))).cell? (a13.add (0 : Nat)) = some (Value.slice q14 n15 n16) ∧
                                Runs Try.prog
                                 (Builtin.append_ #[(30 : Nat), (30 : Nat)] (30 : Nat)
                                  #[Value.slice q14 n15 n16, Value.slice (some { block := w18.heap.size, off := (0 : Nat) }) (1 : Nat) (1 : Nat)])
                                 (w18.alloc (Obj.cells #[Value.string s19] (9 : Nat))) fun (v20 : Value) (w21 : World) =>
                                 ∃ (q22 : Option Addr),
                                  ∃ (n23 : Nat),
                                   ∃ (n24 : Nat),
                                    v20 = Value.slice q22 n23 n24 ∧
                                     Keeps (w18.alloc (Obj.cells #[Value.string s19] (9 : Nat))) w21 [] ∧
                                      SX.Ptr p0 fun (a25 : Addr) =>
                                       (∃ (v26 : Value), w21.cell? ((a25.add (0 : Nat)).add (0 : Nat)) = some v26) ∧
                                        w21.frozen? ((a25.add (0 : Nat)).add (0 : Nat)) = false ∧
                                         SX.Ptr p0 fun (a27 : Addr) =>
                                          ∃ (q28 : Option Addr),
                                           ∃ (n29 : Nat),
                                            ∃ (n30 : Nat),
                                             (w21.setCell ((a25.add (0 : Nat)).add (0 : Nat)) (Value.slice q22 n23 n24)).cell? (a27.add (1 : Nat)) =
                                               some (Value.slice q28 n29 n30) ∧
                                              Runs Try.prog
                                               (Builtin.append_ #[(30 : Nat), (30 : Nat)] (30 : Nat)
                                                #[Value.slice q28 n29 n30,
                                                 Value.slice
                                                  (some
                                                   {block := (w21.setCell ((a25.add (0 : Nat)).add (0 : Nat)) (Value.slice q22 n23 n24)).heap.size, off := (0 : Nat) })
                                                  (1 : Nat) (1 : Nat)])
                                               ((w21.setCell ((a25.add (0 : Nat)).add (0 : Nat)) (Value.slice q22 n23 n24)).alloc
                                                (Obj.cells #[Value.string { data := #[] }] (9 : Nat)))
                                               fun (v31 : Value) (w32 : World) =>
                                               ∃ (q33 : Option Addr),
                                                ∃ (n34 : Nat),
                                                 ∃ (n35 : Nat),
                                                  v31 = Value.slice q33 n34 n35 ∧
                                                   Keeps
                                                     ((w21.setCell ((a25.add (0 : Nat)).add (0 : Nat)) (Value.slice q22 n23 n24)).alloc
                                                      (Obj.cells #[Value.string { data := #[] }] (9 : Nat)))
                                                     w32 [] ∧
                                                    SX.Ptr p0 fun (a36 : Addr) =>
                                                     (∃ (v37 : Value), w32.cell? ((a36.add (1 : Nat)).add (0 : Nat)) = some v37) ∧
                                                      w32.frozen? ((a36.add (1 : Nat)).add (0 : Nat)) = false ∧
                                                       SX.Ptr p0 fun (a38 : Addr) =>
                                                        ∃ (q39 : Option Addr),
                                                         ∃ (n40 : Nat),
                                                          ∃ (n41 : Nat),
                                                           (w32.setCell ((a36.add (1 : Nat)).add (0 : Nat)) (Value.slice q33 n34 n35)).cell?
                                                              (a38.add (2 : Nat)) =
                                                             some (Value.slice q39 n40 n41) ∧
                                                            Runs Try.prog
                                                             (Builtin.append_ #[(31 : Nat), (31 : Nat)] (31 : Nat)
                                                              #[Value.slice q39 n40 n41,
                                                               Value.slice
                                                                (some
                                                                 {
                                                                  block :=
                                                                   (w32.setCell ((a36.add (1 : Nat)).add (0 : Nat)) (Value.slice q33 n34 n35)).heap.size,
                                                                  off := (0 : Nat) })
                                                                (1 : Nat) (1 : Nat)])
                                                             ((w32.setCell ((a36.add (1 : Nat)).add (0 : Nat)) (Value.slice q33 n34 n35)).alloc
                                                              (Obj.cells #[Value.bool false] (4 : Nat)))
                                                             fun (v42 : Value) (w43 : World) =>
                                                             ∃ (q44 : Option Addr),
                                                              ∃ (n45 : Nat),
                                                               ∃ (n46 : Nat),
                                                                v42 = Value.slice q44 n45 n46 ∧
                                                                 Keeps
                                                                   ((w32.setCell ((a36.add (1 : Nat)).add (0 : Nat)) (Value.slice q33 n34 n35)).alloc
                                                                    (Obj.cells #[Value.bool false] (4 : Nat)))
                                                                   w43 [] ∧
                                                                  SX.Ptr p0 fun (a47 : Addr) =>
                                                                   (∃ (v48 : Value), w43.cell? ((a47.add (2 : Nat)).add (0 : Nat)) = some v48) ∧
                                                                    w43.frozen? ((a47.add (2 : Nat)).add (0 : Nat)) = false ∧
                                                                     I6 (w43.setCell ((a47.add (2 : Nat)).add (0 : Nat)) (Value.slice q44 n45 n46)) ∧
                                                                      I7 (w43.setCell ((a47.add (2 : Nat)).add (0 : Nat)) (Value.slice q44 n45 n46)) <
                                                                       I7 w8
                    else
                     (512 : Int) ≠ (0 : Int) ∧
                      Wr IntKind.i64 (p1.tdiv (512 : Int)) fun (i49 : Int) =>
                       ∃ (I50 : Int → World → Prop),
                        ∃ (I51 : Int → World → Nat),
                         I50 i49 w8 ∧
                          ∀ (i52 : Int) (w53 : World),
                           I50 i52 w53 →
                            bif decide (i52 < i5) then
                             Wr IntKind.i64 ((512 : Int) * i52) fun (i54 : Int) =>
                              Wr IntKind.i64 (p1 + (↑n2 : Int)) fun (i55 : Int) =>
                               bif decide (i54 < i55) then
                                Wr IntKind.i64 ((512 : Int) * i52) fun (i56 : Int) =>
                                 Wr IntKind.i64 ((512 : Int) * i52) fun (i57 : Int) =>
                                  Wr IntKind.i64 (i57 + (512 : Int)) fun (i58 : Int) =>
                                   bif decide (i56 < p1) then
                                    Wr IntKind.i64 (p1 + (↑n2 : Int)) fun (i59 : Int) =>
                                     bif decide (i58 > i59) then
                                      Wr IntKind.i64 (p1 + (↑n2 : Int)) fun (i60 : Int) =>
                                       SX.Ptr p0 fun (a61 : Addr) =>
                                        ∃ (q62 : Option Addr),
                                         ∃ (n63 : Nat),
                                          ∃ (n64 : Nat),
                                           w53.cell? (a61.add (0 : Nat)) = some (Value.slice q62 n63 n64) ∧
                                            ((0 : Int) ≤ i52 ∧ i52 < (↑n63 : Int)) ∧
                                             SX.Ptr q62 fun (a65 : Addr) =>
                                              ∃ (s66 : ByteArray),
                                               w53.cell? (a65.add (i52.toNat * (1 : Nat))) = some (Value.string s66) ∧
                                                Wr IntKind.i64 ((512 : Int) * i52) fun (i67 : Int) =>
                                                 Wr IntKind.i64 (p1 - i67) fun (i68 : Int) =>
                                                  ((0 : Int) ≤ i68 ∧ i68 ≤ (↑s66.size : Int)) ∧
                                                   Wr IntKind.i64 (p1 - p1) fun (i69 : Int) =>
                                                    Wr IntKind.i64 (i60 - p1) fun (i70 : Int) =>
                                                     ((0 : Int) ≤ i70 ∧ i70 ≤ (↑c2 : Int)) ∧
                                                      ((0 : Int) ≤ i69 ∧ i69 ≤ (↑i70.toNat : Int)) ∧
                                                       ∃ (s71 : ByteArray),
                                                        s71.size = i70.toNat - i69.toNat ∧
                                                         BytesAt w53.drew (cutA p2 c2 i69.toNat (1 : Nat)) s71 ∧
                                                          (s66.extract (0 : Nat) i68.toNat).size + s71.size ≤ (9223372036854775807 : Nat) ∧
                                                           Wr IntKind.i64 ((512 : Int) * i52) fun (i72 : Int) =>
                                                            Wr IntKind.i64 (i60 - i72) fun (i73 : Int) =>
                                                             ((0 : Int) ≤ i73 ∧ i73 ≤ (↑s66.size : Int)) ∧
                                                              (s66.extract (0 : Nat) i68.toNat ++ s71).size + (s66.extract i73.toNat s66.size).size ≤
                                                                (9223372036854775807 : Nat) ∧
                                                               SX.Ptr p0 fun (a74 : Addr) =>
                                                                ∃ (q75 : Option Addr),
                                                                 ∃ (n76 : Nat),
                                                                  ∃ (n77 : Nat),
                                                                   w53.drew.cell? (a74.add (0 : Nat)) = some (Value.slice q75 n76 n77) ∧
                                                                    ((0 : Int) ≤ i52 ∧ i52 < (↑n76 : Int)) ∧
                                                                     SX.Ptr q75 fun (a78 : Addr) =>
                                                                      (∃ (v79 : Value),
                                                                        w53.drew.cell? ((a78.add (i52.toNat * (1 : Nat))).add (0 : Nat)) =
                                                                         some v79) ∧
                                                                       w53.drew.frozen? ((a78.add (i52.toNat * (1 : Nat))).add (0 : Nat)) = false ∧
                                                                        SX.Ptr p0 fun (a80 : Addr) =>
                                                                         ∃ (q81 : Option Addr),
                                                                          ∃ (n82 : Nat),
                                                                           ∃ (n83 : Nat),
                                                                            (w53.drew.setCell ((a78.add (i52.toNat * (1 : Nat))).add (0 : Nat))
                                                                                 (Value.string
                                                                                  (s66.extract (0 : Nat) i68.toNat ++ s71 ++
                                                                                   s66.extract i73.toNat s66.size))).cell?
                                                                               (a80.add (3 : Nat)) =
                                                                              some (Value.slice q81 n82 n83) ∧
                                                                             Runs Try.prog
                                                                              (Builtin.append_ #[(32 : Nat), (32 : Nat)] (32 : Nat)
                                                                               #[Value.slice q81 n82 n83,
                                                                                Value.slice
                                                                                 (some
                                                                                  {
                                                                                   block :=
                                                                                    (w53.drew.setCell
                                                                                       ((a78.add (i52.toNat * (1 : Nat))).add
                                                                                        (0 : Nat))
                                                                                       (Value.string
                                                                                        (s66.extract (0 : Nat) i68.toNat ++ s71 ++
                                                                                         s66.extract i73.toNat
                                                                                          s66.size))).heap.size,
                                                                                   off := (0 : Nat) })
                                                                                 (1 : Nat) (1 : Nat)])
                                                                              ((w53.drew.setCell
                                                                                 ((a78.add (i52.toNat * (1 : Nat))).add (0 : Nat))
                                                                                 (Value.string
                                                                                  (s66.extract (0 : Nat) i68.toNat ++ s71 ++
                                                                                   s66.extract i73.toNat s66.size))).alloc
                                                                               (Obj.cells
                                                                                #[Value.int IntKind.i64 i52,
                                                                                 Value.string
                                                                                  (s66.extract (0 : Nat) i68.toNat ++ s71 ++
                                                                                   s66.extract i73.toNat s66.size)]
                                                                                (149 : Nat)))
                                                                              fun (v84 : Value) (w85 : World) =>
                                                                              ∃ (q86 : Option Addr),
                                                                               ∃ (n87 : Nat),
                                                                                ∃ (n88 : Nat),
                                                                                 v84 = Value.slice q86 n87 n88 ∧
                                                                                  Keeps
                                                                                    ((w53.drew.setCell
                                                                                       ((a78.add (i52.toNat * (1 : Nat))).add
                                                                                        (0 : Nat))
                                                                                       (Value.string
                                                                                        (s66.extract (0 : Nat) i68.toNat ++ s71 ++
                                                                                         s66.extract i73.toNat s66.size))).alloc
                                                                                     (Obj.cells
                                                                                      #[Value.int IntKind.i64 i52,
                                                                                       Value.string
                                                                                        (s66.extract (0 : Nat) i68.toNat ++ s71 ++
                                                                                         s66.extract i73.toNat s66.size)]
                                                                                      (149 : Nat)))
                                                                                    w85 [] ∧
                                                                                   SX.Ptr p0 fun (a89 : Addr) =>
                                                                                    (∃ (v90 : Value),
                                                                                      w85.cell? ((a89.add (3 : Nat)).add (0 : Nat)) =
                                                                                       some v90) ∧
                                                                                     w85.frozen? ((a89.add (3 : Nat)).add (0 : Nat)) =
                                                                                       false ∧
                                                                                      Wr IntKind.i64 (i52 + (1 : Int))
                                                                                       fun (i91 : Int) =>
                                                                                       I50 i91
                                                                                         (w85.setCell
                                                                                          ((a89.add (3 : Nat)).add (0 : Nat))
                                                                                          (Value.slice q86 n87 n88)) ∧
                                                                                        I51 i91
                                                                                          (w85.setCell
                                                                                           ((a89.add (3 : Nat)).add (0 : Nat))
                                                                                           (Value.slice q86 n87 n88)) <
                                                                                         I51 i52 w53
                                     else
                                      SX.Ptr p0 fun (a92 : Addr) =>
                                       ∃ (q93 : Option Addr),
                                        ∃ (n94 : Nat),
                                         ∃ (n95 : Nat),
                                          w53.cell? (a92.add (0 : Nat)) = some (Value.slice q93 n94 n95) ∧
                                           ((0 : Int) ≤ i52 ∧ i52 < (↑n94 : Int)) ∧
                                            SX.Ptr q93 fun (a96 : Addr) =>
                                             ∃ (s97 : ByteArray),
                                              w53.cell? (a96.add (i52.toNat * (1 : Nat))) = some (Value.string s97) ∧
                                               Wr IntKind.i64 ((512 : Int) * i52) fun (i98 : Int) =>
                                                Wr IntKind.i64 (p1 - i98) fun (i99 : Int) =>
                                                 ((0 : Int) ≤ i99 ∧ i99 ≤ (↑s97.size : Int)) ∧
                                                  Wr IntKind.i64 (p1 - p1) fun (i100 : Int) =>
                                                   Wr IntKind.i64 (i58 - p1) fun (i101 : Int) =>
                                                    ((0 : Int) ≤ i101 ∧ i101 ≤ (↑c2 : Int)) ∧
                                                     ((0 : Int) ≤ i100 ∧ i100 ≤ (↑i101.toNat : Int)) ∧
                                                      ∃ (s102 : ByteArray),
                                                       s102.size = i101.toNat - i100.toNat ∧
                                                        BytesAt w53.drew (cutA p2 c2 i100.toNat (1 : Nat)) s102 ∧
                                                         (s97.extract (0 : Nat) i99.toNat).size + s102.size ≤ (9223372036854775807 : Nat) ∧
                                                          Wr IntKind.i64 ((512 : Int) * i52) fun (i103 : Int) =>
                                                           Wr IntKind.i64 (i58 - i103) fun (i104 : Int) =>
                                                            ((0 : Int) ≤ i104 ∧ i104 ≤ (↑s97.size : Int)) ∧
                                                             (s97.extract (0 : Nat) i99.toNat ++ s102).size + (s97.extract i104.toNat s97.size).size ≤
                                                               (9223372036854775807 : Nat) ∧
                                                              SX.Ptr p0 fun (a105 : Addr) =>
                                                               ∃ (q106 : Option Addr),
                                                                ∃ (n107 : Nat),
                                                                 ∃ (n108 : Nat),
                                                                  w53.drew.cell? (a105.add (0 : Nat)) = some (Value.slice q106 n107 n108) ∧
                                                                   ((0 : Int) ≤ i52 ∧ i52 < (↑n107 : Int)) ∧
                                                                    SX.Ptr q106 fun (a109 : Addr) =>
                                                                     (∃ (v110 : Value),
                                                                       w53.drew.cell? ((a109.add (i52.toNat * (1 : Nat))).add (0 : Nat)) =
                                                                        some v110) ∧
                                                                      w53.drew.frozen? ((a109.add (i52.toNat * (1 : Nat))).add (0 : Nat)) = false ∧
                                                                       SX.Ptr p0 fun (a111 : Addr) =>
                                                                        ∃ (q112 : Option Addr),
                                                                         ∃ (n113 : Nat),
                                                                          ∃ (n114 : Nat),
                                                                           (w53.drew.setCell ((a109.add (i52.toNat * (1 : Nat))).add (0 : Nat))
                                                                                (Value.string
                                                                                 (s97.extract (0 : Nat) i99.toNat ++ s102 ++
                                                                                  s97.extract i104.toNat s97.size))).cell?
                                                                              (a111.add (3 : Nat)) =
                                                                             some (Value.slice q112 n113 n114) ∧
                                                                            Runs Try.prog
                                                                             (Builtin.append_ #[(32 : Nat), (32 : Nat)] (32 : Nat)
                                                                              #[Value.slice q112 n113 n114,
                                                                               Value.slice
                                                                                (some
                                                                                 {
                                                                                  block :=
                                                                                   (w53.drew.setCell
                                                                                      ((a109.add (i52.toNat * (1 : Nat))).add
                                                                                       (0 : Nat))
                                                                                      (Value.string
                                                                                       (s97.extract (0 : Nat) i99.toNat ++ s102 ++
                                                                                        s97.extract i104.toNat
                                                                                         s97.size))).heap.size,
                                                                                  off := (0 : Nat) })
                                                                                (1 : Nat) (1 : Nat)])
                                                                             ((w53.drew.setCell
                                                                                ((a109.add (i52.toNat * (1 : Nat))).add (0 : Nat))
                                                                                (Value.string
                                                                                 (s97.extract (0 : Nat) i99.toNat ++ s102 ++
                                                                                  s97.extract i104.toNat s97.size))).alloc
                                                                              (Obj.cells
                                                                               #[Value.int IntKind.i64 i52,
                                                                                Value.string
                                                                                 (s97.extract (0 : Nat) i99.toNat ++ s102 ++
                                                                                  s97.extract i104.toNat s97.size)]
                                                                               (149 : Nat)))
                                                                             fun (v115 : Value) (w116 : World) =>
                                                                             ∃ (q117 : Option Addr),
                                                                              ∃ (n118 : Nat),
                                                                               ∃ (n119 : Nat),
                                                                                v115 = Value.slice q117 n118 n119 ∧
                                                                                 Keeps
                                                                                   ((w53.drew.setCell
                                                                                      ((a109.add (i52.toNat * (1 : Nat))).add
                                                                                       (0 : Nat))
                                                                                      (Value.string
                                                                                       (s97.extract (0 : Nat) i99.toNat ++ s102 ++
                                                                                        s97.extract i104.toNat s97.size))).alloc
                                                                                    (Obj.cells
                                                                                     #[Value.int IntKind.i64 i52,
                                                                                      Value.string
                                                                                       (s97.extract (0 : Nat) i99.toNat ++ s102 ++
                                                                                        s97.extract i104.toNat s97.size)]
                                                                                     (149 : Nat)))
                                                                                   w116 [] ∧
                                                                                  SX.Ptr p0 fun (a120 : Addr) =>
                                                                                   (∃ (v121 : Value),
                                                                                     w116.cell? ((a120.add (3 : Nat)).add (0 : Nat)) =
                                                                                      some v121) ∧
                                                                                    w116.frozen? ((a120.add (3 : Nat)).add (0 : Nat)) =
                                                                                      false ∧
                                                                                     Wr IntKind.i64 (i52 + (1 : Int))
                                                                                      fun (i122 : Int) =>
                                                                                      I50 i122
                                                                                        (w116.setCell
                                                                                         ((a120.add (3 : Nat)).add (0 : Nat))
                                                                                         (Value.slice q117 n118 n119)) ∧
                                                                                       I51 i122
                                                                                         (w116.setCell
                                                                                          ((a120.add (3 : Nat)).add (0 : Nat))
                                                                                          (Value.slice q117 n118 n119)) <
                                                                                        I51 i52 w53
                                   else
                                    Wr IntKind.i64 (p1 + (↑n2 : Int)) fun (i123 : Int) =>
                                     bif decide (i58 > i123) then
                                      Wr IntKind.i64 (p1 + (↑n2 : Int)) fun (i124 : Int) =>
                                       SX.Ptr p0 fun (a125 : Addr) =>
                                        ∃ (q126 : Option Addr),
                                         ∃ (n127 : Nat),
                                          ∃ (n128 : Nat),
                                           w53.cell? (a125.add (0 : Nat)) = some (Value.slice q126 n127 n128) ∧
                                            ((0 : Int) ≤ i52 ∧ i52 < (↑n127 : Int)) ∧
                                             SX.Ptr q126 fun (a129 : Addr) =>
                                              ∃ (s130 : ByteArray),
                                               w53.cell? (a129.add (i52.toNat * (1 : Nat))) = some (Value.string s130) ∧
                                                Wr IntKind.i64 ((512 : Int) * i52) fun (i131 : Int) =>
                                                 Wr IntKind.i64 (i56 - i131) fun (i132 : Int) =>
                                                  ((0 : Int) ≤ i132 ∧ i132 ≤ (↑s130.size : Int)) ∧
                                                   Wr IntKind.i64 (i56 - p1) fun (i133 : Int) =>
                                                    Wr IntKind.i64 (i124 - p1) fun (i134 : Int) =>
                                                     ((0 : Int) ≤ i134 ∧ i134 ≤ (↑c2 : Int)) ∧
                                                      ((0 : Int) ≤ i133 ∧ i133 ≤ (↑i134.toNat : Int)) ∧
                                                       ∃ (s135 : ByteArray),
                                                        s135.size = i134.toNat - i133.toNat ∧
                                                         BytesAt w53.drew (cutA p2 c2 i133.toNat (1 : Nat)) s135 ∧
                                                          (s130.extract (0 : Nat) i132.toNat).size + s135.size ≤ (9223372036854775807 : Nat) ∧
                                                           Wr IntKind.i64 ((512 : Int) * i52) fun (i136 : Int) =>
                                                            Wr IntKind.i64 (i124 - i136) fun (i137 : Int) =>
                                                             ((0 : Int) ≤ i137 ∧ i137 ≤ (↑s130.size : Int)) ∧
                                                              (s130.extract (0 : Nat) i132.toNat ++ s135).size + (s130.extract i137.toNat s130.size).size ≤
                                                                (9223372036854775807 : Nat) ∧
                                                               SX.Ptr p0 fun (a138 : Addr) =>
                                                                ∃ (q139 : Option Addr),
                                                                 ∃ (n140 : Nat),
                                                                  ∃ (n141 : Nat),
                                                                   w53.drew.cell? (a138.add (0 : Nat)) = some (Value.slice q139 n140 n141) ∧
                                                                    ((0 : Int) ≤ i52 ∧ i52 < (↑n140 : Int)) ∧
                                                                     SX.Ptr q139 fun (a142 : Addr) =>
                                                                      (∃ (v143 : Value),
                                                                        w53.drew.cell? ((a142.add (i52.toNat * (1 : Nat))).add (0 : Nat)) =
                                                                         some v143) ∧
                                                                       w53.drew.frozen? ((a142.add (i52.toNat * (1 : Nat))).add (0 : Nat)) = false ∧
                                                                        SX.Ptr p0 fun (a144 : Addr) =>
                                                                         ∃ (q145 : Option Addr),
                                                                          ∃ (n146 : Nat),
                                                                           ∃ (n147 : Nat),
                                                                            (w53.drew.setCell ((a142.add (i52.toNat * (1 : Nat))).add (0 : Nat))
                                                                                 (Value.string
                                                                                  (s130.extract (0 : Nat) i132.toNat ++ s135 ++
                                                                                   s130.extract i137.toNat s130.size))).cell?
                                                                               (a144.add (3 : Nat)) =
                                                                              some (Value.slice q145 n146 n147) ∧
                                                                             Runs Try.prog
                                                                              (Builtin.append_ #[(32 : Nat), (32 : Nat)] (32 : Nat)
                                                                               #[Value.slice q145 n146 n147,
                                                                                Value.slice
                                                                                 (some
                                                                                  {
                                                                                   block :=
                                                                                    (w53.drew.setCell
                                                                                       ((a142.add (i52.toNat * (1 : Nat))).add
                                                                                        (0 : Nat))
                                                                                       (Value.string
                                                                                        (s130.extract (0 : Nat) i132.toNat ++
                                                                                          s135 ++
                                                                                         s130.extract i137.toNat
                                                                                          s130.size))).heap.size,
                                                                                   off := (0 : Nat) })
                                                                                 (1 : Nat) (1 : Nat)])
                                                                              ((w53.drew.setCell
                                                                                 ((a142.add (i52.toNat * (1 : Nat))).add (0 : Nat))
                                                                                 (Value.string
                                                                                  (s130.extract (0 : Nat) i132.toNat ++ s135 ++
                                                                                   s130.extract i137.toNat s130.size))).alloc
                                                                               (Obj.cells
                                                                                #[Value.int IntKind.i64 i52,
                                                                                 Value.string
                                                                                  (s130.extract (0 : Nat) i132.toNat ++ s135 ++
                                                                                   s130.extract i137.toNat s130.size)]
                                                                                (149 : Nat)))
                                                                              fun (v148 : Value) (w149 : World) =>
                                                                              ∃ (q150 : Option Addr),
                                                                               ∃ (n151 : Nat),
                                                                                ∃ (n152 : Nat),
                                                                                 v148 = Value.slice q150 n151 n152 ∧
                                                                                  Keeps
                                                                                    ((w53.drew.setCell
                                                                                       ((a142.add (i52.toNat * (1 : Nat))).add
                                                                                        (0 : Nat))
                                                                                       (Value.string
                                                                                        (s130.extract (0 : Nat) i132.toNat ++
                                                                                          s135 ++
                                                                                         s130.extract i137.toNat s130.size))).alloc
                                                                                     (Obj.cells
                                                                                      #[Value.int IntKind.i64 i52,
                                                                                       Value.string
                                                                                        (s130.extract (0 : Nat) i132.toNat ++
                                                                                          s135 ++
                                                                                         s130.extract i137.toNat s130.size)]
                                                                                      (149 : Nat)))
                                                                                    w149 [] ∧
                                                                                   SX.Ptr p0 fun (a153 : Addr) =>
                                                                                    (∃ (v154 : Value),
                                                                                      w149.cell?
                                                                                        ((a153.add (3 : Nat)).add (0 : Nat)) =
                                                                                       some v154) ∧
                                                                                     w149.frozen?
                                                                                        ((a153.add (3 : Nat)).add (0 : Nat)) =
                                                                                       false ∧
                                                                                      Wr IntKind.i64 (i52 + (1 : Int))
                                                                                       fun (i155 : Int) =>
                                                                                       I50 i155
                                                                                         (w149.setCell
                                                                                          ((a153.add (3 : Nat)).add (0 : Nat))
                                                                                          (Value.slice q150 n151 n152)) ∧
                                                                                        I51 i155
                                                                                          (w149.setCell
                                                                                           ((a153.add (3 : Nat)).add (0 : Nat))
                                                                                           (Value.slice q150 n151 n152)) <
                                                                                         I51 i52 w53
                                     else
                                      SX.Ptr p0 fun (a156 : Addr) =>
                                       ∃ (q157 : Option Addr),
                                        ∃ (n158 : Nat),
                                         ∃ (n159 : Nat),
                                          w53.cell? (a156.add (0 : Nat)) = some (Value.slice q157 n158 n159) ∧
                                           ((0 : Int) ≤ i52 ∧ i52 < (↑n158 : Int)) ∧
                                            SX.Ptr q157 fun (a160 : Addr) =>
                                             ∃ (s161 : ByteArray),
                                              w53.cell? (a160.add (i52.toNat * (1 : Nat))) = some (Value.string s161) ∧
                                               Wr IntKind.i64 ((512 : Int) * i52) fun (i162 : Int) =>
                                                Wr IntKind.i64 (i56 - i162) fun (i163 : Int) =>
                                                 ((0 : Int) ≤ i163 ∧ i163 ≤ (↑s161.size : Int)) ∧
                                                  Wr IntKind.i64 (i56 - p1) fun (i164 : Int) =>
                                                   Wr IntKind.i64 (i58 - p1) fun (i165 : Int) =>
                                                    ((0 : Int) ≤ i165 ∧ i165 ≤ (↑c2 : Int)) ∧
                                                     ((0 : Int) ≤ i164 ∧ i164 ≤ (↑i165.toNat : Int)) ∧
                                                      ∃ (s166 : ByteArray),
                                                       s166.size = i165.toNat - i164.toNat ∧
                                                        BytesAt w53.drew (cutA p2 c2 i164.toNat (1 : Nat)) s166 ∧
                                                         (s161.extract (0 : Nat) i163.toNat).size + s166.size ≤ (9223372036854775807 : Nat) ∧
                                                          Wr IntKind.i64 ((512 : Int) * i52) fun (i167 : Int) =>
                                                           Wr IntKind.i64 (i58 - i167) fun (i168 : Int) =>
                                                            ((0 : Int) ≤ i168 ∧ i168 ≤ (↑s161.size : Int)) ∧
                                                             (s161.extract (0 : Nat) i163.toNat ++ s166).size + (s161.extract i168.toNat s161.size).size ≤
                                                               (9223372036854775807 : Nat) ∧
                                                              SX.Ptr p0 fun (a169 : Addr) =>
                                                               ∃ (q170 : Option Addr),
                                                                ∃ (n171 : Nat),
                                                                 ∃ (n172 : Nat),
                                                                  w53.drew.cell? (a169.add (0 : Nat)) = some (Value.slice q170 n171 n172) ∧
                                                                   ((0 : Int) ≤ i52 ∧ i52 < (↑n171 : Int)) ∧
                                                                    SX.Ptr q170 fun (a173 : Addr) =>
                                                                     (∃ (v174 : Value),
                                                                       w53.drew.cell? ((a173.add (i52.toNat * (1 : Nat))).add (0 : Nat)) =
                                                                        some v174) ∧
                                                                      w53.drew.frozen? ((a173.add (i52.toNat * (1 : Nat))).add (0 : Nat)) = false ∧
                                                                       SX.Ptr p0 fun (a175 : Addr) =>
                                                                        ∃ (q176 : Option Addr),
                                                                         ∃ (n177 : Nat),
                                                                          ∃ (n178 : Nat),
                                                                           (w53.drew.setCell ((a173.add (i52.toNat * (1 : Nat))).add (0 : Nat))
                                                                                (Value.string
                                                                                 (s161.extract (0 : Nat) i163.toNat ++ s166 ++
                                                                                  s161.extract i168.toNat s161.size))).cell?
                                                                              (a175.add (3 : Nat)) =
                                                                             some (Value.slice q176 n177 n178) ∧
                                                                            Runs Try.prog
                                                                             (Builtin.append_ #[(32 : Nat), (32 : Nat)] (32 : Nat)
                                                                              #[Value.slice q176 n177 n178,
                                                                               Value.slice
                                                                                (some
                                                                                 {
                                                                                  block :=
                                                                                   (w53.drew.setCell
                                                                                      ((a173.add (i52.toNat * (1 : Nat))).add
                                                                                       (0 : Nat))
                                                                                      (Value.string
                                                                                       (s161.extract (0 : Nat) i163.toNat ++ s166 ++
                                                                                        s161.extract i168.toNat
                                                                                         s161.size))).heap.size,
                                                                                  off := (0 : Nat) })
                                                                                (1 : Nat) (1 : Nat)])
                                                                             ((w53.drew.setCell
                                                                                ((a173.add (i52.toNat * (1 : Nat))).add (0 : Nat))
                                                                                (Value.string
                                                                                 (s161.extract (0 : Nat) i163.toNat ++ s166 ++
                                                                                  s161.extract i168.toNat s161.size))).alloc
                                                                              (Obj.cells
                                                                               #[Value.int IntKind.i64 i52,
                                                                                Value.string
                                                                                 (s161.extract (0 : Nat) i163.toNat ++ s166 ++
                                                                                  s161.extract i168.toNat s161.size)]
                                                                               (149 : Nat)))
                                                                             fun (v179 : Value) (w180 : World) =>
                                                                             ∃ (q181 : Option Addr),
                                                                              ∃ (n182 : Nat),
                                                                               ∃ (n183 : Nat),
                                                                                v179 = Value.slice q181 n182 n183 ∧
                                                                                 Keeps
                                                                                   ((w53.drew.setCell
                                                                                      ((a173.add (i52.toNat * (1 : Nat))).add
                                                                                       (0 : Nat))
                                                                                      (Value.string
                                                                                       (s161.extract (0 : Nat) i163.toNat ++ s166 ++
                                                                                        s161.extract i168.toNat s161.size))).alloc
                                                                                    (Obj.cells
                                                                                     #[Value.int IntKind.i64 i52,
                                                                                      Value.string
                                                                                       (s161.extract (0 : Nat) i163.toNat ++ s166 ++
                                                                                        s161.extract i168.toNat s161.size)]
                                                                                     (149 : Nat)))
                                                                                   w180 [] ∧
                                                                                  SX.Ptr p0 fun (a184 : Addr) =>
                                                                                   (∃ (v185 : Value),
                                                                                     w180.cell? ((a184.add (3 : Nat)).add (0 : Nat)) =
                                                                                      some v185) ∧
                                                                                    w180.frozen? ((a184.add (3 : Nat)).add (0 : Nat)) =
                                                                                      false ∧
                                                                                     Wr IntKind.i64 (i52 + (1 : Int))
                                                                                      fun (i186 : Int) =>
                                                                                      I50 i186
                                                                                        (w180.setCell
                                                                                         ((a184.add (3 : Nat)).add (0 : Nat))
                                                                                         (Value.slice q181 n182 n183)) ∧
                                                                                       I51 i186
                                                                                         (w180.setCell
                                                                                          ((a184.add (3 : Nat)).add (0 : Nat))
                                                                                          (Value.slice q181 n182 n183)) <
                                                                                        I51 i52 w53
                               else R (Ending.returned (Value.int IntKind.i64 (0 : Int))) w53
                            else R (Ending.returned (Value.int IntKind.i64 (0 : Int))) w53
theorem vcTry58 (p0 : Option Addr) (p1 : Int) (p2 : Option Addr) (n2 c2 : Nat) (w : World) (R : Ending → World → Prop) : SX.vcFn Try.prog [(11, ⟨[(8, .int .i64)], [0, 1, 2, 7], []⟩), (6, ⟨[], [0, 1, 2, 7], []⟩)] Try.f58 [.v (.pointer p0), .v (.int .i64 p1), .v (.slice p2 n2 c2)] [] w R = VCTry58 p0 p1 p2 n2 c2 w R := by kernel_rfl
end Go.Proofs.Ytlgkcbdpaffigaa

namespace Go.Proofs.Ytlgkcbdpaffigaa
open Go Go.SX Go.Proofs
set_option maxRecDepth 100000
set_option linter.unusedVariables false
set_option linter.unusedSimpArgs false
/-! ### The document's disk -/
def strL (f : Int → Int) (n : Nat) : List Value := (List.range n).map fun i : Nat => .string (SX.strOf f (512 * i) 512)
def boolL (h : Nat → Bool) (n : Nat) : List Value := (List.range n).map fun i : Nat => .bool (h i)
def waitC (e : Nat × (Int → Int)) : List Value := [.int .i64 e.1, .string (SX.strOf e.2 (512 * e.1) 512)]
def waitL (l : List (Nat × (Int → Int))) : List Value := l.flatMap waitC
theorem strL_get (f : Int → Int) {n i : Nat} (h : i < n) : (strL f n)[i]? = some (.string (SX.strOf f (512 * i) 512)) := by simp [strL, h]
theorem boolL_get (f : Nat → Bool) {n i : Nat} (h : i < n) : (boolL f n)[i]? = some (.bool (f i)) := by simp [boolL, h]
theorem strOf_eq {f g : Int → Int} {a c : Int} {k : Nat} (h : ∀ i : Nat, i < k → f (a + i) = g (c + i)) : SX.strOf f a k = SX.strOf g c k := by
  unfold SX.strOf
  congr 2
  apply List.map_congr_left
  intro i hi
  rw [h i (List.mem_range.1 hi)]
theorem strL_set (f g : Int → Int) (n k : Nat) : (strL f n).set k (.string (SX.strOf g 0 512)) = strL (fun p => if 512 * (k : Int) ≤ p ∧ p < 512 * k + 512 then g (p - 512 * k) else f p) n := by
  apply List.ext_getElem
  · simp [strL]
  · intro i h1 h2
    rw [List.getElem_set]
    simp only [strL, List.getElem_map, List.getElem_range]
    by_cases e : k = i
    · subst e
      rw [if_pos rfl]
      congr 1
      refine strOf_eq fun j hj => ?_
      rw [if_pos (by omega)]
      congr 1; omega
    · rw [if_neg e]
      congr 1
      refine strOf_eq fun j hj => ?_
      rw [if_neg (by omega)]
theorem boolL_set (f : Nat → Bool) (n k : Nat) (t : Bool) : (boolL f n).set k (.bool t) = boolL (fun j => if j = k then t else f j) n := by
  apply List.ext_getElem
  · simp [boolL]
  · intro i h1 h2
    rw [List.getElem_set]
    simp only [boolL, List.getElem_map, List.getElem_range]
    by_cases e : k = i
    · rw [if_pos e, if_pos e.symm]
    · rw [if_neg e, if_neg (fun h => e h.symm)]
/-- A row that a struct's cell points at. -/
def Row0 (w : World) (col : Col) (D o k : Nat) (e : TypeId) (size n : Nat) (xs : List Value) : Prop := ∃ q c, w.cell? ⟨D, o, none⟩ = some (.slice q n c) ∧ OwnRow w (cl col k) e size (.slice q n c) n xs
structure RDsk (w : World) (col : Col) (D : Nat) (s : St) : Prop where
  colD : col D = 1
  lt : ∀ i, col i ≠ 0 → i < w.heap.size
  frz : ∀ o, w.frozen? ⟨D, o, none⟩ = false
  now : Row0 w col D 0 2 9 1 s.size (strL s.now s.size)
  safe : ∃ xs, Row0 w col D 1 3 9 1 s.size xs ∧ ∀ i, i < s.size → (∃ t, xs[i]? = some (.string t)) ∧ (s.has i = true → xs[i]? = some (.string (SX.strOf s.safe (512 * i) 512)))
  has : Row0 w col D 2 4 4 1 s.size (boolL s.has s.size)
  wait : Row0 w col D 3 5 149 2 s.wait.length (waitL s.wait)
  ok : s.Ok
section
variable {w w' : World} {col col' : Col} {D : Nat} {s : St} {S : Nat → Prop}
theorem Row0.kpc {o k : Nat} {e : TypeId} {size n : Nat} {xs : List Value} (h : Row0 w col D o k e size n xs) (hk : Kp S w w') (hs : ∀ i, i < w.heap.size → S i → col i ≠ k) (hc : ∀ i, i < w.heap.size → col' i = col i) (hd : ∀ v, w.cell? ⟨D, o, none⟩ = some v → w'.cell? ⟨D, o, none⟩ = some v) : Row0 w' col' D o k e size n xs := by
  obtain ⟨q, c, h1, h2⟩ := h
  exact ⟨q, c, hd _ h1, OwnRow.kpc h2 hk hs hc⟩
theorem Row0.setAt {o k : Nat} {e : TypeId} {n : Nat} {xs : List Value} (h : Row0 w col D o k e 1 n xs) (hD : col D ≠ k) {i : Nat} (hi : i < n) :
    ∃ g c, w.cell? ⟨D, o, none⟩ = some (.slice (some ⟨g, 0, none⟩) n c) ∧ col g = k ∧ (∃ u, w.cell? ⟨g, i, none⟩ = some u) ∧ w.frozen? ⟨g, i, none⟩ = false ∧
      ∀ v, Row0 (w.setCell ⟨g, i, none⟩ v) col D o k e 1 n (xs.set i v) ∧ Kp (cl col k) w (w.setCell ⟨g, i, none⟩ v) := by
  obtain ⟨q, c, h1, h2⟩ := h
  obtain ⟨g, rfl, hg, hu, hf, hset⟩ := OwnRow.setAt h2 hi
  have hg' : col g = k := hg
  refine ⟨g, c, h1, hg', hu, hf, fun v => ⟨⟨_, c, ?_, (hset v).1⟩, (hset v).2⟩⟩
  exact (hset v).2.cell h1 (fun hh => hD hh)
theorem Row0.at {o k : Nat} {e : TypeId} {size n : Nat} {xs : List Value} (h : Row0 w col D o k e size n xs) : ∃ q c, w.cell? ⟨D, o, none⟩ = some (.slice q n c) ∧ ∀ j u, xs[j]? = some u → ∃ a, q = some a ∧ w.cell? (a.add j) = some u := by
  obtain ⟨q, c, h1, h2⟩ := h
  exact ⟨q, c, h1, fun j u hj => h2.at hj⟩
theorem RDsk.dlt (h : RDsk w col D s) : D < w.heap.size := h.lt D (by rw [h.colD]; omega)
theorem RDsk.kp (h : RDsk w col D s) (hk : Kp S w w') (hs : ∀ i, S i → col i = 0) : RDsk w' col D s := by
  have hd := h.dlt
  have nD : ¬ S D := fun hh => by have := hs D hh; rw [h.colD] at this; omega
  have ne : ∀ (k : Nat), k ≠ 0 → ∀ i, i < w.heap.size → S i → col i ≠ k := fun k hk i _ hh => by rw [hs i hh]; omega
  have hc : ∀ o v, w.cell? ⟨D, o, none⟩ = some v → w'.cell? ⟨D, o, none⟩ = some v := fun o v hv => hk.cell hv nD
  obtain ⟨xs, x1, x2⟩ := h.safe
  exact ⟨h.colD, fun i hi => Nat.lt_of_lt_of_le (h.lt i hi) hk.size, fun o => (hk.frz ⟨D, o, none⟩ hd).trans (h.frz o), h.now.kpc hk (ne 2 (by omega)) (fun _ _ => rfl) (hc 0), ⟨xs, x1.kpc hk (ne 3 (by omega)) (fun _ _ => rfl) (hc 1), x2⟩, h.has.kpc hk (ne 4 (by omega)) (fun _ _ => rfl) (hc 2), h.wait.kpc hk (ne 5 (by omega)) (fun _ _ => rfl) (hc 3), h.ok⟩
theorem RDsk.kp0 (h : RDsk w col D s) (hk : Kp none_ w w') : RDsk w' col D s := h.kp hk fun _ h => h.elim
theorem RDsk.drew (h : RDsk w col D s) : RDsk w.drew col D s := h.kp0 (Kp.refl none_ w).drew
/-- Only strings of 'Now' were changed. -/
theorem RDsk.nowSet (h : RDsk w col D s) {now' : Int → Int} (hk : Kp (cl col 2) w w') (hr : Row0 w' col D 0 2 9 1 s.size (strL now' s.size)) (hb : ∀ p, isByte (now' p)) : RDsk w' col D { s with now := now' } := by
  have hd := h.dlt
  have nD : ¬ cl col 2 D := fun hh => by have := h.colD; unfold cl at hh; omega
  have ne : ∀ (k : Nat), k ≠ 2 → ∀ i, i < w.heap.size → cl col 2 i → col i ≠ k := fun k hk i _ hh => by unfold cl at hh; omega
  have hc : ∀ o v, w.cell? ⟨D, o, none⟩ = some v → w'.cell? ⟨D, o, none⟩ = some v := fun o v hv => hk.cell hv nD
  obtain ⟨xs, x1, x2⟩ := h.safe
  exact ⟨h.colD, fun i hi => Nat.lt_of_lt_of_le (h.lt i hi) hk.size, fun o => (hk.frz ⟨D, o, none⟩ hd).trans (h.frz o), hr, ⟨xs, x1.kpc hk (ne 3 (by omega)) (fun _ _ => rfl) (hc 1), x2⟩, h.has.kpc hk (ne 4 (by omega)) (fun _ _ => rfl) (hc 2), h.wait.kpc hk (ne 5 (by omega)) (fun _ _ => rfl) (hc 3), ⟨h.ok.size, hb, h.ok.safe, h.ok.wait⟩⟩
theorem c96 (h : RDsk w col D s) (at_ n : Int) (hr : rightF at_ n = true) : Rets Try.prog 96 #[.pointer (some ⟨D, 0, none⟩), .int .i64 at_, .int .i64 n] w fun v w' => v = .int .i64 (needF s at_ n) ∧ w' = w := by
  refine ent [_, _, _] Try.func96 ((vcTry96 _ _ _ w _).mpr ?_)
  unfold VCTry96
  have hs := h.ok.size
  unfold rightF at hr
  have hr' := of_decide_eq_true hr
  obtain ⟨q, c, h1, _⟩ := h.now
  have e : (at_ + n + 511).tdiv 512 = (at_ + n + 511) / 512 := by rw [Int.tdiv_eq_ediv_of_nonneg (by omega)]
  simp only [ptr_some, ad_add, Nat.zero_add]
  refine ⟨_, _, _, h1, bif_dec (fun hp => wr64 (by omega) (wr64 (by omega) ⟨by omega, ?_⟩)) (fun hp => ⟨_, rfl, ?_, trivial⟩)⟩
  · rw [e]
    refine wr64 (by omega) (bif_dec (fun hx => wr64 (by omega) (wr64 (by omega) ⟨by omega, wr64 (by omega) ⟨_, rfl, ?_, trivial⟩⟩)) (fun hx => ⟨_, rfl, ?_, trivial⟩))
    · unfold needF; rw [if_neg (by omega)]; congr 1; omega
    · unfold needF; rw [if_neg (by omega)]; congr 1; omega
  · unfold needF; rw [if_pos (by omega)]
theorem row_bytes {own : Nat → Prop} {f : Int → Int} {q : Option Addr} {n m c : Nat} (h : OwnRow w own 5 1 (.slice q m c) n (byF f n)) (hf : ∀ p, isByte (f p)) : BytesAt w q (SX.strOf f 0 n) := by
  intro i hi
  have hik : i < n := by rw [strOf_size] at hi; exact hi
  obtain ⟨a, e, hc⟩ := h.at (j := i) (u := .int .u8 (f i)) (byF_get _ hik)
  refine ⟨a, e, ?_⟩
  rw [hc, strOf_get]
  have hx := hf i
  unfold isByte at hx
  congr 2
  rw [UInt8.toNat_ofNat']
  simp only [Int.zero_add]
  omega
theorem c97 (w : World) : Rets Try.prog 97 #[] w fun v w' => v = .string (SX.strOf (fun _ => 0) 0 512) ∧ Kp none_ w w' := by
  refine ent [] Try.func97 ((vcTry97 w _).mpr ?_)
  unfold VCTry97
  obtain ⟨i5, i51, i52, i53, i54⟩ := info5
  refine make_own (n := 512) Try.underlying25 ⟨i5, .int .u8 0, i51, i52, i53, rfl, by omega, fun w2 r2 k2 => ?_⟩ (by omega)
  have zrow : List.replicate 512 (Value.int .u8 0) = byF (fun _ => 0) 512 := by
    apply List.ext_getElem
    · rw [byF_len, List.length_replicate]
    · intro i h1 h2; simp only [byF, List.getElem_map, List.getElem_range, List.getElem_replicate]
  rw [zrow] at r2
  exact ⟨_, _, _, rfl, k2.keeps0, _, strOf_size _ _ _, row_bytes r2 (fun _ => by unfold isByte; omega), _, rfl, rfl, k2⟩
theorem strange_byte (i : Nat) (fill p : Int) : isByte (strangeF i fill p) := ⟨Int.emod_nonneg _ (by decide), Int.emod_lt_of_pos _ (by decide)⟩
theorem c98 (w : World) (i : Nat) (hi : i ≤ 4096) (fill : Int) (hf : isByte fill) : Rets Try.prog 98 #[.int .i64 i, .int .u8 fill] w fun v w' => v = .string (SX.strOf (strangeF i fill) 0 512) ∧ Kp none_ w w' := by
  refine ent [_, _] Try.func98 ((vcTry98 _ _ w _).mpr ?_)
  unfold VCTry98
  obtain ⟨i5, i51, i52, i53, i54⟩ := info5
  refine make_own (n := 512) Try.underlying25 ⟨i5, .int .u8 0, i51, i52, i53, rfl, by omega, fun w2 r2 k2 => ?_⟩ (by omega)
  have zrow : List.replicate 512 (Value.int .u8 0) = byF (fun p => if p < 0 then strangeF i fill p else 0) 512 := by
    apply List.ext_getElem
    · rw [byF_len, List.length_replicate]
    · intro j h1 h2
      simp only [byF, List.getElem_map, List.getElem_range, List.getElem_replicate]
      rw [if_neg (by omega)]
  rw [zrow] at r2
  unfold isByte at hf
  refine ⟨_, _, _, rfl, k2.keeps0, fun j w' => (0 ≤ j ∧ j ≤ 512) ∧ Kp none_ w w' ∧ OwnRow w' (fresh w) 5 1 (.slice (some ⟨w.heap.size, 0, none⟩) 512 512) 512 (byF (fun p => if p < j then strangeF i fill p else 0) 512), fun j _ => (512 - j).toNat, ⟨by omega, k2, r2⟩, ?_⟩
  rintro j w3 ⟨hj, k3, r3⟩
  refine bif_dec (fun hlt => ?_) (fun hge => ?_)
  rotate_left
  · have : j = 512 := by omega
    subst this
    rw [byF_congr (g := strangeF i fill) (fun k hk => if_pos (by omega))] at r3
    exact ⟨_, strOf_size _ _ _, row_bytes r3 (strange_byte i fill), _, rfl, rfl, k3⟩
  obtain ⟨J, rfl⟩ := Int.eq_ofNat_of_zero_le hj.1
  obtain ⟨g, e, hog, hu, hfz, hset⟩ := OwnRow.setAt r3 (i := J) (by omega)
  cases e
  have ew : (fill + 7 * (i : Int) + (J : Int)).tmod 256 = (fill + 7 * (i : Int) + (J : Int)) % 256 := Int.tmod_eq_emod_of_nonneg (by omega)
  refine wr64 (by omega) (wr64 (by omega) (wr64 (by omega) (wr64 (by omega) ⟨by omega, ?_⟩)))
  rw [ew]
  refine wr8 (by omega) ⟨by omega, ?_⟩
  simp only [ptr_some, ad_add, Nat.mul_one, Nat.zero_add, Nat.add_zero, Int.toNat_natCast]
  obtain ⟨r4, k4⟩ := hset (.int .u8 ((fill + 7 * (i : Int) + (J : Int)) % 256))
  refine ⟨hu, hfz, wr64 (by omega) ⟨⟨by omega, k3.then k4 (fun i hi hh => by unfold fresh at hh; omega), ?_⟩, by first | omega | (dsimp only; omega)⟩⟩
  rw [byF_set] at r4
  rw [byF_congr (g := fun p => if p = (J : Int) then (fill + 7 * (i : Int) + (J : Int)) % 256 else if p < (J : Int) then strangeF i fill p else 0)]
  · exact r4
  · intro k hk
    by_cases e : (k : Int) = (J : Int)
    · rw [if_pos e, if_pos (by omega), e]; rfl
    · rw [if_neg e]
      by_cases e2 : (k : Int) < (J : Int)
      · rw [if_pos e2, if_pos (by omega)]
      · rw [if_neg e2, if_neg (by omega)]
end
end Go.Proofs.Ytlgkcbdpaffigaa

namespace Go.Proofs.Ytlgkcbdpaffigaa
open Go Go.SX Go.Proofs
set_option maxRecDepth 100000
set_option linter.unusedVariables false
set_option linter.unusedSimpArgs false
section
variable {w w' : World} {col col' : Col} {D : Nat} {s : St} {S : Nat → Prop}
theorem Row0.get {o k : Nat} {e : TypeId} {size n : Nat} {xs : List Value} (h : Row0 w col D o k e size n xs) (hn : 0 < n) : ∃ g c, w.cell? ⟨D, o, none⟩ = some (.slice (some ⟨g, 0, none⟩) n c) ∧ col g = k ∧ ∀ j u, xs[j]? = some u → w.cell? ⟨g, j, none⟩ = some u := by
  obtain ⟨q, c, h1, h2⟩ := h
  obtain ⟨g, cur, rfl, _, hg, _, _, _⟩ := h2.parts hn
  refine ⟨g, c, h1, hg, fun j u hj => ?_⟩
  obtain ⟨a, e, ha⟩ := h2.at hj
  cases e
  rwa [ad_add, Nat.zero_add] at ha
theorem Row0.len {o k : Nat} {e : TypeId} {size n : Nat} {xs : List Value} (h : Row0 w col D o k e size n xs) : ∃ q c, w.cell? ⟨D, o, none⟩ = some (.slice q n c) := by
  obtain ⟨q, c, h1, h2⟩ := h
  exact ⟨q, c, h1⟩
theorem Row0.xlen {o k : Nat} {e : TypeId} {size n : Nat} {xs : List Value} (h : Row0 w col D o k e size n xs) : xs.length = n * size := by
  obtain ⟨q, c, h1, h2⟩ := h
  exact h2.1
theorem setNow_byte {s : St} (h : s.Ok) {f : Int → Int} (hf : ∀ p, isByte (f p)) (i : Nat) : ∀ p, isByte ((setNow s i f).now p) := fun p => by
  show isByte (if _ then _ else _)
  split
  · exact hf _
  · exact h.now p
theorem setSafe_ok {s : St} (h : s.Ok) {f : Int → Int} (hf : ∀ p, isByte (f p)) (i : Nat) : (setSafe s i f).Ok := ⟨h.size, h.now, fun p => by
  show isByte (if _ then _ else _)
  split
  · exact hf _
  · exact h.safe p, h.wait⟩
theorem secAt_str (f : Int → Int) (i : Nat) : SX.strOf (secAt f i) 0 512 = SX.strOf f (512 * i) 512 := strOf_eq fun j _ => by
  unfold secAt
  congr 1
  omega
/-- 'Safe' and 'Has' of one sector are set. -/
theorem RDsk.setSafe (h : RDsk w col D s) {i : Nat} (hi : i < s.size) {f : Int → Int} (hf : ∀ j, isByte (f j)) :
    ∃ g c g' c', w.cell? ⟨D, 1, none⟩ = some (.slice (some ⟨g, 0, none⟩) s.size c) ∧ (∃ u, w.cell? ⟨g, i, none⟩ = some u) ∧ w.frozen? ⟨g, i, none⟩ = false ∧
      (w.setCell ⟨g, i, none⟩ (.string (SX.strOf f 0 512))).cell? ⟨D, 2, none⟩ = some (.slice (some ⟨g', 0, none⟩) s.size c') ∧ (∃ u, (w.setCell ⟨g, i, none⟩ (.string (SX.strOf f 0 512))).cell? ⟨g', i, none⟩ = some u) ∧ (w.setCell ⟨g, i, none⟩ (.string (SX.strOf f 0 512))).frozen? ⟨g', i, none⟩ = false ∧
      Kp (fun i => col i = 3 ∨ col i = 4) w ((w.setCell ⟨g, i, none⟩ (.string (SX.strOf f 0 512))).setCell ⟨g', i, none⟩ (.bool true)) ∧ RDsk ((w.setCell ⟨g, i, none⟩ (.string (SX.strOf f 0 512))).setCell ⟨g', i, none⟩ (.bool true)) col D (Ytlgkcbdpaffigaa.setSafe s i f) := by
  have hd := h.dlt
  obtain ⟨xs, x1, x2⟩ := h.safe
  obtain ⟨g, c, e1, e2, e3, e4, e5⟩ := x1.setAt (by rw [h.colD]; omega) hi
  obtain ⟨r1, k1⟩ := e5 (.string (SX.strOf f 0 512))
  have hx := x1.xlen
  generalize hw1 : w.setCell ⟨g, i, none⟩ (.string (SX.strOf f 0 512)) = w1 at *
  have nD3 : ¬ cl col 3 D := fun hh => by have := h.colD; unfold cl at hh; omega
  have hh1 : Row0 w1 col D 2 4 4 1 s.size (boolL s.has s.size) := h.has.kpc k1 (fun i _ hh => by unfold cl at hh; omega) (fun _ _ => rfl) (fun v hv => k1.cell hv nD3)
  obtain ⟨g', c', y1, y2, y3, y4, y5⟩ := hh1.setAt (by rw [h.colD]; omega) hi
  obtain ⟨r2, k2⟩ := y5 (.bool true)
  have nD4 : ¬ cl col 4 D := fun hh => by have := h.colD; unfold cl at hh; omega
  have kk : Kp (fun i => col i = 3 ∨ col i = 4) w (w1.setCell ⟨g', i, none⟩ (.bool true)) := (k1.mono fun _ _ h => .inl h).trans (k2.mono fun _ _ h => .inr h)
  have nD : ¬ (col D = 3 ∨ col D = 4) := by rw [h.colD]; omega
  have hc : ∀ o v, w.cell? ⟨D, o, none⟩ = some v → (w1.setCell ⟨g', i, none⟩ (.bool true)).cell? ⟨D, o, none⟩ = some v := fun o v hv => kk.cell hv nD
  rw [boolL_set] at r2
  subst hw1
  refine ⟨g, c, g', c', e1, e3, e4, y1, y3, y4, kk, h.colD, fun i hi => Nat.lt_of_lt_of_le (h.lt i hi) kk.size, fun o => (kk.frz ⟨D, o, none⟩ hd).trans (h.frz o), h.now.kpc kk (fun i _ hh => by omega) (fun _ _ => rfl) (hc 0), ⟨_, r1.kpc k2 (fun i _ hh => by unfold cl at hh; omega) (fun _ _ => rfl) (fun v hv => k2.cell hv nD4), fun j hj => ?_⟩, r2, h.wait.kpc kk (fun i _ hh => by omega) (fun _ _ => rfl) (hc 3), setSafe_ok h.ok hf i⟩
  by_cases e : j = i
  · subst e
    have : (xs.set j (.string (SX.strOf f 0 512)))[j]? = some (.string (SX.strOf f 0 512)) := by rw [List.getElem?_set_self]; omega
    refine ⟨⟨_, this⟩, fun _ => ?_⟩
    rw [this]
    congr 2
    refine strOf_eq fun p hp => ?_
    show _ = if _ then _ else _
    rw [if_pos (by omega)]
    congr 1
    omega
  · have : (xs.set i (.string (SX.strOf f 0 512)))[j]? = xs[j]? := List.getElem?_set_ne (fun h => e h.symm)
    rw [this]
    refine ⟨(x2 j hj).1, fun hh => ?_⟩
    have hh' : s.has j = true := by
      have : (if j = i then true else s.has j) = true := hh
      rwa [if_neg e] at this
    rw [(x2 j hj).2 hh']
    congr 2
    refine strOf_eq fun p hp => ?_
    show _ = if _ then _ else _
    rw [if_neg (by omega)]
theorem syncTo0 (s : St) : syncTo s 0 = s := by
  obtain ⟨a, b, c, d, e⟩ := s
  simp only [syncTo, St.mk.injEq, true_and, and_true]
  exact ⟨funext fun j => if_neg (by omega), funext fun p => if_neg (by omega)⟩
theorem c59 (h : RDsk w col D s) : Rets Try.prog 59 #[.pointer (some ⟨D, 0, none⟩)] w fun v w' => v = .tuple #[] ∧ Kp (ownC col) w w' ∧ RDsk w' col D (syncSt s) := by
  refine ent [_] Try.func59 ((vcTry59 _ w _).mpr ?_)
  unfold VCTry59
  have hs := h.ok.size
  simp only [ptr_some, ad_add, Nat.zero_add, Nat.add_zero]
  refine ⟨fun i w' => ∃ k : Nat, i = k ∧ k ≤ s.size ∧ Kp (ownC col) w w' ∧ RDsk w' col D (syncTo s k), fun i _ => (s.size - i).toNat, ⟨0, rfl, by omega, Kp.refl _ _, by rw [syncTo0]; exact h⟩, ?_⟩
  rintro i w1 ⟨k, rfl, hk, k1, h1⟩
  obtain ⟨q, c, l1⟩ := h1.now.len
  refine ⟨_, _, _, l1, bif_dec (fun hlt => ?_) (fun hge => ?_)⟩
  · have hki : k < s.size := by have : (k : Int) < (s.size : Int) := hlt; omega
    obtain ⟨g0, c0, z1, z2, z3⟩ := h1.now.get (show 0 < (syncTo s k).size from (by show 0 < s.size; omega))
    rw [l1] at z1
    cases z1
    obtain ⟨g, c, g', c', e1, e2, e3, e4, e5, e6, e7, e8⟩ := h1.drew.setSafe (i := k) hki (f := secAt s.now k) (fun j => h.ok.now _)
    have hn : w1.cell? ⟨g0, k, none⟩ = some (.string (SX.strOf (secAt s.now k) 0 512)) := by
      rw [secAt_str]
      exact z3 k _ (strL_get _ hki)
    refine ⟨_, _, _, e1, _, _, _, l1, by omega, ?_⟩
    simp only [ptr_some, ad_add, Nat.zero_add, Nat.add_zero, Nat.mul_one, Int.toNat_natCast]
    refine ⟨_, hn, ⟨by omega, hlt⟩, e2, e3, _, _, _, e4, ⟨by omega, hlt⟩, ?_⟩
    simp only [ptr_some, ad_add, Nat.zero_add, Nat.add_zero, Nat.mul_one, Int.toNat_natCast]
    rw [syncTo_next'] at e8
    exact ⟨e5, e6, wr64 (by omega) ⟨⟨k + 1, by omega, by omega, k1.trans ((Kp.refl _ w1).drew.trans (e7.mono fun i _ hi => by show col i ≠ 0; omega)), e8⟩, by first | omega | (dsimp only; omega)⟩⟩
  · have : k = s.size := by have : ¬ (k : Int) < (s.size : Int) := hge; omega
    subst this
    obtain ⟨q3, c3, l3⟩ := h1.wait.len
    have kD : Kp (one_ D) w1 (w1.setCell ⟨D, 3, none⟩ (.slice none 0 0)) := Kp.setCell (S := one_ D) (x := ⟨D, 3, none⟩) (Kp.refl (one_ D) w1) _ (.inl rfl)
    have ne : ∀ i c, one_ D i → c ≠ 1 → col i ≠ c := fun i c hi hc => by have e : i = D := hi; rw [e, h1.colD]; omega
    have cD : ∀ o v, o ≠ 3 → w1.cell? ⟨D, o, none⟩ = some v → (w1.setCell ⟨D, 3, none⟩ (.slice none 0 0)).cell? ⟨D, o, none⟩ = some v := fun o v ho hv => by rw [cell_set_off _ (Ne.symm ho)]; exact hv
    obtain ⟨xs, x1, x2⟩ := h1.safe
    refine ⟨⟨_, l3⟩, h1.frz 3, _, rfl, rfl, k1.trans (kD.mono fun i _ hi => by have e : i = D := hi; show col i ≠ 0; rw [e, h.colD]; omega), h1.colD, fun i hi => by rw [show (w1.setCell ⟨D, 3, none⟩ (.slice none 0 0)).heap.size = w1.heap.size by simp [World.setCell]]; exact h1.lt i hi, fun o => by rw [frozen_set]; exact h1.frz o, h1.now.kpc kD (fun i _ hh => ne i 2 hh (by omega)) (fun _ _ => rfl) (cD 0 · (by omega)), ⟨xs, x1.kpc kD (fun i _ hh => ne i 3 hh (by omega)) (fun _ _ => rfl) (cD 1 · (by omega)), x2⟩, h1.has.kpc kD (fun i _ hh => ne i 4 hh (by omega)) (fun _ _ => rfl) (cD 2 · (by omega)), ⟨none, 0, cell_set_same _ l3, OwnRow.nil _ _ _ _⟩, ⟨h1.ok.size, h1.ok.now, h1.ok.safe, fun e he => by simp [syncSt] at he⟩⟩
end
end Go.Proofs.Ytlgkcbdpaffigaa

namespace Go.Proofs.Ytlgkcbdpaffigaa
open Go Go.SX Go.Proofs
set_option maxRecDepth 100000
set_option linter.unusedVariables false
set_option linter.unusedSimpArgs false
section
variable {w w' : World} {col col' : Col} {D : Nat} {s : St} {S : Nat → Prop}
theorem keepsA_past (s : St) (n : Nat) (kb : Nat → Bool) (k : Nat) (hn : n ≤ k) : ∀ m, keepsA s n kb (k + m) = keepsA s n kb k
  | 0 => rfl
  | m + 1 => by
    have ih := keepsA_past s n kb k hn m
    have e : keepsA s n kb (k + m + 1) = keepsA s n kb (k + m) := by
      rw [keepsA]
      split
      · rw [if_neg (by omega)]
      · rfl
    exact e.trans ih
theorem RDsk.nowPut (h : RDsk w col D s) {i : Nat} (hi : i < s.size) {f : Int → Int} (hf : ∀ j, isByte (f j)) (hk : Kp (cl col 2) w w') {xs : List Value} (hr : Row0 w' col D 0 2 9 1 s.size xs) (hx : xs = (strL s.now s.size).set i (.string (SX.strOf f 0 512))) : RDsk w' col D (setNow s i f) := by
  subst hx
  rw [strL_set] at hr
  exact h.nowSet hk hr (setNow_byte h.ok hf i)
theorem waitL_get {l : List (Nat × (Int → Int))} {k : Nat} {e : Nat × (Int → Int)} (h : l[k]? = some e) : (waitL l)[k * 2]? = some (.int .i64 e.1) ∧ (waitL l)[k * 2 + 1]? = some (.string (SX.strOf e.2 (512 * e.1) 512)) := by
  induction l generalizing k with
  | nil => simp at h
  | cons a l ih =>
    cases k with
    | zero =>
      simp at h
      subst h
      exact ⟨rfl, rfl⟩
    | succ k =>
      have := ih (k := k) (by simpa using h)
      have e1 : (k + 1) * 2 = k * 2 + 2 := by omega
      rw [e1]
      exact this
theorem c60 (h : RDsk w col D s) {q : Option Addr} {n cp : Nat} {kb : Nat → Bool} (hb : Bools w q n kb) (hq : 0 < n → ∀ a, q = some a → col a.block = 0) (fill : Int) (hf : isByte fill) (hl : s.wait.length ≤ 100000) :
    Rets Try.prog 60 #[.pointer (some ⟨D, 0, none⟩), .slice q n cp, .int .u8 fill] w fun v w' => v = .tuple #[] ∧ Kp (ownC col) w w' ∧ RDsk w' col D (crashSt s n kb fill) := by
  refine ent [_, _, _] Try.func60 ((vcTry60 _ _ _ _ _ w _).mpr ?_)
  unfold VCTry60
  have hs := h.ok.size
  have own2 : ∀ i, cl col 2 i → ownC col i := fun i hi => by have hi : col i = 2 := hi; show col i ≠ 0; omega
  have nD2 : ¬ cl col 2 D := fun hh => by have := h.colD; unfold cl at hh; omega
  simp only [ptr_some, ad_add, Nat.zero_add, Nat.add_zero]
  refine ⟨fun i w' => ∃ k : Nat, i = k ∧ k ≤ s.size ∧ Kp (cl col 2) w w' ∧ RDsk w' col D (crashA s fill k), fun i _ => (s.size - i).toNat, ⟨0, rfl, by omega, Kp.refl _ _, h⟩, ?_⟩
  rintro i w1 ⟨k, rfl, hk, k1, h1⟩
  obtain ⟨a1, a2, a3, a4⟩ := crashA_same s fill k
  obtain ⟨q0, c0, l0⟩ := h1.now.len
  rw [a1] at l0
  refine ⟨_, _, _, l0, bif_dec (fun hlt => ?_) (fun hge => ?_)⟩
  · have hki : k < s.size := by omega
    have hki1 : k < (crashA s fill k).size := by omega
    obtain ⟨xs, x1, x2⟩ := h1.safe
    obtain ⟨g1, c1, y1, y2, y3⟩ := x1.get (by omega)
    obtain ⟨g2, c2, z1, z2, z3⟩ := h1.has.get (by omega)
    obtain ⟨g0, c0', t1, t2, t3, t4, t5⟩ := h1.drew.now.setAt (by rw [h1.colD]; omega) hki1
    rw [a1] at t1
    have t1' := l0.symm.trans t1
    cases t1'
    obtain ⟨⟨t, ht⟩, hhas⟩ := x2 k hki1
    obtain ⟨r1, kk1⟩ := t5 (.string t)
    have nb : ∀ i, cl col 2 i → col i ≠ 4 := fun i hi => by unfold cl at hi; omega
    have kd : Kp (cl col 2) w1 (w1.drew.setCell ⟨g0, k, none⟩ (.string t)) := kk1.of_drew
    refine ⟨_, _, _, l0, _, _, _, y1, ⟨by omega, by omega⟩, ?_⟩
    simp only [ptr_some, ad_add, Nat.zero_add, Nat.add_zero, Nat.mul_one, Int.toNat_natCast]
    refine ⟨_, y3 k _ ht, ⟨by omega, by omega⟩, t3, t4, _, _, _, kk1.cell (show w1.drew.cell? _ = _ from z1) nD2, ⟨by omega, by omega⟩, ?_⟩
    simp only [ptr_some, ad_add, Nat.zero_add, Nat.add_zero, Nat.mul_one, Int.toNat_natCast]
    refine ⟨_, kk1.cell (show w1.drew.cell? _ = _ from z3 k _ (boolL_get _ hki1)) (fun hh => by have : col g2 = 2 := hh; omega), ?_⟩
    have next : crashA s fill (k + 1) = setNow (crashA s fill k) k (if s.has k = true then secAt s.safe k else strangeF k fill) := rfl
    rw [a2]
    cases hh : s.has k with
    | true =>
      rw [hh, if_pos rfl] at next
      show cond false _ _
      simp only [cond_false]
      have e : t = SX.strOf (secAt s.safe k) 0 512 := by
        have := hhas (by rw [a2]; exact hh)
        rw [ht, a3] at this
        cases this
        exact (secAt_str _ _).symm
      refine wr64 (by omega) ⟨⟨k + 1, by omega, by omega, k1.trans kd, ?_⟩, by first | omega | (dsimp only; omega)⟩
      rw [next]
      exact h1.nowPut hki1 (f := secAt s.safe k) (fun j => h.ok.safe _) kd r1 (by rw [e])
    | false =>
      rw [hh, if_neg (by decide)] at next
      show cond true _ _
      simp only [cond_true]
      have l1 : (w1.drew.setCell ⟨g0, k, none⟩ (.string t)).cell? ⟨D, 0, none⟩ = some (.slice (some ⟨g0, 0, none⟩) s.size c0) := kd.cell l0 nD2
      have r1' : Row0 (w1.drew.setCell ⟨g0, k, none⟩ (.string t)) col D 0 2 9 1 (crashA s fill k).size ((strL (crashA s fill k).now (crashA s fill k).size).set k (.string t)) := r1
      generalize w1.drew.setCell ⟨g0, k, none⟩ (.string t) = w2 at *
      refine ⟨_, _, _, l1, (c98 w2.drew k (by omega) fill hf).mono ?_⟩
      rintro v w3 ⟨rfl, k3⟩
      have l3 := k3.cell0 (show w2.drew.cell? ⟨D, 0, none⟩ = _ from l1)
      have r3 := Row0.kpc (col' := col) (show Row0 w2.drew _ _ _ _ _ _ _ _ from r1') k3 (fun i _ h => h.elim) (fun _ _ => rfl) (fun v hv => k3.cell0 hv)
      obtain ⟨g3, c3, u1, u2, u3, u4, u5⟩ := r3.setAt (by rw [h1.colD]; omega) hki1
      rw [a1] at u1
      rw [l3] at u1
      cases u1
      obtain ⟨r4, k4⟩ := u5 (.string (SX.strOf (strangeF k fill) 0 512))
      have kall : Kp (cl col 2) w1 (w3.setCell ⟨g0, k, none⟩ (.string (SX.strOf (strangeF k fill) 0 512))) := (kd.drew.trans (k3.mono fun _ _ h => h.elim)).trans k4
      refine ⟨_, rfl, k3.keeps0, l3, ⟨by omega, by omega⟩, ?_⟩
      simp only [ptr_some, ad_add, Nat.zero_add, Nat.add_zero, Nat.mul_one, Int.toNat_natCast]
      refine ⟨u3, u4, wr64 (by omega) ⟨⟨k + 1, by omega, by omega, k1.trans kall, ?_⟩, by first | omega | (dsimp only; omega)⟩⟩
      rw [next]
      exact h1.nowPut hki1 (f := strangeF k fill) (fun j => strange_byte k fill j) kall r4 (by rw [List.set_set])
  -- what is kept
  have : k = s.size := by omega
  subst this
  generalize hsa : crashA s fill s.size = sa at *
  have hneq : 0 < n → ∀ a, q = some a → ¬ cl col 2 a.block := fun h0 a ha hh => by have := hq h0 a ha; unfold cl at hh; omega
  refine ⟨fun i w' => ∃ k : Nat, i = k ∧ k ≤ s.wait.length ∧ Kp (cl col 2) w1 w' ∧ RDsk w' col D (keepsA sa n kb k), fun i _ => (s.wait.length - i).toNat, ⟨0, rfl, by omega, Kp.refl _ _, h1⟩, ?_⟩
  rintro i w2 ⟨k, rfl, hk2, k2, h2⟩
  obtain ⟨b1, b2, b3, b4⟩ := keepsA_same sa n kb k
  have kw : Kp (ownC col) w w2 := (k1.trans k2).mono fun i _ hi => own2 i hi
  obtain ⟨q3, c3, l3⟩ := h2.wait.len
  rw [b4, a4] at l3
  have fin : keepsA sa n kb k = keepsA sa n kb s.wait.length → Rets Try.prog 59 #[.pointer (some ⟨D, 0, none⟩)] w2 fun v w' => v = .tuple #[] ∧ Keeps w2 w' [] ∧ (∃ v, Ending.returned (.tuple #[]) = .returned v ∧ v = .tuple #[] ∧ Kp (ownC col) w w' ∧ RDsk w' col D (crashSt s n kb fill)) := by
    intro e
    refine (c59 h2).mono ?_
    rintro v w3 ⟨rfl, k3, h3⟩
    refine ⟨rfl, k3.keeps0, _, rfl, rfl, kw.trans k3, ?_⟩
    unfold crashSt
    rw [hsa, ← e]
    exact h3
  refine ⟨_, _, _, l3, bif_dec (fun hlt => ?_) (fun hge => ?_)⟩
  rotate_left
  · exact fin (by congr 1; omega)
  refine bif_dec (fun hn => ?_) (fun hn => ?_)
  rotate_left
  · refine fin ?_
    have := keepsA_past sa n kb k (by omega) (s.wait.length - k)
    rw [← this]
    congr 1
    omega
  have hkw : k < s.wait.length := by omega
  obtain ⟨e, he⟩ : ∃ e, s.wait[k]? = some e := ⟨s.wait[k]'hkw, List.getElem?_eq_getElem _⟩
  have hmem := h.ok.wait e (List.mem_of_getElem? he)
  have next : keepsA sa n kb (k + 1) = if k < n ∧ kb k = true then setNow (keepsA sa n kb k) e.1 (secAt e.2 e.1) else keepsA sa n kb k := by
    show (match sa.wait[k]? with | some e => _ | none => _) = _
    rw [a4, he]
  obtain ⟨aq, rfl, hbc⟩ := ((hb.kp k1 hneq).kp k2 hneq) k (by omega)
  refine ⟨by omega, ?_⟩
  simp only [ptr_some, Nat.mul_one]
  refine ⟨_, hbc, bif_b (fun hkb => ?_) (fun hkb => wr64 (by omega) ⟨⟨k + 1, by omega, by omega, k2, by rw [next, if_neg (by rw [hkb]; simp)]; exact h2⟩, by first | omega | (dsimp only; omega)⟩)⟩
  obtain ⟨gw, cw, v1, v2, v3⟩ := h2.wait.get (by rw [b4, a4]; omega)
  rw [b4, a4] at v1
  rw [l3] at v1
  cases v1
  obtain ⟨f1, f2⟩ := waitL_get (show (keepsA sa n kb k).wait[k]? = some e by rw [b4, a4]; exact he)
  have hes : e.1 < (keepsA sa n kb k).size := by rw [b1, a1]; exact hmem.1
  obtain ⟨g0, c0', t1, t2, t3, t4, t5⟩ := h2.drew.now.setAt (by rw [h2.colD]; omega) hes
  obtain ⟨r1, kk0⟩ := t5 (.string (SX.strOf e.2 (512 * e.1) 512))
  have kk1 := kk0.of_drew
  refine ⟨_, _, _, t1, _, _, _, l3, ⟨by omega, by omega⟩, ?_⟩
  simp only [ptr_some, ad_add, Nat.zero_add, Nat.add_zero, Int.toNat_natCast]
  refine ⟨_, v3 _ _ f1, _, _, _, l3, ⟨by omega, by omega⟩, ?_⟩
  try simp only [ptr_some, ad_add, Nat.zero_add, Nat.add_zero, Int.toNat_natCast]
  refine ⟨_, v3 _ _ f2, ⟨by omega, by omega⟩, ?_⟩
  try simp only [ptr_some, ad_add, Nat.zero_add, Nat.add_zero, Int.toNat_natCast, Nat.mul_one]
  refine ⟨t3, t4, wr64 (by omega) ⟨⟨k + 1, by omega, by omega, k2.trans kk1, ?_⟩, by first | omega | (dsimp only; omega)⟩⟩
  rw [next, if_pos ⟨by omega, hkb⟩]
  exact h2.nowPut hes (f := secAt e.2 e.1) (fun j => hmem.2 _) kk1 r1 (by rw [secAt_str])
end
end Go.Proofs.Ytlgkcbdpaffigaa

namespace Go.Proofs.Ytlgkcbdpaffigaa
open Go Go.SX Go.Proofs Go.Lib
set_option maxRecDepth 100000
set_option linter.unusedVariables false
set_option linter.unusedSimpArgs false
section
variable {w w' : World} {col col' : Col} {D : Nat} {s : St} {S : Nat → Prop}
theorem u9 : Try.prog.underlying 9 = some .string := by kernel_rfl
end
end Go.Proofs.Ytlgkcbdpaffigaa

namespace Go.Proofs.Ytlgkcbdpaffigaa
open Go Go.SX Go.Proofs Go.Lib
set_option maxRecDepth 100000
set_option linter.unusedVariables false
set_option linter.unusedSimpArgs false
section
variable {w w' : World} {col col' : Col} {D : Nat} {s : St} {S : Nat → Prop}
theorem elem4 : elemOk Try.prog 4 1 = true := by kernel_rfl
theorem elem149 : elemOk Try.prog 149 2 = true := by kernel_rfl
/-- One element more in a row that a cell points at. -/
theorem Row0.push {o k : Nat} {e t ty : TypeId} {size n : Nat} {xs : List Value} (h : Row0 w col D o k e size n xs) (news : Array Value) (lt : ∀ i, col i ≠ 0 → i < w.heap.size) (frz : ∀ o, w.frozen? ⟨D, o, none⟩ = false) (hD : col D = 1) (hk : k ≠ 0 ∧ k ≠ 1)
    (ht : Try.prog.underlying t = some (.slice e)) (he : elemOk Try.prog e size = true) (hsz : 0 < size) (hl : news.size = size) (h1 : ∀ u ∈ news.toList, u.oneCell' = true) (hb : n + 1 ≤ 137438953472) :
    ∃ q c, w.cell? ⟨D, o, none⟩ = some (.slice q n c) ∧ (w.alloc (.cells news e)).cell? ⟨D, o, none⟩ = some (.slice q n c) ∧
      Runs Try.prog (Builtin.append_ #[t, t] ty #[.slice q n c, .slice (some ⟨w.heap.size, 0, none⟩) 1 1]) (w.alloc (.cells news e)) fun v w3 =>
        ∃ q' c', v = .slice q' (n + 1) c' ∧ Keeps (w.alloc (.cells news e)) w3 [] ∧ (∃ u, w3.cell? ⟨D, o, none⟩ = some u) ∧ w3.frozen? ⟨D, o, none⟩ = false ∧
          Kp (fun i => col i = k ∨ i = D) w (w3.setCell ⟨D, o, none⟩ (.slice q' (n + 1) c')) ∧ (∀ o' v, o' ≠ o → w.cell? ⟨D, o', none⟩ = some v → (w3.setCell ⟨D, o, none⟩ (.slice q' (n + 1) c')).cell? ⟨D, o', none⟩ = some v) ∧
          (∀ o', (w3.setCell ⟨D, o, none⟩ (.slice q' (n + 1) c')).frozen? ⟨D, o', none⟩ = false) ∧
          ∃ col', (∀ i, i < w.heap.size → col' i = col i) ∧ (∀ i, col' i ≠ 0 → i < (w3.setCell ⟨D, o, none⟩ (.slice q' (n + 1) c')).heap.size) ∧ Row0 (w3.setCell ⟨D, o, none⟩ (.slice q' (n + 1) c')) col' D o k e size (n + 1) (xs ++ news.toList) := by
  obtain ⟨q, c, l, r⟩ := h
  have hd : D < w.heap.size := lt D (by rw [hD]; omega)
  have nD : ¬ cl col k D := fun hh => by unfold cl at hh; omega
  refine ⟨q, c, l, cell_alloc _ l, ?_⟩
  refine append_new (own := cl col k) (xs := xs) news ht he hsz r hl h1 hb ?_
  intro q3 c3 w3 r3 k3 k3a
  have lD := k3.cell l nD
  obtain ⟨col1, g1, g2, r4⟩ := recolor lt k3.size r3
  have kD : Kp (one_ D) w3 (w3.setCell ⟨D, o, none⟩ (.slice q3 (n + 1) c3)) := Kp.setCell (S := one_ D) (x := ⟨D, o, none⟩) (Kp.refl (one_ D) w3) _ (.inl rfl)
  have sz : (w3.setCell ⟨D, o, none⟩ (.slice q3 (n + 1) c3)).heap.size = w3.heap.size := by simp [World.setCell]
  have hD1 : col1 D = 1 := (g1 D hd).trans hD
  refine ⟨q3, c3, rfl, k3a.keeps0, ⟨_, lD⟩, (k3.frz ⟨D, o, none⟩ hd).trans (frz o), (k3.mono fun i _ hi => .inl hi).trans (kD.mono fun i _ hi => .inr hi), fun o' v ho hv => by rw [cell_set_off _ (Ne.symm ho)]; exact k3.cell hv nD, fun o' => by rw [frozen_set]; exact (k3.frz ⟨D, o', none⟩ hd).trans (frz o'), col1, g1, fun i hi => ?_, ?_⟩
  · rw [sz]
    have := k3.size
    rcases g2 i hi with h | h <;> omega
  · exact ⟨q3, c3, cell_set_same _ lD, OwnRow.kpc r4 kD (fun i _ hh => by have e : i = D := hh; rw [e, hD1]; exact fun h => hk.2 h.symm) (fun _ _ => rfl)⟩
theorem grow_pos (s : St) (m : Nat) (h : s.size < m) : growSt s m = { s with size := m, now := fun p => if p < 512 * s.size then s.now p else 0, has := fun i => if i < s.size then s.has i else false } := if_pos h
theorem grow_grow (s : St) (m : Nat) (h : s.size ≤ m) : growSt (growSt s m) (m + 1) = growSt s (m + 1) := by
  have h2 : (growSt s m).size = m := by rw [growSt_size]; omega
  have e1 : growSt (growSt s m) (m + 1) = { growSt s m with size := m + 1, now := fun p => if p < 512 * m then (growSt s m).now p else 0, has := fun i => if i < m then (growSt s m).has i else false } := by
    rw [grow_pos _ _ (by rw [h2]; omega), h2]
  have e2 : growSt s (m + 1) = { s with size := m + 1, now := fun p => if p < 512 * s.size then s.now p else 0, has := fun i => if i < s.size then s.has i else false } := if_pos (by omega)
  rw [e1, e2]
  by_cases hm : s.size < m
  · have e3 : growSt s m = { s with size := m, now := fun p => if p < 512 * s.size then s.now p else 0, has := fun i => if i < s.size then s.has i else false } := if_pos hm
    rw [e3]
    simp only [St.mk.injEq, true_and, and_true]
    refine ⟨funext fun p => ?_, funext fun i => ?_⟩
    · by_cases c : p < 512 * (m : Int)
      · rw [if_pos c]
      · rw [if_neg c, if_neg (by omega)]
    · by_cases c : i < m
      · rw [if_pos c]
      · rw [if_neg c, if_neg (by omega)]
  · have e3 : growSt s m = s := if_neg hm
    have : m = s.size := by omega
    subst this
    rw [e3]
theorem strL_snoc (f g : Int → Int) (n : Nat) (t : ByteArray) (h : ∀ p : Int, p < 512 * n → g p = f p) (ht : SX.strOf g (512 * n) 512 = t) : strL f n ++ [.string t] = strL g (n + 1) := by
  unfold strL
  rw [List.range_succ, List.map_append, List.map_cons, List.map_nil, ht]
  congr 1
  apply List.map_congr_left
  intro i hi
  have := List.mem_range.1 hi
  congr 1
  exact strOf_eq fun j hj => (h _ (by omega)).symm
theorem boolL_snoc (f g : Nat → Bool) (n : Nat) (t : Bool) (h : ∀ i, i < n → g i = f i) (ht : g n = t) : boolL f n ++ [.bool t] = boolL g (n + 1) := by
  unfold boolL
  rw [List.range_succ, List.map_append, List.map_cons, List.map_nil, ht]
  congr 1
  apply List.map_congr_left
  intro i hi
  rw [h i (List.mem_range.1 hi)]
theorem waitL_snoc (l : List (Nat × (Int → Int))) (e : Nat × (Int → Int)) : waitL l ++ waitC e = waitL (l ++ [e]) := by
  unfold waitL
  rw [List.flatMap_append, List.flatMap_cons, List.flatMap_nil, List.append_nil]
theorem growSt_ok {s : St} (h : s.Ok) {m : Nat} (hm : m ≤ 4096) : (growSt s m).Ok := by
  unfold growSt
  split
  · refine ⟨hm, fun p => ?_, h.safe, fun e he => ⟨?_, (h.wait e he).2⟩⟩
    · show isByte (if _ then _ else _)
      split
      · exact h.now p
      · unfold isByte; omega
    · have := (h.wait e he).1
      show e.1 < m
      omega
  · exact h
end
end Go.Proofs.Ytlgkcbdpaffigaa

namespace Go.Proofs.Ytlgkcbdpaffigaa
open Go Go.SX Go.Proofs Go.Lib
set_option maxRecDepth 100000
set_option linter.unusedVariables false
set_option linter.unusedSimpArgs false
section
variable {w w' : World} {col col' : Col} {D : Nat} {s : St} {S : Nat → Prop}
/-- What one sector's writing asks, with its bytes from F to T. -/
def Seg58 (p0 : Option Addr) (p1 : Int) (p2 : Option Addr) (c2 : Nat) (F T : Int) (I50 : Int → World → Prop) (I51 : Int → World → Nat) (i52 : Int) (w53 : World) : Prop :=
  SX.Ptr p0 fun (a61 : Addr) => ∃ (q62 : Option Addr), ∃ (n63 : Nat), ∃ (n64 : Nat), w53.cell? (a61.add (0 : Nat)) = some (Value.slice q62 n63 n64) ∧ ((0 : Int) ≤ i52 ∧ i52 < (↑n63 : Int)) ∧ SX.Ptr q62 fun (a65 : Addr) => ∃ (s66 : ByteArray), w53.cell? (a65.add (i52.toNat * (1 : Nat))) = some (Value.string s66) ∧ Wr IntKind.i64 ((512 : Int) * i52) fun (i67 : Int) => Wr IntKind.i64 (F - i67) fun (i68 : Int) => ((0 : Int) ≤ i68 ∧ i68 ≤ (↑s66.size : Int)) ∧ Wr IntKind.i64 (F - p1) fun (i69 : Int) => Wr IntKind.i64 (T - p1) fun (i70 : Int) => ((0 : Int) ≤ i70 ∧ i70 ≤ (↑c2 : Int)) ∧ ((0 : Int) ≤ i69 ∧ i69 ≤ (↑i70.toNat : Int)) ∧ ∃ (s71 : ByteArray), s71.size = i70.toNat - i69.toNat ∧ BytesAt w53.drew (cutA p2 c2 i69.toNat (1 : Nat)) s71 ∧ (s66.extract (0 : Nat) i68.toNat).size + s71.size ≤ (9223372036854775807 : Nat) ∧ Wr IntKind.i64 ((512 : Int) * i52) fun (i72 : Int) => Wr IntKind.i64 (T - i72) fun (i73 : Int) => ((0 : Int) ≤ i73 ∧ i73 ≤ (↑s66.size : Int)) ∧ (s66.extract (0 : Nat) i68.toNat ++ s71).size + (s66.extract i73.toNat s66.size).size ≤ (9223372036854775807 : Nat) ∧ SX.Ptr p0 fun (a74 : Addr) => ∃ (q75 : Option Addr), ∃ (n76 : Nat), ∃ (n77 : Nat), w53.drew.cell? (a74.add (0 : Nat)) = some (Value.slice q75 n76 n77) ∧ ((0 : Int) ≤ i52 ∧ i52 < (↑n76 : Int)) ∧ SX.Ptr q75 fun (a78 : Addr) => (∃ (v79 : Value), w53.drew.cell? ((a78.add (i52.toNat * (1 : Nat))).add (0 : Nat)) = some v79) ∧ w53.drew.frozen? ((a78.add (i52.toNat * (1 : Nat))).add (0 : Nat)) = false ∧ SX.Ptr p0 fun (a80 : Addr) => ∃ (q81 : Option Addr), ∃ (n82 : Nat), ∃ (n83 : Nat), (w53.drew.setCell ((a78.add (i52.toNat * (1 : Nat))).add (0 : Nat)) (Value.string (s66.extract (0 : Nat) i68.toNat ++ s71 ++ s66.extract i73.toNat s66.size))).cell? (a80.add (3 : Nat)) = some (Value.slice q81 n82 n83) ∧ Runs Try.prog (Builtin.append_ #[(32 : Nat), (32 : Nat)] (32 : Nat) #[Value.slice q81 n82 n83, Value.slice (some { block := (w53.drew.setCell ((a78.add (i52.toNat * (1 : Nat))).add (0 : Nat)) (Value.string (s66.extract (0 : Nat) i68.toNat ++ s71 ++ s66.extract i73.toNat s66.size))).heap.size, off := (0 : Nat) }) (1 : Nat) (1 : Nat)]) ((w53.drew.setCell ((a78.add (i52.toNat * (1 : Nat))).add (0 : Nat)) (Value.string (s66.extract (0 : Nat) i68.toNat ++ s71 ++ s66.extract i73.toNat s66.size))).alloc (Obj.cells #[Value.int IntKind.i64 i52, Value.string (s66.extract (0 : Nat) i68.toNat ++ s71 ++ s66.extract i73.toNat s66.size)] (149 : Nat))) fun (v84 : Value) (w85 : World) => ∃ (q86 : Option Addr), ∃ (n87 : Nat), ∃ (n88 : Nat), v84 = Value.slice q86 n87 n88 ∧ Keeps ((w53.drew.setCell ((a78.add (i52.toNat * (1 : Nat))).add (0 : Nat)) (Value.string (s66.extract (0 : Nat) i68.toNat ++ s71 ++ s66.extract i73.toNat s66.size))).alloc (Obj.cells #[Value.int IntKind.i64 i52, Value.string (s66.extract (0 : Nat) i68.toNat ++ s71 ++ s66.extract i73.toNat s66.size)] (149 : Nat))) w85 [] ∧ SX.Ptr p0 fun (a89 : Addr) => (∃ (v90 : Value), w85.cell? ((a89.add (3 : Nat)).add (0 : Nat)) = some v90) ∧ w85.frozen? ((a89.add (3 : Nat)).add (0 : Nat)) = false ∧ Wr IntKind.i64 (i52 + (1 : Int)) fun (i91 : Int) => I50 i91 (w85.setCell ((a89.add (3 : Nat)).add (0 : Nat)) (Value.slice q86 n87 n88)) ∧ I51 i91 (w85.setCell ((a89.add (3 : Nat)).add (0 : Nat)) (Value.slice q86 n87 n88)) < I51 i52 w53
def partF (f b : Int → Int) (at_ : Int) (n : Nat) (to : Int) : Int → Int := fun p => if at_ ≤ p ∧ p < at_ + n ∧ p < to then b (p - at_) else f p
/-- So many sectors were written. -/
def partSt (s g : St) (at_ : Int) (n : Nat) (b : Int → Int) (j : Nat) : St := { g with now := partF g.now b at_ n (512 * (loF at_ + j)), wait := s.wait ++ waits (loF at_) j (overF g.now b at_ n) }
theorem strOf_three {f g b : Int → Int} {i : Int} {n : Nat} {at_ : Int} {F T : Nat} {tx : ByteArray} (hF : F ≤ T) (hT : T ≤ 512)
    (h1 : ∀ p : Int, 512 * i ≤ p → p < 512 * i + F → f p = g p) (h3 : ∀ p : Int, 512 * i + T ≤ p → p < 512 * i + 512 → f p = g p)
    (htx : tx = SX.strOf g (512 * i + F) (T - F)) : (SX.strOf f (512 * i) 512).extract 0 F ++ tx ++ (SX.strOf f (512 * i) 512).extract T 512 = SX.strOf g (512 * i) 512 := by
  rw [strOf_cut _ _ _ _ _ (by omega) (by omega), strOf_cut _ _ _ _ _ (by omega) (by omega), htx]
  have e1 : SX.strOf f (512 * i + (0 : Nat)) (F - 0) = SX.strOf g (512 * i) F := by
    rw [Nat.sub_zero]
    exact strOf_eq fun j hj => by rw [h1 _ (by omega) (by omega)]; congr 1; omega
  have e3 : SX.strOf f (512 * i + (T : Nat)) (512 - T) = SX.strOf g (512 * i + T) (512 - T) := strOf_eq fun j hj => h3 _ (by omega) (by omega)
  rw [e1, e3, strOf_app]
  have : SX.strOf g (512 * i + (T : Int)) (512 - T) = SX.strOf g (512 * i + ((F + (T - F) : Nat) : Int)) (512 - T) := by congr 1; omega
  rw [this, strOf_app]
  congr 1
  omega
theorem seg58 {col1 : Col} {g : St} (h : RDsk w col1 D g) {q : Option Addr} {n cp : Nat} {b : Int → Int} (hb : Ints w .u8 q n b) (hby : ∀ i : Int, 0 ≤ i → i < n → isByte (b i)) (hcp : n ≤ cp) (at_ : Int) (h0 : 0 ≤ at_) (hn : n ≤ 2097152) (hat : at_ ≤ 2097152)
    (i : Nat) (hi : i < g.size) (F T : Int) (hF : at_ ≤ F ∧ 512 * (i : Int) ≤ F) (hT : T ≤ at_ + n ∧ T ≤ 512 * (i : Int) + 512) (hFT : F ≤ T) {G : Int → Int}
    (h1 : ∀ p : Int, 512 * i ≤ p → p < F → g.now p = G p) (h3 : ∀ p : Int, T ≤ p → p < 512 * i + 512 → g.now p = G p) (h2 : ∀ p : Int, F ≤ p → p < T → G p = b (p - at_))
    (hl : g.wait.length ≤ 100000) {f : Int → Int} (hf : ∀ p : Int, 512 * i ≤ p → p < 512 * i + 512 → f p = G p) (hfb : ∀ p, isByte (f p))
    {I50 : Int → World → Prop} {I51 : Int → World → Nat}
    (hK : ∀ w3 col', Kp (ownC col1) w w3 → Grow col1 col' w w3 → RDsk w3 col' D { setNow g i (secAt f i) with wait := g.wait ++ [(i, f)] } → I50 ((i : Int) + 1) w3 ∧ I51 ((i : Int) + 1) w3 < I51 i w) :
    Seg58 (some ⟨D, 0, none⟩) at_ q cp F T I50 I51 i w := by
  obtain ⟨F, rfl⟩ := Int.eq_ofNat_of_zero_le (show 0 ≤ F by omega)
  obtain ⟨T, rfl⟩ := Int.eq_ofNat_of_zero_le (show 0 ≤ T by omega)
  unfold Seg58
  have hs := h.ok.size
  have hd := h.dlt
  obtain ⟨g0, c0, x1, x2, x3, x4, x5⟩ := h.drew.now.setAt (by rw [h.colD]; omega) hi
  have x1' : w.cell? ⟨D, 0, none⟩ = some (.slice (some ⟨g0, 0, none⟩) g.size c0) := x1
  obtain ⟨g0', c0', y1, y2, y3⟩ := h.now.get (by omega)
  rw [x1'] at y1
  cases y1
  simp only [ptr_some, ad_add, Nat.zero_add, Nat.add_zero, Nat.mul_one, Int.toNat_natCast]
  refine ⟨_, _, _, x1', by omega, ?_⟩
  simp only [ptr_some, ad_add, Nat.zero_add, Nat.add_zero, Nat.mul_one, Int.toNat_natCast]
  refine ⟨_, y3 i _ (strL_get _ hi), wr64 (by omega) (wr64 (by omega) ?_)⟩
  obtain ⟨F', hF'⟩ : ∃ F' : Nat, F = 512 * i + F' := ⟨F - 512 * i, by omega⟩
  obtain ⟨T', hT'⟩ : ∃ T' : Nat, T = 512 * i + T' := ⟨T - 512 * i, by omega⟩
  have e1 : (F : Int) - 512 * (i : Int) = (F' : Nat) := by omega
  have e2 : (T : Int) - 512 * (i : Int) = (T' : Nat) := by omega
  obtain ⟨l, hl0⟩ : ∃ l : Nat, (F : Int) - at_ = l := ⟨((F : Int) - at_).toNat, by omega⟩
  obtain ⟨r, hr0⟩ : ∃ r : Nat, (T : Int) - at_ = r := ⟨((T : Int) - at_).toNat, by omega⟩
  simp only [strOf_size, e1, e2, hl0, hr0, Int.toNat_natCast]
  refine ⟨by omega, wr64 (by omega) (wr64 (by omega) ⟨by omega, by omega, SX.strOf b l (r - l), by rw [strOf_size]; omega, ?_, ?_⟩)⟩
  · exact Ints.str hb (fun i h0 h1 => hby i h0 h1) cp l (r - l) (by omega) hcp
  have ht : (SX.strOf g.now (512 * (i : Int)) 512).extract 0 F' ++ SX.strOf b l (r - l) ++ (SX.strOf g.now (512 * (i : Int)) 512).extract T' 512 = SX.strOf (secAt f i) 0 512 := by
    rw [secAt_str]
    have : SX.strOf f (512 * (i : Int)) 512 = SX.strOf G (512 * (i : Int)) 512 := strOf_eq fun j hj => hf _ (by omega) (by omega)
    rw [this]
    refine strOf_three (n := n) (at_ := at_) (b := b) (by omega) (by omega) (fun p a c => h1 p a (by omega)) (fun p a c => h3 p (by omega) c) ?_
    rw [show r - l = T' - F' by omega]
    exact strOf_eq fun j hj => by rw [h2 _ (by omega) (by omega)]; congr 1; omega
  refine ⟨by rw [strOf_cut _ _ _ _ _ (by omega) (by omega), strOf_size, strOf_size]; omega, wr64 (by omega) (wr64 (by omega) ?_)⟩
  simp only [e2, Int.toNat_natCast]
  rw [ht]
  refine ⟨by omega, ?_, _, _, _, x1, by omega, ?_⟩
  · rw [strOf_cut _ _ _ _ _ (by omega) (by omega), strOf_cut _ _ _ _ _ (by omega) (by omega)]
    simp only [ByteArray.size_append, strOf_size]
    omega
  simp only [ptr_some, ad_add, Nat.zero_add, Nat.add_zero, Nat.mul_one, Int.toNat_natCast]
  refine ⟨x3, x4, ?_⟩
  obtain ⟨r1, k1⟩ := x5 (.string (SX.strOf (secAt f i) 0 512))
  have h4 := h.nowPut hi (f := secAt f i) (fun p => hfb _) k1.of_drew r1 rfl
  have k1' := k1.of_drew
  generalize w.drew.setCell ⟨g0, i, none⟩ (.string (SX.strOf (secAt f i) 0 512)) = w2 at *
  obtain ⟨q3, c3, z1, z2, z3⟩ := h4.wait.push (t := 32) (ty := 32) #[.int .i64 i, .string (SX.strOf (secAt f i) 0 512)] h4.lt h4.frz h4.colD (by omega) Try.underlying32 elem149 (by omega) rfl (by simp [Value.oneCell']) (by show g.wait.length + 1 ≤ _; omega)
  refine ⟨_, _, _, z1, ?_⟩
  obtain ⟨v, w3, zr, q4, c4, rfl, u1, u2, u3, u4, u5, u6, col', u7, u8, u9⟩ := z3
  refine ⟨_, _, zr, q4, _, c4, rfl, u1, u2, u3, wr64 (by omega) (hK _ col' ?_ ?_ ?_)⟩
  · refine (k1'.mono (T := ownC col1) fun j _ hj => ?_).trans (u4.mono fun j _ hj => ?_)
    · have hj : col1 j = 2 := hj
      show col1 j ≠ 0
      omega
    · show col1 j ≠ 0
      rcases hj with hj | rfl
      · omega
      · rw [h.colD]; omega
  · exact ⟨fun j hj => u7 j (by have := k1'.size; omega), u8⟩
  · have ne : ∀ k : Nat, k ≠ 5 → k ≠ 1 → ∀ j, j < w2.heap.size → (col1 j = 5 ∨ j = D) → col1 j ≠ k := fun k hk hk1 j _ hj => by
      rcases hj with hj | hj
      · omega
      · rw [hj, h.colD]; exact fun h => hk1 h.symm
    obtain ⟨xs, v1, v2⟩ := h4.safe
    have hd2 : D < w2.heap.size := h4.dlt
    have e3 : waitL g.wait ++ [.int .i64 i, .string (SX.strOf (secAt f i) 0 512)] = waitL (g.wait ++ [(i, f)]) := by
      rw [← waitL_snoc, secAt_str]
      rfl
    have e4 : (g.wait ++ [(i, f)]).length = g.wait.length + 1 := by simp
    refine ⟨(u7 D hd2).trans h.colD, u8, u6, h4.now.kpc u4 (ne 2 (by omega) (by omega)) u7 (fun v => u5 0 v (by omega)), ⟨xs, v1.kpc u4 (ne 3 (by omega) (by omega)) u7 (fun v => u5 1 v (by omega)), v2⟩, h4.has.kpc u4 (ne 4 (by omega) (by omega)) u7 (fun v => u5 2 v (by omega)), ?_, ⟨h.ok.size, h4.ok.now, h.ok.safe, fun e he => ?_⟩⟩
    · show Row0 _ col' D 3 5 149 2 (g.wait ++ [(i, f)]).length (waitL (g.wait ++ [(i, f)]))
      rw [e4, ← e3]
      exact u9
    · have he : e ∈ g.wait ++ [(i, f)] := he
      simp only [List.mem_append, List.mem_singleton] at he
      rcases he with he | rfl
      · exact h.ok.wait e he
      · exact ⟨hi, hfb⟩
end
end Go.Proofs.Ytlgkcbdpaffigaa

namespace Go.Proofs.Ytlgkcbdpaffigaa
open Go Go.SX Go.Proofs Go.Lib
set_option maxRecDepth 100000
set_option linter.unusedVariables false
set_option linter.unusedSimpArgs false
section
variable {w w' : World} {col col' : Col} {D : Nat} {s : St} {S : Nat → Prop}
/-- How many sectors are lacking. -/
def lack (D M : Nat) (w : World) : Nat := match w.cell? ⟨D, 0, none⟩ with | some (.slice _ n _) => M - n | _ => 0
theorem RDsk.lack (h : RDsk w col D s) (M : Nat) : Ytlgkcbdpaffigaa.lack D M w = M - s.size := by
  obtain ⟨q, c, l⟩ := h.now.len
  unfold Ytlgkcbdpaffigaa.lack
  rw [l]
theorem part0 (s g : St) (at_ : Int) (n : Nat) (b : Int → Int) (hg : g.wait = s.wait) (h0 : 0 ≤ at_) : partSt s g at_ n b 0 = g := by
  obtain ⟨x1, x2, x3, x4, x5⟩ := g
  simp only [partSt, waits, St.mk.injEq, true_and, and_true]
  refine ⟨funext fun p => ?_, by rw [← hg]; simp⟩
  unfold partF loF
  rw [if_neg (by omega)]
theorem partEnd (s g : St) (at_ : Int) (n : Nat) (b : Int → Int) (h0 : 0 ≤ at_) (hn : n ≠ 0) (hg : g = growSt s (hiF at_ n)) : partSt s g at_ n b (hiF at_ n - loF at_) = writeSt s at_ n b := by
  subst hg
  unfold partSt writeSt
  simp only [St.mk.injEq, true_and, and_true]
  refine funext fun p => ?_
  unfold partF overF
  have : at_ + n ≤ 512 * ((loF at_ : Int) + ((hiF at_ n - loF at_ : Nat) : Int)) := by unfold hiF loF; omega
  by_cases c : at_ ≤ p ∧ p < at_ + n
  · rw [if_pos c, if_pos (by omega)]
  · rw [if_neg c, if_neg (by omega)]
theorem partNext (s g : St) (at_ : Int) (n : Nat) (b : Int → Int) (j : Nat) (i : Nat) (hi : i = loF at_ + j) :
    ({ setNow (partSt s g at_ n b j) i (secAt (overF g.now b at_ n) i) with wait := (partSt s g at_ n b j).wait ++ [(i, overF g.now b at_ n)] } : St) = partSt s g at_ n b (j + 1) := by
  subst hi
  unfold partSt setNow secAt
  simp only [St.mk.injEq, true_and, and_true]
  refine ⟨funext fun p => ?_, ?_⟩
  · unfold partF overF
    by_cases c : 512 * ((loF at_ + j : Nat) : Int) ≤ p ∧ p < 512 * ((loF at_ + j : Nat) : Int) + 512
    · rw [if_pos c]
      have e : 512 * ((loF at_ + j : Nat) : Int) + (p - 512 * ((loF at_ + j : Nat) : Int)) = p := by omega
      rw [e]
      by_cases c2 : at_ ≤ p ∧ p < at_ + n
      · rw [if_pos (by omega), if_pos (by omega)]
      · rw [if_neg (by omega), if_neg (by omega)]
    · rw [if_neg c]
      by_cases c2 : at_ ≤ p ∧ p < at_ + n ∧ p < 512 * ((loF at_ : Int) + j)
      · rw [if_pos (by omega), if_pos (by omega)]
      · rw [if_neg (by omega), if_neg (by omega)]
  · rw [waits_succ, List.append_assoc]
theorem c58 (h : RDsk w col D s) {q : Option Addr} {n cp : Nat} {b : Int → Int} (hb : Ints w .u8 q n b) (hby : ∀ i : Int, 0 ≤ i → i < n → isByte (b i)) (hcp : n ≤ cp) (hq : 0 < n → ∀ a, q = some a → col a.block = 0) (hl : s.wait.length ≤ 90000) (at_ : Int) :
    Rets Try.prog 58 #[.pointer (some ⟨D, 0, none⟩), .int .i64 at_, .slice q n cp] w fun v w' =>
      v = .int .i64 (if rightF at_ n = true then 0 else 1) ∧ Kp (ownC col) w w' ∧ ∃ col', Grow col col' w w' ∧ RDsk w' col' D (if rightF at_ n = true ∧ n ≠ 0 then writeSt s at_ n b else s) := by
  refine ent [_, _, _] Try.func58 ((vcTry58 _ _ _ _ _ w _).mpr ?_)
  unfold VCTry58
  have hs := h.ok.size
  refine (c95 w at_ n).mono ?_
  rintro v wx ⟨rfl, e⟩
  obtain rfl := e.symm
  refine ⟨_, rfl, (Kp.refl none_ _).keeps0, bif_not (fun hr => ?_) (fun hr => ?_)⟩
  · rw [hr]
    exact ⟨_, rfl, rfl, Kp.refl _ _, col, Grow.refl h.lt (Nat.le_refl _), h⟩
  refine bif_eq (fun h0 => ?_) (fun h0 => ?_)
  · have hn0 : n = 0 := by omega
    rw [hr, if_pos rfl, if_neg (fun hh => hh.2 hn0)]
    exact ⟨_, rfl, rfl, Kp.refl _ _, col, Grow.refl h.lt (Nat.le_refl _), h⟩
  have hn0 : n ≠ 0 := by omega
  have hrr := hr
  unfold rightF at hrr
  have hr' := of_decide_eq_true hrr
  rw [hr, if_pos rfl, if_pos ⟨rfl, hn0⟩]
  have hneed : needF s at_ n = ((max s.size (hiF at_ n) : Nat) : Int) := by unfold needF hiF; rw [if_neg h0]; omega
  have hhi : hiF at_ n ≤ 4096 := by unfold hiF; omega
  refine (c96 h at_ n hr).mono ?_
  rintro v wx ⟨rfl, e⟩
  obtain rfl := e.symm
  rw [hneed]
  obtain ⟨M, hM⟩ : ∃ M, M = max s.size (hiF at_ n) := ⟨_, rfl⟩
  rw [← hM]
  refine ⟨_, rfl, (Kp.refl none_ _).keeps0, fun w' => ∃ m, s.size ≤ m ∧ m ≤ M ∧ Kp (ownC col) w w' ∧ ∃ col', Grow col col' w w' ∧ RDsk w' col' D (growSt s m), lack D M, ⟨s.size, by omega, by omega, Kp.refl _ _, col, Grow.refl h.lt (Nat.le_refl _), by unfold growSt; rw [if_neg (by omega)]; exact h⟩, ?_⟩
  rintro w1 ⟨m, hm1, hm2, k1, col1, gr1, h1⟩
  have hsz1 : (growSt s m).size = m := by rw [growSt_size]; omega
  obtain ⟨q0, c0, l0⟩ := h1.now.len
  rw [hsz1] at l0
  simp only [ptr_some, ad_add, Nat.zero_add, Nat.add_zero]
  refine ⟨_, _, _, l0, bif_dec (fun hlt => ?_) (fun hge => ?_)⟩
  · -- one more sector
    refine ⟨_, _, _, l0, (c97 w1.drew).mono ?_⟩
    rintro v w2 ⟨rfl, k2⟩
    have h2 := h1.drew.kp0 k2
    have l2 : w2.cell? ⟨D, 0, none⟩ = some (.slice q0 m c0) := k2.cell0 (show w1.drew.cell? ⟨D, 0, none⟩ = _ from l0)
    have hd2 := h2.dlt
    have push1 := h2.now.push (t := 30) (ty := 30) #[.string (SX.strOf (fun _ => 0) 0 512)] h2.lt h2.frz h2.colD (by omega) Try.underlying30 elem9 (by omega) rfl (by simp [Value.oneCell']) (by rw [hsz1]; omega)
    rw [hsz1] at push1
    obtain ⟨qa, ca, a1, a2, v, w3, ar, q3, c3, rfl, a3, a4, a5, a6, a7, a8, col3, a9, a10, a11⟩ := push1
    rw [l2] at a1
    cases a1
    refine ⟨_, rfl, k2.keeps0, l2, a2, _, w3, ar, _, _, _, rfl, a3, a4, a5, ?_⟩
    obtain ⟨xs, s1, s2⟩ := h2.safe
    have ne : ∀ (c : Col) (k' k : Nat), c D = 1 → k ≠ 1 → k' ≠ k → ∀ i, (c i = k' ∨ i = D) → c i ≠ k := fun c k' k hc hk hkk i hi => by
      rcases hi with hi | hi
      · omega
      · rw [hi, hc]; exact fun h => hk h.symm
    have s3 := s1.kpc (col' := col3) a6 (fun i _ hi => ne col1 2 3 h2.colD (by omega) (by omega) i hi) a9 (fun v => a7 1 v (by omega))
    have b3 := h2.has.kpc (col' := col3) a6 (fun i _ hi => ne col1 2 4 h2.colD (by omega) (by omega) i hi) a9 (fun v => a7 2 v (by omega))
    have w3' := h2.wait.kpc (col' := col3) a6 (fun i _ hi => ne col1 2 5 h2.colD (by omega) (by omega) i hi) a9 (fun v => a7 3 v (by omega))
    have cD3 : col3 D = 1 := (a9 D hd2).trans h2.colD
    rw [hsz1] at s3 b3
    generalize w3.setCell ⟨D, 0, none⟩ (.slice q3 (m + 1) c3) = W3 at *
    have hd3 : D < W3.heap.size := Nat.lt_of_lt_of_le hd2 a6.size
    obtain ⟨qb, cb, b1, b2, v, w4, br, q4, c4, rfl, b4, b5, b6, b7, b8, b9, col4, b10, b11, b12⟩ := s3.push (t := 30) (ty := 30) #[.string ⟨#[]⟩] a10 a8 cD3 (by omega) Try.underlying30 elem9 (by omega) rfl (by simp [Value.oneCell']) (by omega)
    refine ⟨_, _, _, b1, _, w4, br, _, _, _, rfl, b4, b5, b6, ?_⟩
    have n4 := a11.kpc (col' := col4) b7 (fun i _ hi => ne col3 3 2 cD3 (by omega) (by omega) i hi) b10 (fun v => b8 0 v (by omega))
    have b4' := b3.kpc (col' := col4) b7 (fun i _ hi => ne col3 3 4 cD3 (by omega) (by omega) i hi) b10 (fun v => b8 2 v (by omega))
    have w4' := w3'.kpc (col' := col4) b7 (fun i _ hi => ne col3 3 5 cD3 (by omega) (by omega) i hi) b10 (fun v => b8 3 v (by omega))
    have cD4 : col4 D = 1 := (b10 D hd3).trans cD3
    generalize w4.setCell ⟨D, 1, none⟩ (.slice q4 (m + 1) c4) = W4 at *
    have hd4 : D < W4.heap.size := Nat.lt_of_lt_of_le hd3 b7.size
    obtain ⟨qc, cc, d1, d2, v, w5, dr, q5, c5, rfl, d4, d5, d6, d7, d8, d9, col5, d10, d11, d12⟩ := b4'.push (t := 31) (ty := 31) #[.bool false] b11 b9 cD4 (by omega) Try.underlying31 elem4 (by omega) rfl (by simp [Value.oneCell']) (by omega)
    refine ⟨_, _, _, d1, _, w5, dr, _, _, _, rfl, d4, d5, d6, ?_⟩
    have n5 := n4.kpc (col' := col5) d7 (fun i _ hi => ne col4 4 2 cD4 (by omega) (by omega) i hi) d10 (fun v => d8 0 v (by omega))
    have s5 := b12.kpc (col' := col5) d7 (fun i _ hi => ne col4 4 3 cD4 (by omega) (by omega) i hi) d10 (fun v => d8 1 v (by omega))
    have w5' := w4'.kpc (col' := col5) d7 (fun i _ hi => ne col4 4 5 cD4 (by omega) (by omega) i hi) d10 (fun v => d8 3 v (by omega))
    generalize w5.setCell ⟨D, 2, none⟩ (.slice q5 (m + 1) c5) = W5 at *
    have hnext : growSt s (m + 1) = { growSt s m with size := m + 1, now := fun p => if p < 512 * (m : Int) then (growSt s m).now p else 0, has := fun i => if i < m then (growSt s m).has i else false } := by
      rw [← grow_grow s m hm1, grow_pos _ _ (by rw [hsz1]; omega), hsz1]
    have ok1 := growSt_ok h.ok (m := m + 1) (by omega)
    have z1 := k1.size
    have z2 : w1.heap.size ≤ w2.heap.size := k2.size
    have z3 := a6.size
    have z4 := b7.size
    have cc3 : ∀ i, i < w.heap.size → col3 i = col i := fun i hi => (a9 i (by omega)).trans (gr1.1 i hi)
    have cc4 : ∀ i, i < w.heap.size → col4 i = col i := fun i hi => (b10 i (by omega)).trans (cc3 i hi)
    have cc5 : ∀ i, i < w.heap.size → col5 i = col i := fun i hi => (d10 i (by omega)).trans (cc4 i hi)
    have hdD : col D = 1 := h.colD
    have kA : Kp (ownC col) w W3 := (k1.drew.trans (k2.mono fun _ _ h => h.elim)).then a6 fun i hi hh => by
      show col i ≠ 0
      rcases hh with hh | hh
      · rw [gr1.1 i hi] at hh; omega
      · rw [hh, hdD]; omega
    have kB : Kp (ownC col) w W4 := kA.then b7 fun i hi hh => by
      show col i ≠ 0
      rcases hh with hh | hh
      · rw [cc3 i hi] at hh; omega
      · rw [hh, hdD]; omega
    have kl : Kp (ownC col) w W5 := kB.then d7 fun i hi hh => by
      show col i ≠ 0
      rcases hh with hh | hh
      · rw [cc4 i hi] at hh; omega
      · rw [hh, hdD]; omega
    have hfin : RDsk W5 col5 D (growSt s (m + 1)) := by
      have hxl := s1.xlen
      rw [hsz1] at hxl
      rw [hnext] at ok1 ⊢
      refine ⟨(d10 D hd4).trans cD4, d11, d9, ?_, ⟨_, s5, fun i hi => ?_⟩, ?_, w5', ok1⟩
      · rw [strL_snoc _ (fun p => if p < 512 * (m : Int) then (growSt s m).now p else 0) m _ (fun p hp => if_pos hp) (strOf_eq fun j hj => by rw [if_neg (by omega)])] at n5
        exact n5
      · have hi : i < m + 1 := hi
        show _ ∧ ((if i < m then (growSt s m).has i else false) = true → _)
        by_cases c : i < m
        · rw [if_pos c]
          have e : (xs ++ [Value.string ⟨#[]⟩])[i]? = xs[i]? := List.getElem?_append_left (by omega)
          rw [e]
          exact s2 i (by rw [hsz1]; exact c)
        · rw [if_neg c]
          have e : (xs ++ [Value.string ⟨#[]⟩])[i]? = some (.string ⟨#[]⟩) := by rw [List.getElem?_append_right (by omega), show i - xs.length = 0 by omega]; rfl
          exact ⟨⟨_, e⟩, fun h => by cases h⟩
      · rw [boolL_snoc _ (fun i => if i < m then (growSt s m).has i else false) m _ (fun i hi => if_pos hi) (if_neg (by omega))] at d12
        exact d12
    refine ⟨⟨m + 1, by omega, by omega, kl, col5, ?_, hfin⟩, ?_⟩
    · exact ⟨cc5, d11⟩
    · rw [hfin.lack, h1.lack, hsz1, growSt_size]
      omega
  -- the sectors
  have hmM : m = M := by omega
  subst hmM
  have hgM : growSt s m = growSt s (hiF at_ n) := by rw [hM, growSt_max]
  generalize hg : growSt s m = g at *
  have hgw : g.wait = s.wait := by rw [← hg, growSt_wait]
  have e512 : at_.tdiv 512 = (loF at_ : Nat) := by unfold loF; rw [Int.tdiv_eq_ediv_of_nonneg (by omega)]; omega
  rw [e512]
  have hlo : loF at_ < hiF at_ n := by unfold loF hiF; omega
  have hlo1 : 512 * (loF at_ : Int) ≤ at_ ∧ at_ < 512 * (loF at_ : Int) + 512 := by unfold loF; omega
  have hhi1 : (at_ + n : Int) ≤ 512 * (hiF at_ n : Int) ∧ 512 * (hiF at_ n : Int) < at_ + n + 512 := by unfold hiF; omega
  refine ⟨by omega, wr64 (by omega) ⟨fun i w' => ∃ j : Nat, i = (loF at_ : Nat) + (j : Int) ∧ j ≤ hiF at_ n - loF at_ ∧ Kp (ownC col) w w' ∧ ∃ col', Grow col col' w w' ∧ RDsk w' col' D (partSt s g at_ n b j), fun i _ => (hiF at_ n - i).toNat, ⟨0, by omega, by omega, k1, col1, gr1, by rw [part0 s g at_ n b hgw (by omega)]; exact h1⟩, ?_⟩⟩
  rintro i w7 ⟨j, rfl, hj, k7, col7, gr7, h7⟩
  have done : j = hiF at_ n - loF at_ → ∃ v, Ending.returned (Value.int .i64 0) = .returned v ∧ v = Value.int .i64 0 ∧ Kp (ownC col) w w7 ∧ ∃ col', Grow col col' w w7 ∧ RDsk w7 col' D (writeSt s at_ n b) := by
    rintro rfl
    exact ⟨_, rfl, rfl, k7, col7, gr7, by rw [← partEnd s g at_ n b (by omega) hn0 hgM]; exact h7⟩
  refine bif_dec (fun hlt => wr64 (by omega) (wr64 (by omega) (bif_dec (fun hlt2 => ?_) (fun hge2 => done (by omega))))) (fun hge2 => done (by omega))
  obtain ⟨i, hi⟩ : ∃ i : Nat, i = loF at_ + j := ⟨_, rfl⟩
  have hie : ((loF at_ : Nat) : Int) + (j : Int) = (i : Nat) := by omega
  rw [hie] at hlt hlt2 ⊢
  have his : i < (partSt s g at_ n b j).size := by
    show i < g.size
    omega
  have hsn : ∀ x : Nat, partF g.now b at_ n (512 * ((loF at_ : Int) + x)) = (partSt s g at_ n b x).now := fun x => rfl
  have hb7 : Ints w7 .u8 q n b := hb.kp k7 fun h0 a ha hh => hh (hq h0 a ha)
  have hov : ∀ p, isByte (overF g.now b at_ n p) := fun p => by
    unfold overF
    split
    · exact hby _ (by omega) (by omega)
    · rw [← hg]; exact (growSt_ok h.ok (by omega)).now p
  have hpt : ∀ (to p : Int), isByte (partF g.now b at_ n to p) := fun to p => by
    unfold partF
    split
    · exact hby _ (by omega) (by omega)
    · rw [← hg]; exact (growSt_ok h.ok (by omega)).now p
  -- one sector
  have hwl : (partSt s g at_ n b j).wait.length ≤ 100000 := by
    show (s.wait ++ waits (loF at_) j (overF g.now b at_ n)).length ≤ _
    rw [List.length_append]
    have : (waits (loF at_) j (overF g.now b at_ n)).length = j := by simp [waits]
    omega
  have seg := fun (F T : Int) (hF : at_ ≤ F ∧ 512 * (i : Int) ≤ F) (hT : T ≤ at_ + n ∧ T ≤ 512 * (i : Int) + 512) (hFT : F ≤ T) (hF2 : F = at_ ∨ F = 512 * (i : Int)) (hT2 : T = at_ + n ∨ T = 512 * (i : Int) + 512) => seg58 h7 hb7 hby hcp at_ (by omega) (by omega) (by omega) i his F T hF hT hFT (G := overF g.now b at_ n)
    (fun p a c => by
      show partF _ _ _ _ _ _ = _
      unfold partF overF
      rw [if_neg (by omega), if_neg (by omega)])
    (fun p a c => by
      show partF _ _ _ _ _ _ = _
      unfold partF overF
      rw [if_neg (by omega), if_neg (by omega)])
    (fun p a c => by
      unfold overF
      rw [if_pos (by omega)])
    hwl (f := overF g.now b at_ n) (fun p _ _ => rfl) hov
    (I50 := fun i w' => ∃ j : Nat, i = (loF at_ : Nat) + (j : Int) ∧ j ≤ hiF at_ n - loF at_ ∧ Kp (ownC col) w w' ∧ ∃ col', Grow col col' w w' ∧ RDsk w' col' D (partSt s g at_ n b j)) (I51 := fun i _ => (hiF at_ n - i).toNat)
    (fun w8 col8 k8 gr8 h8 => ⟨⟨j + 1, by omega, by omega, k7.then k8 (fun x hx hh => by
      show col x ≠ 0
      rw [← gr7.1 x hx]
      exact hh), col8, gr7.trans gr8 k7.size, by rw [partNext s g at_ n b j i hi] at h8; exact h8⟩, by first | omega | (dsimp only; omega)⟩)
  refine wr64 (by omega) (wr64 (by omega) (wr64 (by omega) (bif_dec (fun c1 => wr64 (by omega) (bif_dec (fun c2 => wr64 (by omega) ?_) (fun c2 => ?_))) (fun c1 => wr64 (by omega) (bif_dec (fun c2 => wr64 (by omega) ?_) (fun c2 => ?_))))))
  · exact seg at_ (at_ + n) (by omega) (by omega) (by omega) (by omega) (by omega)
  · exact seg at_ (512 * i + 512) (by omega) (by omega) (by omega) (by omega) (by omega)
  · exact seg (512 * i) (at_ + n) (by omega) (by omega) (by omega) (by omega) (by omega)
  · exact seg (512 * i) (512 * i + 512) (by omega) (by omega) (by omega) (by omega) (by omega)
end
end Go.Proofs.Ytlgkcbdpaffigaa

namespace Go.Proofs.Ytlgkcbdpaffigaa
open Go Go.SX Go.Proofs Go.Lib
set_option maxRecDepth 100000
set_option linter.unusedVariables false
set_option linter.unusedSimpArgs false
/-! ### Calls, in memory -/
structure OpD where
  k : Int
  x : Int
  qb : Option Addr
  nb : Nat
  cb : Nat
  b : Int → Int
  qk : Option Addr
  nk : Nat
  ck : Nat
  kb : Nat → Bool
  fill : Int
def OpD.args (o : OpD) : Value := .agg #[.int .i64 o.k, .int .i64 o.x, .slice o.qb o.nb o.cb, .slice o.qk o.nk o.ck, .int .u8 o.fill]
section
variable {w w' : World} {col col' : Col} {D : Nat} {s : St}
/-! ### Disks, new -/
def emptySt : St := ⟨0, fun _ => 0, fun _ => false, fun _ => 0, []⟩
theorem empty_ok : emptySt.Ok := ⟨by decide, fun _ => (by decide : 0 ≤ (0 : Int) ∧ (0 : Int) < 256), fun _ => (by decide : 0 ≤ (0 : Int) ∧ (0 : Int) < 256), fun e he => by simp [emptySt] at he⟩
def newCol (D : Nat) : Col := fun i => if i = D then 1 else 0
theorem newCol_D (D : Nat) : newCol D D = 1 := if_pos rfl
theorem newCol_ne {D i : Nat} (h : newCol D i ≠ 0) : i = D := by
  unfold newCol at h
  by_cases e : i = D
  · exact e
  · rw [if_neg e] at h; exact absurd rfl h
theorem Dsk.new (hl : D < w.heap.size) (hf : ∀ o, w.frozen? ⟨D, o, none⟩ = false) (h0 : w.cell? ⟨D, 0, none⟩ = some (.slice none 0 0)) (h1 : w.cell? ⟨D, 1, none⟩ = some (.slice none 0 0)) (h2 : w.cell? ⟨D, 2, none⟩ = some (.slice none 0 0)) : Dsk w (newCol D) D emptySt :=
  ⟨newCol_D D, fun i hi => by rw [newCol_ne hi]; exact hl, hf, ⟨none, 0, h0, OwnRow.nil _ _ _ _⟩, ⟨none, 0, [], h1, OwnRow.nil _ _ _ _, fun i hi => by cases hi⟩, ⟨none, 0, [], h2, OwnRow.nil _ _ _ _, fun k e he => by simp [emptySt] at he⟩, empty_ok⟩
theorem RDsk.new (hl : D < w.heap.size) (hf : ∀ o, w.frozen? ⟨D, o, none⟩ = false) (h0 : w.cell? ⟨D, 0, none⟩ = some (.slice none 0 0)) (h1 : w.cell? ⟨D, 1, none⟩ = some (.slice none 0 0)) (h2 : w.cell? ⟨D, 2, none⟩ = some (.slice none 0 0)) (h3 : w.cell? ⟨D, 3, none⟩ = some (.slice none 0 0)) : RDsk w (newCol D) D emptySt :=
  ⟨newCol_D D, fun i hi => by rw [newCol_ne hi]; exact hl, hf, ⟨none, 0, h0, OwnRow.nil _ _ _ _⟩, ⟨[], ⟨none, 0, h1, OwnRow.nil _ _ _ _⟩, fun i hi => by cases hi⟩, ⟨none, 0, h2, OwnRow.nil _ _ _ _⟩, ⟨none, 0, h3, OwnRow.nil _ _ _ _⟩, empty_ok⟩
theorem write_wait (s : St) (at_ : Int) (n : Nat) (b : Int → Int) : (writeSt s at_ n b).wait.length = s.wait.length + (hiF at_ n - loF at_) := by
  unfold writeSt
  show (s.wait ++ waits _ _ _).length = _
  rw [List.length_append]
  simp [waits]
theorem write_size (s : St) (at_ : Int) (n : Nat) (b : Int → Int) : (writeSt s at_ n b).size = max s.size (hiF at_ n) := growSt_size s _
end
end Go.Proofs.Ytlgkcbdpaffigaa

namespace Go.Proofs.Ytlgkcbdpaffigaa
open Go Go.SX Go.Proofs
set_option maxRecDepth 100000
set_option linter.unusedVariables false
set_option linter.unusedSimpArgs false
structure Pk (P : World → Col → Nat → St → Prop) : Prop where
  kp : ∀ {S : Nat → Prop} {w w' : World} {col : Col} {D : Nat} {s : St}, P w col D s → Kp S w w' → (∀ i, S i → col i = 0) → P w' col D s
  lt : ∀ {w : World} {col : Col} {D : Nat} {s : St}, P w col D s → ∀ i, col i ≠ 0 → i < w.heap.size
theorem pkD : Pk Dsk := ⟨fun h k hs => h.kp k hs, fun h => h.lt⟩
theorem pkR : Pk RDsk := ⟨fun h k hs => h.kp k hs, fun h => h.lt⟩
def Dks (P : World → Col → Nat → St → Prop) (w : World) (Q : Nat → Prop) (Ds : List Nat) (ds : List St) : Prop :=
  ∃ cols : Nat → Col, Ds.length = ds.length ∧ (∀ i, i < ds.length → P w (cols i) (Ds.getD i 0) (ds.getD i emptySt)) ∧ (∀ i x, i < ds.length → cols i x ≠ 0 → Q x) ∧ ∀ i j x, i < ds.length → j < ds.length → i ≠ j → cols i x ≠ 0 → cols j x = 0
section
variable {P : World → Col → Nat → St → Prop} {w w' : World} {Q : Nat → Prop} {Ds : List Nat} {ds : List St}
theorem Dks.len (h : Dks P w Q Ds ds) : Ds.length = ds.length := by
  obtain ⟨cols, h1, h2, h3, h4⟩ := h
  exact h1
theorem Dks.kp (pk : Pk P) {S Q' : Nat → Prop} (h : Dks P w Q Ds ds) (k : Kp S w w') (hs : ∀ x, x < w.heap.size → Q x → ¬ S x ∧ Q' x) : Dks P w' Q' Ds ds := by
  obtain ⟨cols, h1, h2, h3, h4⟩ := h
  refine ⟨cols, h1, fun i hi => pk.kp (h2 i hi) k fun x hx => ?_, fun i x hi hx => (hs x (pk.lt (h2 i hi) x hx) (h3 i x hi hx)).2, h4⟩
  by_cases e : cols i x = 0
  · exact e
  · exact absurd hx (hs x (pk.lt (h2 i hi) x e) (h3 i x hi e)).1
theorem Dks.kp0 (pk : Pk P) (h : Dks P w Q Ds ds) (k : Kp none_ w w') : Dks P w' Q Ds ds := h.kp pk k fun x _ hx => ⟨id, hx⟩
theorem Dks.at (pk : Pk P) (h : Dks P w Q Ds ds) {i : Nat} (hi : i < ds.length) : ∃ col, P w col (Ds.getD i 0) (ds.getD i emptySt) ∧ (∀ x, col x ≠ 0 → Q x) ∧
    ∀ {w' : World} {col' : Col} {s' : St}, Kp (ownC col) w w' → Grow col col' w w' → P w' col' (Ds.getD i 0) s' → Dks P w' (fun x => Q x ∨ w.heap.size ≤ x) Ds (ds.set i s') := by
  obtain ⟨cols, h1, h2, h3, h4⟩ := h
  refine ⟨cols i, h2 i hi, fun x => h3 i x hi, ?_⟩
  intro w' col' s' k g p
  have gd : ∀ x, col' x ≠ 0 → x < w.heap.size → cols i x ≠ 0 := fun x hx hl => by rw [← g.1 x hl]; exact hx
  refine ⟨fun j => if j = i then col' else cols j, by simpa using h1, fun j hj => ?_, fun j x hj hx => ?_, fun a c x ha hc hne hx => ?_⟩
  · rw [List.length_set] at hj
    by_cases e : j = i
    · subst e
      simp only [if_pos rfl]
      rw [List.getD_eq_getElem?_getD (l := ds.set j s'), List.getElem?_set_self hj]
      exact p
    · simp only [if_neg e]
      rw [List.getD_eq_getElem?_getD (l := ds.set i s'), List.getElem?_set_ne (fun h => e h.symm), ← List.getD_eq_getElem?_getD]
      exact pk.kp (h2 j hj) k fun x hx => h4 i j x hi hj (fun h => e h.symm) hx
  · rw [List.length_set] at hj
    by_cases e : j = i
    · subst e
      simp only [if_pos rfl] at hx
      by_cases hl : x < w.heap.size
      · exact .inl (h3 j x hj (gd x hx hl))
      · exact .inr (by omega)
    · simp only [if_neg e] at hx
      exact .inl (h3 j x hj hx)
  · rw [List.length_set] at ha hc
    by_cases e : a = i
    · subst e
      simp only [if_pos rfl] at hx
      show (if c = a then col' else cols c) x = 0
      rw [if_neg (fun h : c = a => hne h.symm)]
      by_cases hl : x < w.heap.size
      · exact h4 a c x ha hc hne (gd x hx hl)
      · by_cases e2 : cols c x = 0
        · exact e2
        · exact absurd (pk.lt (h2 c hc) x e2) hl
    · simp only [if_neg e] at hx
      by_cases e2 : c = i
      · subst e2
        show (if c = c then col' else cols c) x = 0
        rw [if_pos rfl]
        have hl := pk.lt (h2 a ha) x hx
        rw [g.1 x hl]
        exact h4 a c x ha hc hne hx
      · simp only [if_neg e2]
        exact h4 a c x ha hc hne hx
theorem Dks.nil (P : World → Col → Nat → St → Prop) (w : World) (Q : Nat → Prop) : Dks P w Q [] [] := ⟨fun _ _ => 0, rfl, fun i hi => by simp at hi, fun i x hi => by simp at hi, fun i j x hi => by simp at hi⟩
theorem Dks.snoc (pk : Pk P) {d : Nat} (h : Dks P w Q Ds ds) (hn : P w (newCol d) d emptySt) (hd : ¬ Q d) : Dks P w (fun x => Q x ∨ x = d) (Ds ++ [d]) (ds ++ [emptySt]) := by
  obtain ⟨cols, h1, h2, h3, h4⟩ := h
  refine ⟨fun j => if j = ds.length then newCol d else cols j, by simp [h1], fun j hj => ?_, fun j x hj hx => ?_, fun a c x ha hc hne hx => ?_⟩
  · by_cases e : j = ds.length
    · subst e
      simp only [if_pos rfl]
      rw [List.getD_eq_getElem?_getD, List.getD_eq_getElem?_getD, List.getElem?_append_right (by omega), List.getElem?_append_right (by omega), h1]
      simpa using hn
    · have hj : j < ds.length := by simp at hj; omega
      simp only [if_neg e]
      rw [List.getD_eq_getElem?_getD, List.getD_eq_getElem?_getD, List.getElem?_append_left (by omega), List.getElem?_append_left (by omega), ← List.getD_eq_getElem?_getD, ← List.getD_eq_getElem?_getD]
      exact h2 j hj
  · by_cases e : j = ds.length
    · subst e
      simp only [if_pos rfl] at hx
      exact .inr (newCol_ne hx)
    · have hj : j < ds.length := by simp at hj; omega
      simp only [if_neg e] at hx
      exact .inl (h3 j x hj hx)
  · by_cases e : a = ds.length
    · subst e
      simp only [if_pos rfl] at hx
      have hc : c < ds.length := by simp at hc; omega
      show (if c = ds.length then newCol d else cols c) x = 0
      rw [if_neg (fun h : c = ds.length => hne h.symm)]
      by_cases e2 : cols c x = 0
      · exact e2
      · have := h3 c x hc e2
        rw [newCol_ne hx] at this
        exact absurd this hd
    · have ha : a < ds.length := by simp at ha; omega
      simp only [if_neg e] at hx
      by_cases e2 : c = ds.length
      · subst e2
        show (if ds.length = ds.length then newCol d else cols ds.length) x = 0
        rw [if_pos rfl]
        by_cases e3 : newCol d x = 0
        · exact e3
        · have := h3 a x ha hx
          rw [newCol_ne e3] at this
          exact absurd this hd
      · have hc : c < ds.length := by simp at hc; omega
        simp only [if_neg e2]
        exact h4 a c x ha hc hne hx
end
end Go.Proofs.Ytlgkcbdpaffigaa

namespace Go.Proofs.Ytlgkcbdpaffigaa
open Go Go.SX Go.Proofs
set_option maxRecDepth 100000
set_option linter.unusedVariables false
set_option linter.unusedSimpArgs false
variable {w : World} {O : Nat → Prop} {b : Nat} {S : List Ent} {ws : List Chg} {cap k r : Int} {rl : List Int}
theorem c29r {Ds : List Nat} (h : FSM w O b Ds S ws cap k r rl) (hk : 0 ≤ k ∧ k ≤ 1000000) (hr : 0 ≤ r ∧ r ≤ 1000000) (hl : rl.length ≤ 1000000) (hn : k + 1 ∈ rl) (i a : Int) (q : Option Addr) (n c : Nat) : Rets Try.prog 29 #[ptA b 0, .int .i64 i, .int .i64 a, .slice q n c] w fun v w' => v = .int .i64 10 ∧ FSM w' O b Ds S ws cap (k + 1) (r + 1) rl ∧ Kp (one_ b) w w' := by
  refine ent [_, _, _, _] Try.func29 ((vcTry29 _ _ _ _ _ _ w _).mpr ?_)
  unfold VCTry29
  refine (c76 h hk hr hl).mono ?_
  rintro v w1 ⟨rfl, h1, k1⟩
  have e1 : refE rl k = 10 := by unfold refE; rw [if_pos hn]
  have e2 : refN rl k r = r + 1 := by unfold refN; rw [if_pos hn]
  rw [e1]
  rw [e2] at h1
  exact ⟨_, rfl, k1.keeps0, bif_ne (fun _ => ⟨_, rfl, rfl, h1, k1⟩) (fun hh => by cases hh)⟩
/-- The document's example. -/
theorem c23 (w : World) : Rets Try.prog 23 #[] w fun v w' => v = .bool true ∧ Kp none_ w w' := by
  refine ent [] Try.func23 ((vcTry23 w _).mpr ?_)
  unfold VCTry23
  refine (c24 9 w).mono ?_
  rintro v w1 ⟨rfl, h1, k1⟩
  have z1 := k1.size
  refine ⟨_, rfl, k1.keeps0, ?_⟩
  have ka : Kp none_ w1 (w1.alloc (.cells #[.int .i64 2] 3)) := (Kp.refl none_ _).alloc1 _
  have za : (w1.alloc (.cells #[.int .i64 2] 3)).heap.size = w1.heap.size + 1 := alloc_size _ _
  have Ba : Big (w1.alloc (.cells #[.int .i64 2] 3)) w1.heap.size 3 [.int .i64 2] := Big.new _ _ 3
  generalize w1.alloc (.cells #[.int .i64 2] 3) = wa at *
  have ra : RowsAt wa 1 intC (some ⟨w1.heap.size, 0, none⟩) [2] := fun i hi => ⟨_, rfl, fun j u hu => by
    have hi0 : i = 0 := by simpa using hi
    subst hi0
    rw [ad_add, ad_add, Ba.cell]
    match j, hu with
    | 0, hu => exact hu
    | j + 1, hu => simp [intC] at hu⟩
  have h1a := (h1.kp (O' := fun i => w.heap.size ≤ i ∧ i < w1.heap.size) (Kp.refl none_ _) fun i hl hi => ⟨id, hi, hl⟩).kp0 ka
  refine (c27 h1a (fun i hi => by have := hi.2; omega) ra (by simp) (.inr ⟨_, _, rfl⟩)).mono ?_
  rintro v w2 ⟨rfl, h2, k2⟩
  have z2 := k2.size
  refine ⟨rfl, k2.keeps0, ?_⟩
  have h2 := h2.kp (O' := fun i => w.heap.size ≤ i ∧ i < w2.heap.size) (Kp.refl none_ _) fun i hl hi => ⟨id, by rcases hi with hi | hi; exact ⟨hi.1, hl⟩; exact ⟨by omega, hl⟩⟩
  have en : newE [2] 0 [] (lastE [] []) [97] = 0 := by decide
  refine (c28 h2 (fun i hi => hi.2) (by omega) (by omega) (by simp) (by simp [lastE, Asc]) (by simp) [97]).mono ?_
  rintro v w3 ⟨rfl, k3, f3, _⟩
  have z3 := k3.size
  obtain ⟨d, d1, d2, h3, _⟩ := f3 en
  rw [en, if_pos rfl]
  refine ⟨_, _, rfl, k3.keeps0, ?_⟩
  have kb : Kp none_ w3 (w3.alloc (.cells #[.int .u8 1] 5)) := (Kp.refl none_ _).alloc1 _
  have h3b := h3.kp0 kb
  have en2 : refN [2] 0 0 = 0 := by decide
  rw [en2] at h3b
  generalize w3.alloc (.cells #[.int .u8 1] 5) = wb at *
  have zb := kb.size
  refine (c29r h3b (by omega) (by omega) (by simp) (by decide) _ 0 _ 1 1).mono ?_
  rintro v w4 ⟨rfl, h4, k4⟩
  refine ⟨_, rfl, k4.keeps0, (c51 h4).mono ?_⟩
  rintro v w5 ⟨rfl, rfl⟩
  refine ⟨_, _, rfl, Kp.keeps0 (Kp.drew1 (S := none_)), bif_eq (fun _ => bif_eq (fun _ => bif_eq (fun _ => ⟨_, rfl, rfl, ?_⟩) (fun hh => absurd rfl hh)) (fun hh => absurd rfl hh)) (fun hh => absurd rfl hh)⟩
  have K : Kp (fun i => w.heap.size ≤ i) w w4 := ((((k1.wide.trans ka.wide).trans (k2.mono fun i _ hi => hi.1)).trans (k3.mono fun i _ hi => hi.1)).trans kb.wide).trans (k4.mono fun i _ hi => by have hi : i = w.heap.size := hi; omega)
  exact Kp.drew (K.mono fun i hi hh => by omega)
end Go.Proofs.Ytlgkcbdpaffigaa

namespace Go.Proofs.Ytlgkcbdpaffigaa
open Go Go.SX Go.Proofs
set_option maxRecDepth 100000
set_option linter.unusedVariables false
set_option linter.unusedSimpArgs false
structure Fst where
  ds : List St
  S : List Ent
  ws : List Chg
  cap : Int
  k : Int
  r : Int
  rl : List Int
structure Fok (f : Fst) : Prop where
  wf : WfE f.S
  ok : okCs f.S f.ws
  wsl : f.ws.length ≤ 100000
  dsl : f.ds.length ≤ 1000
  k : 0 ≤ f.k ∧ f.k ≤ 100000
  r : 0 ≤ f.r ∧ f.r ≤ 100000
  rll : f.rl.length ≤ 100000
  cap : 0 ≤ f.cap ∧ f.cap ≤ 65536
def FSD (w : World) (O : Nat → Prop) (b : Nat) (f : Fst) : Prop :=
  ∃ (Ds : List Nat) (Of : Nat → Prop), FSM w Of b Ds f.S f.ws f.cap f.k f.r f.rl ∧ Dks Dsk w (fun x => O x ∧ ¬ Of x) Ds f.ds ∧ ∀ x, Of x → O x
def lnk (f : Fst) (i : Int) : Bool := made f.ws i || (idIn (lastE f.S f.ws) i || idIn f.S i)
def usedN (f : Fst) : Nat → Int
  | 0 => 0
  | n + 1 => usedN f n + (if lnk f n = true then ((f.ds.getD n emptySt).size : Int) else 0)
variable {w w' : World} {O O' : Nat → Prop} {b : Nat} {f : Fst}
theorem FSD.kp {S' : Nat → Prop} (h : FSD w O b f) (k : Kp S' w w') (hs : ∀ x, x < w.heap.size → O x → ¬ S' x ∧ O' x) : FSD w' O' b f := by
  obtain ⟨Ds, Of, h1, h2, h3⟩ := h
  refine ⟨Ds, fun x => Of x ∧ x < w.heap.size, h1.kp k fun x hl hx => ⟨(hs x hl (h3 x hx)).1, hx, hl⟩, h2.kp pkD k fun x hl hx => ⟨(hs x hl hx.1).1, (hs x hl hx.1).2, fun hh => hx.2 hh.1⟩, fun x hx => (hs x hx.2 (h3 x hx.1)).2⟩
theorem FSD.kp0 (h : FSD w O b f) (k : Kp none_ w w') : FSD w' O b f := h.kp k fun x _ hx => ⟨id, hx⟩
theorem FSD.lt (h : FSD w O b f) : b < w.heap.size ∧ O b := by
  obtain ⟨Ds, Of, h1, h2, h3⟩ := h
  exact ⟨h1.lt.1, h3 _ h1.lt.2⟩
theorem Fok.last (o : Fok f) : WfE (lastE f.S f.ws) := wf_last o.wf o.ok
theorem getD_get {α : Type} (l : List α) (d : α) {i : Nat} (hi : i < l.length) : l[i]? = some (l.getD i d) := by
  rw [List.getD_eq_getElem?_getD, List.getElem?_eq_getElem hi]; rfl
/-- What is used. -/
theorem c55 (h : FSD w O b f) (o : Fok f) : Rets Try.prog 55 #[ptA b 0] w fun v w' => v = .int .i64 (usedN f f.ds.length) ∧ (0 ≤ usedN f f.ds.length ∧ usedN f f.ds.length ≤ 4096 * f.ds.length) ∧ Kp none_ w w' := by
  refine ent [_] Try.func55 ((vcTry55 _ w _).mpr ?_)
  unfold VCTry55
  obtain ⟨Ds, Of, h1, h2, h3⟩ := h
  have hlen := h2.len
  have hdl := o.dsl
  refine bif_b (fun hh => by cases hh) (fun _ => ?_)
  obtain ⟨q, c, e0, r0⟩ := h1.disks
  simp only [ptr_some, ad3, Nat.zero_add, Nat.add_zero]
  refine ⟨_, _, _, e0, fun i n w' => ∃ j : Nat, i = j ∧ j ≤ f.ds.length ∧ n = usedN f j ∧ (0 ≤ n ∧ n ≤ 4096 * j) ∧ Kp none_ w w', fun i _ _ => (f.ds.length - i).toNat, ⟨0, rfl, by omega, rfl, by omega, Kp.refl _ _⟩, ?_⟩
  rintro i n w1 ⟨j, rfl, hj, rfl, hn, k1⟩
  refine bif_dec (fun hi => ?_) (fun hi => ?_)
  · have hjl : j < f.ds.length := by omega
    have hjD : j < Ds.length := by omega
    refine ⟨⟨by omega, hi⟩, (r0.kp0 k1).get hjD fun a ea hc => ⟨_, (cell_add0 _ _).symm.trans (hc 0 _ rfl), ?_⟩⟩
    obtain ⟨Od, d⟩ := (h1.kp0 k1).dir
    refine (c46 d (by have := o.wsl; omega) o.last.asc (by have := o.last.len; omega) o.wf.asc (by have := o.wf.len; omega) j).mono ?_
    rintro v w2 ⟨rfl, k2⟩
    have K2 := k1.trans k2
    have hl : (made f.ws j || (idIn (lastE f.S f.ws) j || idIn f.S j)) = lnk f j := rfl
    refine ⟨_, rfl, k2.keeps0, bif_b (fun ht => ?_) (fun ht => ?_)⟩
    · obtain ⟨col, p, _, _⟩ := (h2.kp0 pkD K2).at pkD hjl
      have eD : Ds.getD j 0 = Ds[j] := by rw [List.getD_eq_getElem?_getD, List.getElem?_eq_getElem hjD]; rfl
      rw [eD] at p
      have sz := p.ok.size
      refine (c18 p).mono ?_
      rintro v w3 ⟨rfl, e⟩
      obtain rfl := e.symm
      have eu : usedN f (j + 1) = usedN f j + (f.ds.getD j emptySt).size := by
        show usedN f j + (if lnk f j = true then _ else _) = _
        rw [if_pos (by rw [← hl]; exact ht)]
      exact ⟨_, rfl, (Kp.refl none_ _).keeps0, wr64 (by omega) (wr64 (by omega) ⟨⟨j + 1, by omega, by omega, eu.symm, by omega, K2⟩, by first | omega | (dsimp only; omega)⟩)⟩
    · have eu : usedN f (j + 1) = usedN f j := by
        show usedN f j + (if lnk f j = true then _ else _) = _
        rw [if_neg (by rw [← hl, ht]; simp), Int.add_zero]
      exact wr64 (by omega) ⟨⟨j + 1, by omega, by omega, eu.symm, by omega, K2⟩, by first | omega | (dsimp only; omega)⟩
  · have ej : j = f.ds.length := by omega
    subst ej
    exact ⟨_, rfl, rfl, hn, k1⟩
end Go.Proofs.Ytlgkcbdpaffigaa

namespace Go.Proofs.Ytlgkcbdpaffigaa
open Go Go.SX Go.Proofs
set_option maxRecDepth 100000
set_option linter.unusedVariables false
set_option linter.unusedSimpArgs false
def cnt (f : Fst) : Fst := { f with k := f.k + 1, r := refN f.rl f.k f.r }
variable {w w' : World} {O O' : Nat → Prop} {b : Nat} {f : Fst}
theorem c76F (h : FSD w O b f) (o : Fok f) : Rets Try.prog 76 #[ptA b 0] w fun v w' => v = .int .i64 (refE f.rl f.k) ∧ FSD w' O b (cnt f) ∧ Kp (one_ b) w w' := by
  obtain ⟨Ds, Of, h1, h2, h3⟩ := h
  have o1 := o.k
  have o2 := o.r
  have o3 := o.rll
  refine (c76 h1 (by omega) (by omega) (by omega)).mono ?_
  rintro v w1 ⟨rfl, g, k⟩
  exact ⟨rfl, ⟨Ds, Of, g, h2.kp pkD k fun x _ hx => ⟨fun e => hx.2 (by have e : x = b := e; rw [e]; exact h1.lt.2), hx⟩, h3⟩, k⟩
theorem FSM.setR {Ds : List Nat} {S : List Ent} {ws : List Chg} {cap k r : Int} {rl : List Int} (h : FSM w O b Ds S ws cap k r rl) (r' : Int) : w.cell? ⟨b, 6, none⟩ = some (.int .i64 r) ∧ (∃ v, w.cell? ⟨b, 6, none⟩ = some v) ∧ w.frozen? ⟨b, 6, none⟩ = false ∧ FSM (w.setCell ⟨b, 6, none⟩ (.int .i64 r')) O b Ds S ws cap k r' rl ∧ Kp (one_ b) w (w.setCell ⟨b, 6, none⟩ (.int .i64 r')) := by
  obtain ⟨dv, own, Od, rq, rc, h1, h2, h3, h4, h5, h6, h7, h8⟩ := h
  have kk : Kp (one_ b) w (w.setCell ⟨b, 6, none⟩ (.int .i64 r')) := kp_set _ _ _ _
  have nb : Nb b 4 4 w (w.setCell ⟨b, 6, none⟩ (.int .i64 r')) := Nb.set w (b := b) (o := 4) (i := 2) (by omega) _
  have cc : Cs (w.setCell ⟨b, 6, none⟩ (.int .i64 r')) b 4 [.int .i64 cap, .int .i64 k, .int .i64 r', .slice rq rl.length rc] := h3.set 2 _
  exact ⟨h3.get 2 rfl, (h3.slot 2 (by simp)).1, (h3.slot 2 (by simp)).2, ⟨dv, own, Od, rq, rc, h1.nb kk nb (.inl (by simp)), h2.nb kk nb (.inl (by omega)), cc, h4.kp kk (fun g n cap _ hg e => by have e : g = b := e; rw [e] at hg; exact (h7 b hg).2 h2.lt.2), h5.kp kk (fun h0 a e hh => (h6 h0 a e).2.1 hh), h6, h7, h8⟩, kk⟩
theorem FSM.cap' {Ds : List Nat} {S : List Ent} {ws : List Chg} {cap k r : Int} {rl : List Int} (h : FSM w O b Ds S ws cap k r rl) : w.cell? ⟨b, 4, none⟩ = some (.int .i64 cap) := by
  obtain ⟨dv, own, Od, rq, rc, h1, h2, h3, h4, h5, h6, h7, h8⟩ := h
  exact h3.get 0 rfl
/-- A disk of a file system has been changed. -/
theorem FSD.disk (h : FSD w O b f) {i : Nat} (hi : i < f.ds.length) : ∃ d col, Rets Try.prog 77 #[ptA b 0, .int .i64 i] w (fun v w' => w' = w ∧ v = .pointer (some ⟨d, 0, none⟩)) ∧ Dsk w col d (f.ds.getD i emptySt) ∧ (∀ x, col x ≠ 0 → O x) ∧
    ∀ {w' : World} {col' : Col} {s' : St}, Kp (ownC col) w w' → Grow col col' w w' → Dsk w' col' d s' → FSD w' (fun x => O x ∨ w.heap.size ≤ x) b { f with ds := f.ds.set i s' } := by
  obtain ⟨Ds, Of, h1, h2, h3⟩ := h
  have hlen := h2.len
  obtain ⟨col, p, q, put⟩ := h2.at pkD hi
  refine ⟨Ds.getD i 0, col, ?_, p, fun x hx => (q x hx).1, ?_⟩
  · refine (c77 h1 i).mono ?_
    rintro v w' ⟨rfl, rfl⟩
    refine ⟨rfl, ?_⟩
    rw [if_pos (by omega), Int.toNat_natCast, getD_get Ds 0 (by omega)]
    rfl
  · intro w' col' s' k g p'
    have z := k.size
    exact ⟨Ds, fun x => Of x ∧ x < w.heap.size, h1.kp k fun x hl hx => ⟨fun hh => (q x hh).2 hx, hx, hl⟩, (put k g p').kp pkD (Kp.refl none_ _) fun x hl hx => ⟨id, by rcases hx with hx | hx; exact ⟨.inl hx.1, fun hh => hx.2 hh.1⟩; exact ⟨.inr hx, fun hh => by have := hh.2; omega⟩⟩, fun x hx => .inl (h3 x hx.1)⟩
theorem FSD.none (h : FSD w O b f) {i : Int} (hi : i < 0 ∨ f.ds.length ≤ i) : Rets Try.prog 77 #[ptA b 0, .int .i64 i] w (fun v w' => w' = w ∧ v = .pointer none) := by
  obtain ⟨Ds, Of, h1, h2, h3⟩ := h
  have hlen := h2.len
  refine (c77 h1 i).mono ?_
  rintro v w' ⟨rfl, rfl⟩
  refine ⟨rfl, ?_⟩
  split
  · rw [List.getElem?_eq_none (by omega)]; rfl
  · rfl
theorem cnt_ok (o : Fok f) (hk : f.k < 100000) (hr : f.r < 100000) : Fok (cnt f) := ⟨o.wf, o.ok, o.wsl, o.dsl, by have := o.k; show 0 ≤ f.k + 1 ∧ f.k + 1 ≤ 100000; omega, by
  have := o.r
  show 0 ≤ refN f.rl f.k f.r ∧ refN f.rl f.k f.r ≤ _
  unfold refN
  split <;> omega, o.rll, o.cap⟩
/-- What a write answers and leaves. -/
def wrF (f : Fst) (i at_ : Int) (n : Nat) (bf : Int → Int) : Int × Fst :=
  if refE f.rl f.k ≠ 0 then (10, cnt f) else
  if i < 0 ∨ f.ds.length ≤ i ∨ rightF at_ n = false then (1, cnt f) else
  if needF (f.ds.getD i.toNat emptySt) at_ n > (f.ds.getD i.toNat emptySt).size ∧ needF (f.ds.getD i.toNat emptySt) at_ n - (f.ds.getD i.toNat emptySt).size > f.cap - usedN f f.ds.length then (9, { cnt f with r := (cnt f).r + 1 }) else
  (0, { cnt f with ds := f.ds.set i.toNat (if rightF at_ n = true ∧ n ≠ 0 then writeSt (f.ds.getD i.toNat emptySt) at_ n bf else f.ds.getD i.toNat emptySt) })
theorem usedN_cnt (f : Fst) : ∀ n, usedN (cnt f) n = usedN f n
  | 0 => rfl
  | n + 1 => by
    show usedN (cnt f) n + _ = usedN f n + _
    rw [usedN_cnt f n]
    rfl
theorem refE_or (rl : List Int) (k : Int) : refE rl k = 0 ∨ refE rl k = 10 := by
  unfold refE
  split
  · exact .inr rfl
  · exact .inl rfl
theorem c29 (h : FSD w O b f) (o : Fok f) (hk : f.k < 100000) (hr : f.r < 100000) (hO : ∀ x, O x → x < w.heap.size) {q : Option Addr} {n cp : Nat} {bf : Int → Int} (hb : Ints w .u8 q n bf) (hby : ∀ i : Int, 0 ≤ i → i < n → isByte (bf i)) (hq : 0 < n → ∀ a, q = some a → ¬ O a.block) (i at_ : Int) (hw : ∀ s ∈ f.ds, s.wait.length ≤ 90000) :
    Rets Try.prog 29 #[ptA b 0, .int .i64 i, .int .i64 at_, .slice q n cp] w fun v w' => v = .int .i64 (wrF f i at_ n bf).1 ∧ FSD w' (fun x => O x ∨ w.heap.size ≤ x) b (wrF f i at_ n bf).2 ∧ Kp O w w' := by
  refine ent [_, _, _, _] Try.func29 ((vcTry29 _ _ _ _ _ _ w _).mpr ?_)
  unfold VCTry29
  have lb := h.lt
  refine (c76F h o).mono ?_
  rintro v w1 ⟨rfl, h1, k1⟩
  have z1 := k1.size
  have K1 : Kp O w w1 := k1.mono fun x _ hx => by have hx : x = b := hx; rw [hx]; exact lb.2
  have o1 := cnt_ok o hk hr
  have up : ∀ {W : World} {g : Fst}, FSD W O b g → w.heap.size ≤ W.heap.size → FSD W (fun x => O x ∨ w.heap.size ≤ x) b g := fun hg _ => hg.kp (Kp.refl none_ _) fun x _ hx => ⟨id, .inl hx⟩
  rcases (refE_or f.rl f.k).symm with e0 | e0
  · have eW : wrF f i at_ n bf = (10, cnt f) := by unfold wrF; rw [if_pos (by rw [e0]; decide)]
    rw [eW, e0]
    exact ⟨_, rfl, k1.keeps0, bif_ne (fun _ => ⟨_, rfl, rfl, up h1 z1, K1⟩) (fun hh => by cases hh)⟩
  rw [e0]
  refine ⟨_, rfl, k1.keeps0, bif_ne (fun hh => absurd rfl hh) fun _ => ?_⟩
  by_cases hi : i < 0 ∨ f.ds.length ≤ i
  · have eW : wrF f i at_ n bf = (1, cnt f) := by unfold wrF; rw [if_neg (by rw [e0]; simp), if_pos (by rcases hi with hi | hi; exact .inl hi; exact .inr (.inl hi))]
    rw [eW]
    refine (h1.none hi).mono ?_
    rintro v w2 ⟨e, rfl⟩
    obtain rfl := e.symm
    refine ⟨_, rfl, (Kp.refl none_ _).keeps0, (c65n at_ n w1).mono ?_⟩
    rintro v w2 ⟨e, rfl⟩
    obtain rfl := e.symm
    exact ⟨_, _, rfl, (Kp.refl none_ _).keeps0, bif_not (fun _ => ⟨_, rfl, rfl, up h1 z1, K1⟩) (fun hh => by cases hh)⟩
  · obtain ⟨j, rfl⟩ : ∃ j : Nat, i = j := ⟨i.toNat, by omega⟩
    have hj : j < (cnt f).ds.length := by show j < f.ds.length; omega
    obtain ⟨d, col, e77, p, cO, put⟩ := h1.disk hj
    have p : Dsk w1 col d (f.ds.getD j emptySt) := p
    refine e77.mono ?_
    rintro v w2 ⟨e, rfl⟩
    obtain rfl := e.symm
    refine ⟨_, rfl, (Kp.refl none_ _).keeps0, (c65 p at_ n).mono ?_⟩
    rintro v w2 ⟨rfl, e⟩
    obtain rfl := e.symm
    refine ⟨_, _, rfl, (Kp.refl none_ _).keeps0, bif_not (fun hr0 => ?_) (fun hr1 => ?_)⟩
    · have eW : wrF f j at_ n bf = (1, cnt f) := by unfold wrF; rw [if_neg (by rw [e0]; simp), if_pos (.inr (.inr hr0))]
      rw [eW]
      exact ⟨_, rfl, rfl, up h1 z1, K1⟩
    · rw [if_pos hr1]
      have eW : wrF f j at_ n bf = if needF (f.ds.getD j emptySt) at_ n > (f.ds.getD j emptySt).size ∧ needF (f.ds.getD j emptySt) at_ n - (f.ds.getD j emptySt).size > f.cap - usedN f f.ds.length then (9, { cnt f with r := (cnt f).r + 1 }) else (0, { cnt f with ds := f.ds.set j (if rightF at_ n = true ∧ n ≠ 0 then writeSt (f.ds.getD j emptySt) at_ n bf else f.ds.getD j emptySt) }) := by
        unfold wrF
        rw [if_neg (by rw [e0]; simp), if_neg (by rw [hr1]; simp; omega), Int.toNat_natCast]
      have hmem : f.ds.getD j emptySt ∈ f.ds := by
        have := getD_get f.ds emptySt (i := j) hj
        exact List.mem_of_getElem? this
      have szo := p.ok.size
      have nO : needF (f.ds.getD j emptySt) at_ n ≤ 4200 ∧ 0 ≤ needF (f.ds.getD j emptySt) at_ n := by
        have hr2 := of_decide_eq_true hr1
        unfold needF
        split <;> omega
      have hrest : ∀ {W : World}, Kp none_ w1 W → (¬ (needF (f.ds.getD j emptySt) at_ n > (f.ds.getD j emptySt).size ∧ needF (f.ds.getD j emptySt) at_ n - (f.ds.getD j emptySt).size > f.cap - usedN f f.ds.length)) → Rets Try.prog 20 #[.pointer (some ⟨d, 0, none⟩), .int .i64 at_, .slice q n cp] W fun v w3 => ∃ i3 : Int, v = .int .i64 i3 ∧ Keeps W w3 [] ∧ ∃ v, Ending.returned (.int .i64 i3) = Ending.returned v ∧ v = .int .i64 (wrF f j at_ n bf).1 ∧ FSD w3 (fun x => O x ∨ w.heap.size ≤ x) b (wrF f j at_ n bf).2 ∧ Kp O w w3 := fun {W} kW hc => by
        rw [eW, if_neg hc]
        have zW := kW.size
        have hqW : 0 < n → ∀ a, q = some a → col a.block = 0 := fun h0 a e => by
          by_cases ec : col a.block = 0
          · exact ec
          · exact absurd (cO _ ec) (hq h0 a e)
        have hbW : Ints W .u8 q n bf := ((hb.kp k1 fun h0 a e hh => hq h0 a e (by have hh : a.block = b := hh; rw [hh]; exact lb.2)).kp kW fun _ _ _ => id)
        refine (c20 (p.kp0 kW) hbW hby hqW (hw _ hmem) at_).mono ?_
        rintro v w3 ⟨rfl, k3, col', g3, p3⟩
        have kk := kW.wide.trans k3
        have F3 := put kk ⟨fun i hi => g3.1 i (by omega), g3.2⟩ p3
        refine ⟨_, rfl, k3.keeps0, _, rfl, by rw [if_pos hr1], F3.kp (Kp.refl none_ _) fun x hl hx => ⟨id, by rcases hx with hx | hx; exact .inl hx; exact .inr (by omega)⟩, K1.then kk fun x hx hh => cO x hh⟩
      have k0 : Kp none_ w1 w1.drew := Kp.drew1
      refine (c18 p.drew).mono ?_
      rintro v w2 ⟨rfl, e⟩
      obtain rfl := e.symm
      refine ⟨_, rfl, (Kp.refl none_ _).keeps0, bif_dec (fun hg => ?_) (fun hg => hrest k0 fun hc => hg hc.1)⟩
      have hcell : ∀ {W : World}, Kp none_ w1 W → W.cell? ⟨b, 4, none⟩ = some (.int .i64 f.cap) := fun kW => by
        obtain ⟨Ds, Of, m1, m2, m3⟩ := h1.kp0 kW
        exact m1.cap'
      have oc := o.cap
      have odl := o.dsl
      simp only [ptr_some, ad3, Nat.zero_add, Nat.add_zero]
      refine ⟨_, hcell k0, (c18 p.drew).mono ?_⟩
      rintro v w2 ⟨rfl, e⟩
      obtain rfl := e.symm
      refine ⟨_, rfl, (Kp.refl none_ _).keeps0, hcell k0, wr64 (by omega) ((c55 (h1.kp0 k0) o1).mono ?_)⟩
      rintro v w3 ⟨rfl, hu, k3⟩
      have eu : usedN (cnt f) (cnt f).ds.length = usedN f f.ds.length := usedN_cnt f _
      rw [eu] at hu ⊢
      have hu : 0 ≤ usedN f f.ds.length ∧ usedN f f.ds.length ≤ 4096 * f.ds.length := hu
      have kW := k0.trans k3
      refine ⟨_, rfl, k3.keeps0, hcell kW, wr64 (by omega) (bif_dec (fun hs => ?_) (fun hs => hrest kW fun hc => hs hc.2))⟩
      obtain ⟨Ds, Of, m1, m2, m3⟩ := h1.kp0 kW
      have oc1 := o1.r
      obtain ⟨x1, x2, x3, x4, x5⟩ := m1.setR ((cnt f).r + 1)
      rw [eW, if_pos ⟨hg, hs⟩]
      refine ⟨_, x1, wr64 (by omega) ⟨x2, x3, _, rfl, rfl, up ⟨Ds, Of, x4, m2.kp pkD x5 fun x _ hx => ⟨fun e => hx.2 (by have e : x = b := e; rw [e]; exact m1.lt.2), hx⟩, m3⟩ ?_, ?_⟩⟩
      · rw [set_size]; have := kW.size; omega
      · exact (K1.trans kW.wide).trans (x5.mono fun x _ hx => by have hx : x = b := hx; rw [hx]; exact lb.2)
end Go.Proofs.Ytlgkcbdpaffigaa

namespace Go.Proofs.Ytlgkcbdpaffigaa
open Go Go.SX Go.Proofs
set_option maxRecDepth 100000
set_option linter.unusedVariables false
set_option linter.unusedSimpArgs false
variable {w w' : World} {O O' : Nat → Prop} {b : Nat} {f : Fst}
/-- The directory may go on. -/
theorem FSM.dirOp {Ds : List Nat} {S : List Ent} {ws : List Chg} {cap k r : Int} {rl : List Int} (h : FSM w O b Ds S ws cap k r rl) (hO : ∀ x, O x → x < w.heap.size) : ∃ Od, DR w Od b 1 S ws ∧ (∀ x, Od x → O x) ∧
    ∀ {w' : World} {S' : List Ent} {ws' : List Chg}, DR w' (fun i => Od i ∨ w.heap.size ≤ i) b 1 S' ws' → Kp Od w w' → Nb b 1 3 w w' → FSM w' (fun i => O i ∨ w.heap.size ≤ i) b Ds S' ws' cap k r rl := by
  obtain ⟨dv, own, Od, rq, rc, h1, h2, h3, h4, h5, h6, h7, h8⟩ := h
  refine ⟨Od, h2, h8, ?_⟩
  intro w' S' ws' d kk nb
  have z := kk.size
  obtain ⟨g1, g2, g3, g4, g5, g6⟩ := FSM.turn h1 h2 h3 h4 h5 h6 h7 h8 d kk nb
  refine ⟨dv, _, _, rq, rc, g1, g2, g3, g4, g5, fun h0 a e => ⟨.inl (h6 h0 a e).1, (h6 h0 a e).2.1, fun hh => ?_, fun hh => (h6 h0 a e).2.2.2 hh.1⟩, fun i hi => ⟨.inl (h7 i hi.1).1, fun hh => ?_⟩, fun i hi => ?_⟩
  · rcases hh.1 with hh | hh
    · exact (h6 h0 a e).2.2.1 hh
    · have := g6 h0 a e; omega
  · rcases hh.1 with hh | hh
    · exact (h7 i hi.1).2 hh
    · have := hi.2; omega
  · rcases hi.1 with hh | hh
    · exact .inl (h8 i hh)
    · exact .inr (by omega)
theorem FSD.dirOp (h : FSD w O b f) (hO : ∀ x, O x → x < w.heap.size) : ∃ Od, DR w Od b 1 f.S f.ws ∧ (∀ x, Od x → O x) ∧
    ∀ {w' : World} {S' : List Ent} {ws' : List Chg}, DR w' (fun i => Od i ∨ w.heap.size ≤ i) b 1 S' ws' → Kp Od w w' → Nb b 1 3 w w' → FSD w' (fun i => O i ∨ w.heap.size ≤ i) b { f with S := S', ws := ws' } := by
  obtain ⟨Ds, Of, h1, h2, h3⟩ := h
  obtain ⟨Od, d, dO, go⟩ := h1.dirOp fun x hx => hO x (h3 x hx)
  refine ⟨Od, d, fun x hx => h3 x (dO x hx), ?_⟩
  intro w' S' ws' d' kk nb
  exact ⟨Ds, _, go d' kk nb, h2.kp pkD kk fun x hl hx => ⟨fun hh => hx.2 (dO x hh), .inl hx.1, fun hh => by rcases hh with hh | hh; exact hx.2 hh; omega⟩, fun x hx => by rcases hx with hx | hx; exact .inl (h3 x hx); exact .inr hx⟩
theorem oneO (h : FSD w O b f) {w1 : World} (k1 : Kp (one_ b) w w1) : Kp O w w1 := k1.mono fun x _ hx => by have hx : x = b := hx; rw [hx]; exact h.lt.2
theorem upO {z : Nat} (h : FSD w O b f) : FSD w (fun x => O x ∨ z ≤ x) b f := h.kp (Kp.refl none_ _) fun x _ hx => ⟨id, .inl hx⟩
theorem lowO {z : Nat} (h : FSD w (fun x => O x ∨ w'.heap.size ≤ x) b f) (hz : z ≤ w'.heap.size) : FSD w (fun x => O x ∨ z ≤ x) b f := h.kp (Kp.refl none_ _) fun x _ hx => ⟨id, hx.imp id fun h => by omega⟩
def syF (f : Fst) (i : Int) : Int × Fst :=
  if refE f.rl f.k ≠ 0 then (10, cnt f) else if i < 0 ∨ f.ds.length ≤ i then (1, cnt f) else (0, { cnt f with ds := f.ds.set i.toNat (syncSt (f.ds.getD i.toNat emptySt)) })
theorem c30 (h : FSD w O b f) (o : Fok f) (i : Int) : Rets Try.prog 30 #[ptA b 0, .int .i64 i] w fun v w' => v = .int .i64 (syF f i).1 ∧ FSD w' (fun x => O x ∨ w.heap.size ≤ x) b (syF f i).2 ∧ Kp O w w' := by
  refine ent [_, _] Try.func30 ((vcTry30 _ _ w _).mpr ?_)
  unfold VCTry30
  refine (c76F h o).mono ?_
  rintro v w1 ⟨rfl, h1, k1⟩
  have z1 := k1.size
  have K1 := oneO h k1
  rcases (refE_or f.rl f.k).symm with e0 | e0
  · have eW : syF f i = (10, cnt f) := by unfold syF; rw [if_pos (by rw [e0]; decide)]
    rw [eW, e0]
    exact ⟨_, rfl, k1.keeps0, bif_ne (fun _ => ⟨_, rfl, rfl, upO h1, K1⟩) (fun hh => by cases hh)⟩
  rw [e0]
  refine ⟨_, rfl, k1.keeps0, bif_ne (fun hh => absurd rfl hh) fun _ => ?_⟩
  by_cases hi : i < 0 ∨ f.ds.length ≤ i
  · have eW : syF f i = (1, cnt f) := by unfold syF; rw [if_neg (by rw [e0]; simp), if_pos hi]
    rw [eW]
    refine (h1.none hi).mono ?_
    rintro v w2 ⟨e, rfl⟩
    obtain rfl := e.symm
    exact ⟨_, rfl, (Kp.refl none_ _).keeps0, bif_b (fun _ => ⟨_, rfl, rfl, upO h1, K1⟩) (fun hh => by cases hh)⟩
  · have eW : syF f i = (0, { cnt f with ds := f.ds.set i.toNat (syncSt (f.ds.getD i.toNat emptySt)) }) := by unfold syF; rw [if_neg (by rw [e0]; simp), if_neg hi]
    rw [eW]
    obtain ⟨j, rfl⟩ : ∃ j : Nat, i = j := ⟨i.toNat, by omega⟩
    have hj : j < (cnt f).ds.length := by show j < f.ds.length; omega
    obtain ⟨d, col, e77, p, cO, put⟩ := h1.disk hj
    refine e77.mono ?_
    rintro v w2 ⟨e, rfl⟩
    obtain rfl := e.symm
    refine ⟨_, rfl, (Kp.refl none_ _).keeps0, bif_b (fun hh => by cases hh) fun _ => (c16 p).mono ?_⟩
    rintro v w3 ⟨rfl, k3, col', g3, p3⟩
    exact ⟨rfl, k3.keeps0, _, rfl, rfl, lowO (put k3 g3 p3) z1, K1.then k3 fun x hx hh => cO x hh⟩
def sdF (f : Fst) : Int × Fst := if refE f.rl f.k ≠ 0 then (10, cnt f) else (0, { cnt f with S := lastE f.S f.ws, ws := [] })
theorem c31 (h : FSD w O b f) (o : Fok f) (hO : ∀ x, O x → x < w.heap.size) : Rets Try.prog 31 #[ptA b 0] w fun v w' => v = .int .i64 (sdF f).1 ∧ FSD w' (fun x => O x ∨ w.heap.size ≤ x) b (sdF f).2 ∧ Kp O w w' := by
  refine ent [_] Try.func31 ((vcTry31 _ w _).mpr ?_)
  unfold VCTry31
  refine (c76F h o).mono ?_
  rintro v w1 ⟨rfl, h1, k1⟩
  have z1 := k1.size
  have K1 := oneO h k1
  rcases (refE_or f.rl f.k).symm with e0 | e0
  · have eW : sdF f = (10, cnt f) := by unfold sdF; rw [if_pos (by rw [e0]; decide)]
    rw [eW, e0]
    exact ⟨_, rfl, k1.keeps0, bif_eq (fun hh => by cases hh) (fun _ => ⟨_, rfl, rfl, upO h1, K1⟩)⟩
  · have eW : sdF f = (0, { cnt f with S := lastE f.S f.ws, ws := [] }) := by unfold sdF; rw [if_neg (by rw [e0]; simp)]
    rw [eW, e0]
    obtain ⟨Od, d, dO, go⟩ := h1.dirOp fun x hx => by have := hO x hx; omega
    refine ⟨_, rfl, k1.keeps0, bif_eq (fun _ => ?_) (fun hh => absurd rfl hh)⟩
    simp only [ptr_some, ad3, Nat.zero_add, Nat.add_zero]
    refine (c38 d).mono ?_
    rintro v w2 ⟨rfl, d2, k2, n2⟩
    exact ⟨rfl, k2.keeps0, _, rfl, rfl, lowO (go d2 k2 n2) z1, K1.then k2 fun x hx hh => dO x hh⟩
end Go.Proofs.Ytlgkcbdpaffigaa

namespace Go.Proofs.Ytlgkcbdpaffigaa
open Go Go.SX Go.Proofs
set_option maxRecDepth 100000
set_option linter.unusedVariables false
set_option linter.unusedSimpArgs false
variable {w w' : World} {O O' : Nat → Prop} {b : Nat} {f : Fst}
def rnF (f : Fst) (a t : List UInt8) : Int × Fst :=
  if refE f.rl f.k ≠ 0 then (10, cnt f) else (renameE (lastE f.S f.ws) a t, { cnt f with ws := if renameE (lastE f.S f.ws) a t = 0 then f.ws ++ [⟨a, t, 0⟩] else f.ws })
theorem c52 (h : FSD w O b f) (o : Fok f) (hO : ∀ x, O x → x < w.heap.size) (a t : List UInt8) : Rets Try.prog 52 #[ptA b 0, .string (ba a), .string (ba t)] w fun v w' => v = .int .i64 (rnF f a t).1 ∧ FSD w' (fun x => O x ∨ w.heap.size ≤ x) b (rnF f a t).2 ∧ Kp O w w' := by
  refine ent [_, _, _] Try.func52 ((vcTry52 _ _ _ w _).mpr ?_)
  unfold VCTry52
  refine (c76F h o).mono ?_
  rintro v w1 ⟨rfl, h1, k1⟩
  have z1 := k1.size
  have K1 := oneO h k1
  rcases (refE_or f.rl f.k).symm with e0 | e0
  · have eW : rnF f a t = (10, cnt f) := by unfold rnF; rw [if_pos (by rw [e0]; decide)]
    rw [eW, e0]
    exact ⟨_, rfl, k1.keeps0, bif_ne (fun _ => ⟨_, rfl, rfl, upO h1, K1⟩) (fun hh => by cases hh)⟩
  · have eW : rnF f a t = (renameE (lastE f.S f.ws) a t, { cnt f with ws := if renameE (lastE f.S f.ws) a t = 0 then f.ws ++ [⟨a, t, 0⟩] else f.ws }) := by unfold rnF; rw [if_neg (by rw [e0]; simp)]
    rw [eW, e0]
    obtain ⟨Od, d, dO, go⟩ := h1.dirOp fun x hx => by have := hO x hx; omega
    refine ⟨_, rfl, k1.keeps0, bif_ne (fun hh => absurd rfl hh) fun _ => ?_⟩
    simp only [ptr_some, ad3, Nat.zero_add, Nat.add_zero]
    refine (c43 d (by have := o.wsl; show f.ws.length ≤ _; omega) o.last.asc a t).mono ?_
    rintro v w2 ⟨rfl, d2, k2, n2⟩
    exact ⟨_, rfl, k2.keeps0, _, rfl, rfl, lowO (go d2 k2 n2) z1, K1.then k2 fun x hx hh => dO x hh⟩
def rmF (f : Fst) (a : List UInt8) : Int × Fst :=
  if refE f.rl f.k ≠ 0 then (10, cnt f) else (removeE (lastE f.S f.ws) a, { cnt f with ws := if removeE (lastE f.S f.ws) a = 0 then f.ws ++ [⟨a, [], 0⟩] else f.ws })
theorem c53 (h : FSD w O b f) (o : Fok f) (hO : ∀ x, O x → x < w.heap.size) (a : List UInt8) : Rets Try.prog 53 #[ptA b 0, .string (ba a)] w fun v w' => v = .int .i64 (rmF f a).1 ∧ FSD w' (fun x => O x ∨ w.heap.size ≤ x) b (rmF f a).2 ∧ Kp O w w' := by
  refine ent [_, _] Try.func53 ((vcTry53 _ _ w _).mpr ?_)
  unfold VCTry53
  refine (c76F h o).mono ?_
  rintro v w1 ⟨rfl, h1, k1⟩
  have z1 := k1.size
  have K1 := oneO h k1
  rcases (refE_or f.rl f.k).symm with e0 | e0
  · have eW : rmF f a = (10, cnt f) := by unfold rmF; rw [if_pos (by rw [e0]; decide)]
    rw [eW, e0]
    exact ⟨_, rfl, k1.keeps0, bif_ne (fun _ => ⟨_, rfl, rfl, upO h1, K1⟩) (fun hh => by cases hh)⟩
  · have eW : rmF f a = (removeE (lastE f.S f.ws) a, { cnt f with ws := if removeE (lastE f.S f.ws) a = 0 then f.ws ++ [⟨a, [], 0⟩] else f.ws }) := by unfold rmF; rw [if_neg (by rw [e0]; simp)]
    rw [eW, e0]
    obtain ⟨Od, d, dO, go⟩ := h1.dirOp fun x hx => by have := hO x hx; omega
    refine ⟨_, rfl, k1.keeps0, bif_ne (fun hh => absurd rfl hh) fun _ => ?_⟩
    simp only [ptr_some, ad3, Nat.zero_add, Nat.add_zero]
    refine (c48 d (by have := o.wsl; show f.ws.length ≤ _; omega) o.last.asc a).mono ?_
    rintro v w2 ⟨rfl, d2, k2, n2⟩
    exact ⟨_, rfl, k2.keeps0, _, rfl, rfl, lowO (go d2 k2 n2) z1, K1.then k2 fun x hx hh => dO x hh⟩
def newF (f : Fst) (a : List UInt8) : Int := if refE f.rl f.k ≠ 0 then 10 else if 1000 ≤ f.ds.length then 14 else createE (lastE f.S f.ws) a
def mkF (f : Fst) (a : List UInt8) : Fst := if newF f a = 0 then { cnt f with ds := f.ds ++ [emptySt], ws := f.ws ++ [⟨[], a, f.ds.length⟩] } else cnt f
theorem c28F (h : FSD w O b f) (o : Fok f) (hO : ∀ x, O x → x < w.heap.size) (a : List UInt8) : Rets Try.prog 28 #[ptA b 0, .string (ba a)] w fun v w' => v = .tuple #[.int .i64 (if newF f a = 0 then f.ds.length else 0), .int .i64 (newF f a)] ∧ FSD w' (fun x => O x ∨ w.heap.size ≤ x) b (mkF f a) ∧ Kp O w w' := by
  obtain ⟨Ds, Of, h1, h2, h3⟩ := h
  have hlen := h2.len
  have ok := o.k
  have or := o.r
  have orl := o.rll
  have ow := o.wsl
  have en : newE f.rl f.k Ds (lastE f.S f.ws) a = newF f a := by unfold newE newF; rw [hlen]
  refine (c28 h1 (fun x hx => hO x (h3 x hx)) (by omega) (by omega) (by omega) o.last.asc (by omega) a).mono ?_
  rintro v w' ⟨rfl, k, hy, hn⟩
  have z := k.size
  rw [en, hlen] at *
  refine ⟨by rw [hlen], ?_, k.mono fun x _ hx => h3 x hx⟩
  unfold mkF
  by_cases hE : newF f a = 0
  · rw [if_pos hE]
    obtain ⟨d, d1, d2, g, B⟩ := hy hE
    have c0 := B.cell 0
    have c1 := B.cell 1
    have c2 := B.cell 2
    have p := Dsk.new d2 (fun o => B.frz o) c0 c1 c2
    have K2 := (h2.kp pkD k (Q' := fun x => (O x ∧ ¬ Of x) ∧ x < w.heap.size) fun x hl hx => ⟨hx.2, hx, hl⟩).snoc pkD p (fun hh => by omega)
    refine ⟨_, _, g, K2.kp pkD (Kp.refl none_ _) fun x hl hx => ⟨id, ?_⟩, fun x hx => ?_⟩
    · rcases hx with ⟨hx, hl⟩ | rfl
      · exact ⟨.inl hx.1, fun hh => by rcases hh with hh | hh; exact hx.2 hh; omega⟩
      · exact ⟨.inr d1, fun hh => by rcases hh with hh | hh; exact absurd (hO _ (h3 _ hh)) (by omega); exact hh.2 rfl⟩
    · rcases hx with hx | hx
      · exact .inl (h3 x hx)
      · exact .inr hx.1
  · rw [if_neg hE]
    exact ⟨Ds, _, hn hE, h2.kp pkD k fun x hl hx => ⟨hx.2, .inl hx.1, fun hh => by rcases hh with hh | hh; exact hx.2 hh; omega⟩, fun x hx => by rcases hx with hx | hx; exact .inl (h3 x hx); exact .inr hx⟩
theorem c27F (h : FSD w O b f) (hO : ∀ x, O x → x < w.heap.size) {q : Option Addr} {c : Nat} {l : List Int} (g : RowsAt w 1 intC q l) (hl : l.length ≤ 1000000) (h0 : l = [] ∨ ∃ b off, q = some ⟨b, off, none⟩) : Rets Try.prog 27 #[ptA b 0, .slice q l.length c] w fun v w' => v = .tuple #[] ∧ FSD w' (fun x => O x ∨ w.heap.size ≤ x) b { f with rl := l } ∧ Kp O w w' := by
  obtain ⟨Ds, Of, h1, h2, h3⟩ := h
  refine (c27 h1 (fun x hx => hO x (h3 x hx)) g hl h0).mono ?_
  rintro v w' ⟨rfl, g1, k⟩
  exact ⟨rfl, ⟨Ds, _, g1, h2.kp pkD k fun x hl hx => ⟨hx.2, .inl hx.1, fun hh => by rcases hh with hh | hh; exact hx.2 hh; omega⟩, fun x hx => by rcases hx with hx | hx; exact .inl (h3 x hx); exact .inr hx⟩, k.mono fun x _ hx => h3 x hx⟩
theorem c33F (h : FSD w O b f) (a : List UInt8) : Rets Try.prog 33 #[ptA b 0, .string (ba a)] w fun v w' => w' = w ∧ v = .tuple #[.int .i64 ((lookE (lastE f.S f.ws) a).getD 0), .int .i64 (if has Prod.fst (lastE f.S f.ws) a = true then 0 else 7)] := by
  obtain ⟨Ds, Of, h1, h2, h3⟩ := h
  exact c33 h1 a
/-- A file's bytes. -/
theorem c34F (h : FSD w O b f) {i : Nat} (hi : i < f.ds.length) (at_ : Int) (n : Nat) (hr : rightF at_ n = true) (hn : n = 0 → (f.ds.getD i emptySt).size = 0) : Rets Try.prog 34 #[ptA b 0, .int .i64 i, .int .i64 at_, .int .i64 n] w fun v w' =>
    ∃ q c, v = .tuple #[.slice q n c, .int .i64 0] ∧ Kp none_ w w' ∧ OwnRow w' (fresh w) 5 1 (.slice q n c) n (byF (readF (f.ds.getD i emptySt) at_) n) := by
  refine ent [_, _, _, _] Try.func34 ((vcTry34 _ _ _ _ w _).mpr ?_)
  unfold VCTry34
  obtain ⟨d, col, e77, p, cO, put⟩ := h.disk hi
  refine e77.mono ?_
  rintro v w2 ⟨e, rfl⟩
  obtain rfl := e.symm
  refine ⟨_, rfl, (Kp.refl none_ _).keeps0, (c17 p at_ n hr hn).mono ?_⟩
  rintro v w3 ⟨q, c, rfl, k3, ro⟩
  exact ⟨_, _, _, _, rfl, k3.keeps0, _, rfl, q, c, rfl, k3, ro⟩
end Go.Proofs.Ytlgkcbdpaffigaa

