/- Files by names: what is made, asked, and answered where there is nothing. -/
import Derived.Test.YtlgkcbdpaffigaaDb
namespace Go.Proofs.Ytlgkcbdpaffigaa
open Go Go.SX Go.Proofs
set_option maxRecDepth 100000
set_option linter.unusedVariables false
set_option linter.unusedSimpArgs false
/-- Nothing is there yet. -/
theorem c24 (cap : Int) (w : World) : Rets Try.prog 24 #[.int .i64 cap] w fun v w' => v = ptA w.heap.size 0 ∧ FSM w' (fun i => w.heap.size ≤ i) w.heap.size [] [] [] (maxI 0 (minI 65536 cap)) 0 0 [] ∧ Kp none_ w w' := by
  refine ent [_] Try.func24 ((vcTry24 _ w _).mpr ?_)
  unfold VCTry24
  intro _
  have ka : Kp none_ w (w.alloc (.cells #[.slice none 0 0, .map none, .map none, .slice none 0 0, .int .i64 (maxI 0 (minI 65536 cap)), .int .i64 0, .int .i64 0, .slice none 0 0] 122)) := (Kp.refl none_ _).alloc1 _
  have Ba : Big (w.alloc (.cells #[.slice none 0 0, .map none, .map none, .slice none 0 0, .int .i64 (maxI 0 (minI 65536 cap)), .int .i64 0, .int .i64 0, .slice none 0 0] 122)) w.heap.size 122 [.slice none 0 0, .map none, .map none, .slice none 0 0, .int .i64 (maxI 0 (minI 65536 cap)), .int .i64 0, .int .i64 0, .slice none 0 0] := Big.new _ _ 122
  generalize w.alloc (.cells #[.slice none 0 0, .map none, .map none, .slice none 0 0, .int .i64 (maxI 0 (minI 65536 cap)), .int .i64 0, .int .i64 0, .slice none 0 0] 122) = W at *
  have sub : ∀ (o : Nat) (vs : List Value), (∀ j v, vs[j]? = some v → ([.slice none 0 0, .map none, .map none, .slice none 0 0, .int .i64 (maxI 0 (minI 65536 cap)), .int .i64 0, .int .i64 0, .slice none 0 0] : List Value)[o + j]? = some v) → Cs W w.heap.size o vs := fun o vs h j v hv => ⟨by rw [Ba.cell]; exact h j v hv, Ba.frz _⟩
  refine ⟨_, rfl, rfl, ⟨.slice none 0 0, none_, fun i => i = w.heap.size, none, 0, sub 0 _ ?_, DR.zero (sub 1 _ ?_) (fun i => i = w.heap.size) rfl, sub 4 _ ?_, OwnRow.nil _ _ _ _, fun i hi => by simp at hi, (fun h0 a e => by cases e), (fun i hi => hi.elim), fun i hi => by omega⟩, ka⟩
  all_goals
    intro j v hv
    match j, hv with
    | 0, hv => exact hv
    | 1, hv => first | exact hv | (simp at hv)
    | 2, hv => first | exact hv | (simp at hv)
    | 3, hv => first | exact hv | (simp at hv)
    | j + 4, hv => simp at hv
theorem FSM.kp {S' O O' : Nat → Prop} {w w' : World} {b : Nat} {Ds : List Nat} {S : List Ent} {ws : List Chg} {cap k r : Int} {rl : List Int} (h : FSM w O b Ds S ws cap k r rl) (kk : Kp S' w w') (hs : ∀ i, i < w.heap.size → O i → ¬ S' i ∧ O' i) : FSM w' O' b Ds S ws cap k r rl := by
  obtain ⟨dv, own, Od, rq, rc, h1, h2, h3, h4, h5, h6, h7, h8⟩ := h
  have hb := h2.lt
  have sb := (hs b hb.1 (h8 _ hb.2)).1
  have rlt : 0 < rl.length → ∀ a, rq = some a → a.block < w.heap.size := fun h0 a e => h5.lt intC_len (by omega) h0 a e
  refine ⟨dv, fun i => own i ∧ i < w.heap.size, fun i => Od i ∧ i < w.heap.size, rq, rc, h1.kp kk sb, h2.kp kk fun i hl hi => ⟨(hs i hl (h8 i hi)).1, hi, hl⟩, h3.kp kk sb, ?_, h5.kp kk fun h0 a e => (hs _ (rlt h0 a e) (h6 h0 a e).1).1, fun h0 a e => ⟨(hs _ (rlt h0 a e) (h6 h0 a e).1).2, (h6 h0 a e).2.1, fun hh => (h6 h0 a e).2.2.1 hh.1, fun hh => (h6 h0 a e).2.2.2 hh.1⟩, fun i hi => ⟨(hs i hi.2 (h7 i hi.1).1).2, fun hh => (h7 i hi.1).2 hh.1⟩, fun i hi => (hs i hi.2 (h8 i hi.1)).2⟩
  exact (h4.mono (own' := fun i => own i ∧ i < w.heap.size) fun i hi hl => ⟨hi, hl⟩).kp kk fun g n cap _ hg => (hs g hg.2 (h7 g hg.1).1).1
theorem FSM.kp0 {O : Nat → Prop} {w w' : World} {b : Nat} {Ds : List Nat} {S : List Ent} {ws : List Chg} {cap k r : Int} {rl : List Int} (h : FSM w O b Ds S ws cap k r rl) (kk : Kp none_ w w') : FSM w' O b Ds S ws cap k r rl := h.kp kk fun i _ hi => ⟨id, hi⟩
theorem FSM.dir {O : Nat → Prop} {w : World} {b : Nat} {Ds : List Nat} {S : List Ent} {ws : List Chg} {cap k r : Int} {rl : List Int} (h : FSM w O b Ds S ws cap k r rl) : ∃ Od, DR w Od b 1 S ws := by
  obtain ⟨dv, own, Od, rq, rc, h1, h2, h3, h4, h5, h6, h7, h8⟩ := h
  exact ⟨Od, h2⟩
theorem FSM.disks {O : Nat → Prop} {w : World} {b : Nat} {Ds : List Nat} {S : List Ent} {ws : List Chg} {cap k r : Int} {rl : List Int} (h : FSM w O b Ds S ws cap k r rl) : ∃ q c, w.cell? ⟨b, 0, none⟩ = some (.slice q Ds.length c) ∧ RowsAt w 1 ptC q Ds := by
  obtain ⟨dv, own, Od, rq, rc, h1, h2, h3, h4, h5, h6, h7, h8⟩ := h
  obtain ⟨q, c, rfl⟩ := h4.slice
  exact ⟨q, c, h1.get 0 rfl, rows_of ptC_len (by omega) h4⟩
/-- What is refused from now on. -/
theorem c27 {w : World} {O : Nat → Prop} {b : Nat} {Ds : List Nat} {S : List Ent} {ws : List Chg} {cap k r : Int} {rl : List Int} (h : FSM w O b Ds S ws cap k r rl) (hO : ∀ i, O i → i < w.heap.size) {q : Option Addr} {c : Nat} {l : List Int} (g : RowsAt w 1 intC q l) (hl : l.length ≤ 1000000) (h0 : (q = none ∧ l = []) ∨ ∃ b off, q = some ⟨b, off, none⟩) : Rets Try.prog 27 #[ptA b 0, .slice q l.length c] w fun v w' => v = .tuple #[] ∧ FSM w' (fun i => O i ∨ w.heap.size ≤ i) b Ds S ws cap k r l ∧ Kp O w w' := by
  refine ent [_, _] Try.func27 ((vcTry27 _ _ _ _ w _).mpr ?_)
  unfold VCTry27
  refine bif_not (fun _ => ?_) (fun hh => by cases hh)
  refine (clone_int g hl h0).mono ?_
  rintro v w1 ⟨q', c', rfl, g1, f1, k1⟩
  have z1 := k1.size
  simp only [ptr_some, ad3, Nat.zero_add, Nat.add_zero]
  obtain ⟨dv, own, Od, rq, rc, h1, h2, h3, h4, h5, h6, h7, h8⟩ := h.kp0 k1
  have lb := h.lt
  obtain ⟨e1, e2⟩ := h3.slot 3 (by simp)
  have kk : Kp (one_ b) w1 (w1.setCell ⟨b, 7, none⟩ (.slice q' l.length c')) := kp_set _ _ _ _
  have nb : Nb b 4 4 w1 (w1.setCell ⟨b, 7, none⟩ (.slice q' l.length c')) := Nb.set w1 (b := b) (o := 4) (i := 3) (by omega) _
  have cc : Cs (w1.setCell ⟨b, 7, none⟩ (.slice q' l.length c')) b 4 [.int .i64 cap, .int .i64 k, .int .i64 r, .slice q' l.length c'] := h3.set 3 _
  refine ⟨_, _, _, rfl, k1.keeps0, e1, e2, _, rfl, rfl, ⟨dv, own, Od, q', c', h1.nb kk nb (.inl (by simp)), h2.nb kk nb (.inl (by omega)), cc, h4.kp kk (fun g n cap _ hg e => by have e : g = b := e; rw [e] at hg; exact (h7 b hg).2 h2.lt.2), g1.kp kk (fun _ a e hh => by have := f1 a e; have hh : a.block = b := hh; omega), fun _ a e => ?_, fun i hi => ⟨.inl (h7 i hi).1, (h7 i hi).2⟩, fun i hi => .inl (h8 i hi)⟩, ?_⟩
  · have := f1 a e
    exact ⟨.inr this, by omega, fun hh => by have := hO _ (h8 _ hh); omega, fun hh => by have := hO _ (h7 _ hh).1; omega⟩
  · exact k1.wide.trans (kk.mono fun i _ hi => by have hi : i = b := hi; rw [hi]; exact lb.2)
/-- A file's disk, or none. -/
theorem c77 {w : World} {O : Nat → Prop} {b : Nat} {Ds : List Nat} {S : List Ent} {ws : List Chg} {cap k r : Int} {rl : List Int} (h : FSM w O b Ds S ws cap k r rl) (i : Int) : Rets Try.prog 77 #[ptA b 0, .int .i64 i] w fun v w' => w' = w ∧ v = .pointer (if 0 ≤ i then (Ds[i.toNat]?).map fun d => ⟨d, 0, none⟩ else none) := by
  refine ent [_, _] Try.func77 ((vcTry77 _ _ w _).mpr ?_)
  unfold VCTry77
  obtain ⟨q, c, e0, r0⟩ := h.disks
  refine bif_b (fun hh => by cases hh) (fun _ => bif_dec (fun hi => ⟨_, rfl, rfl, by rw [if_neg (by omega)]⟩) (fun hi => ?_))
  simp only [ptr_some, ad3, Nat.zero_add, Nat.add_zero]
  refine ⟨_, _, _, e0, bif_dec (fun hi2 => ⟨_, rfl, trivial, by rw [if_pos (by omega), List.getElem?_eq_none (by omega)]; rfl⟩) (fun hi2 => ⟨_, _, _, e0, ⟨by omega, by omega⟩, r0.get (i := i.toNat) (by omega) fun a ea hc => ⟨_, (cell_add0 _ _).symm.trans (hc 0 _ rfl), _, rfl, trivial, ?_⟩⟩)⟩
  rw [if_pos (by omega), List.getElem?_eq_getElem (by omega)]
  rfl
theorem c33 {w : World} {O : Nat → Prop} {b : Nat} {Ds : List Nat} {S : List Ent} {ws : List Chg} {cap k r : Int} {rl : List Int} (h : FSM w O b Ds S ws cap k r rl) (a : List UInt8) : Rets Try.prog 33 #[ptA b 0, .string (ba a)] w fun v w' => w' = w ∧ v = .tuple #[.int .i64 ((lookE (lastE S ws) a).getD 0), .int .i64 (if has Prod.fst (lastE S ws) a = true then 0 else 7)] := by
  refine ent [_, _] Try.func33 ((vcTry33 _ _ w _).mpr ?_)
  unfold VCTry33
  obtain ⟨Od, d⟩ := h.dir
  refine bif_b (fun hh => by cases hh) (fun _ => ?_)
  simp only [ptr_some, ad3, Nat.zero_add, Nat.add_zero]
  refine (c42 d a).mono ?_
  rintro v w' ⟨e, rfl⟩
  obtain rfl := e.symm
  refine ⟨_, _, rfl, (Kp.refl none_ _).keeps0, bif_not (fun hh => ⟨_, rfl, rfl, ?_⟩) (fun hh => ⟨_, rfl, rfl, ?_⟩)⟩
  · have hl : lookE (lastE S ws) a = none := by
      have := look_has (l := lastE S ws) (s := a)
      rw [hh] at this
      cases hl : lookE (lastE S ws) a with
      | none => rfl
      | some _ => rw [hl] at this; cases this
    rw [hh, hl]
    rfl
  · rw [hh]; rfl
end Go.Proofs.Ytlgkcbdpaffigaa
