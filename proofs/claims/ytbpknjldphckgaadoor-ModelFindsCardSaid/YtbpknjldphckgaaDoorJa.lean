/- Model: files in memory; copies of bytes; a search. -/
import Derived.Test.YtbpknjldphckgaaDoorNa
import Derived.Test.YtbpknjldphckgaaDoorSxMove
import Derived.Test.YtbpknjldphckgaaDoorSxModel
import Derived.Test.YtbpknjldphckgaaDoorVma
namespace Go.Proofs.YtbpknjldphckgaaDoor
open Go Go.SX Go.Proofs Go.Lib
set_option maxRecDepth 100000
set_option linter.unusedVariables false
set_option linter.unusedSimpArgs false
/-- A file: its name, its data, the place where they lie. -/
structure Fx where
  s : List UInt8
  d : List UInt8
  q : Option Addr
  c : Nat
abbrev Fx.fil (x : Fx) : Fil := (x.s, x.d)
def fxC (b : Fx) : List Value := [.string (ba b.s), .slice b.q b.d.length b.c]
def fxV (b : Fx) : Value := .agg #[.string (ba b.s), .slice b.q b.d.length b.c]
def fxsC : List Fx → List Value
  | [] => []
  | b :: r => fxC b ++ fxsC r
structure FxAt (w : World) (x : Addr) (b : Fx) : Prop where
  c0 : w.cell? (x.add 0) = some (.string (ba b.s))
  c1 : w.cell? (x.add 1) = some (.slice b.q b.d.length b.c)
def FxsAt (w : World) (q : Option Addr) (l : List Fx) : Prop := ∀ i (h : i < l.length), ∃ x, q = some x ∧ FxAt w (x.add (i * 2)) l[i]
theorem FxAt.kp {S : Nat → Prop} {w w' : World} {x : Addr} {b : Fx} (h : FxAt w x b) (k : Kp S w w') (hs : ¬ S x.block) : FxAt w' x b := by
  have go : ∀ i v, w.cell? (x.add i) = some v → w'.cell? (x.add i) = some v := fun i v hc => k.cell hc (by rw [add_block]; exact hs)
  exact ⟨go _ _ h.c0, go _ _ h.c1⟩
theorem FxsAt.kp {S : Nat → Prop} {w w' : World} {q : Option Addr} {l : List Fx} (h : FxsAt w q l) (k : Kp S w w') (hs : ∀ x, q = some x → 0 < l.length → ¬ S x.block) : FxsAt w' q l := fun i hi => by
  obtain ⟨x, e, m⟩ := h i hi
  exact ⟨x, e, m.kp k (by rw [add_block]; exact hs x e (by omega))⟩
theorem FxsAt.kp0 {w w' : World} {q : Option Addr} {l : List Fx} (h : FxsAt w q l) (k : Kp none_ w w') : FxsAt w' q l := h.kp k fun _ _ _ => id
theorem FxsAt.far {w w' : World} {q : Option Addr} {l : List Fx} {E : Nat} (h : FxsAt w q l) (k : Kp (fun i => E ≤ i) w w') (hE : w.heap.size ≤ E) : FxsAt w' q l := h.kp0 (k.narrow hE)
theorem fx_at {w : World} {q : Option Addr} {l : List Fx} (h : FxsAt w q l) {i : Nat} (hi : i < l.length) {K : Addr → Prop} (hK : ∀ x, q = some x → FxAt w (x.add (((i : Int).toNat) * 2)) l[i] → K x) : Ptr q K := by
  obtain ⟨x, e, m⟩ := h i hi
  subst e
  rw [ptr_some]
  exact hK x rfl (by rwa [Int.toNat_natCast])
theorem fxsC_app (a b : List Fx) : fxsC (a ++ b) = fxsC a ++ fxsC b := by
  induction a with
  | nil => simp [fxsC]
  | cons x r ih => simp only [List.cons_append, fxsC, ih, List.append_assoc]
theorem fxsC_get : ∀ (l : List Fx) (i : Nat) (h : i < l.length) (k : Nat), k < 2 → (fxsC l)[i * 2 + k]? = (fxC l[i])[k]?
  | b :: r, 0, h, k, hk => by
    rw [fxsC, List.getElem?_append_left (by simp [fxC]; omega)]
    simp
  | b :: r, i + 1, h, k, hk => by
    have hl : (fxC b).length = 2 := rfl
    rw [fxsC, List.getElem?_append_right (by rw [hl]; omega), hl, show (i + 1) * 2 + k - 2 = i * 2 + k by omega]
    exact fxsC_get r i (by simpa using h) k hk
theorem fxs_of {w : World} {own : Nat → Prop} {q : Option Addr} {n c : Nat} {l : List Fx} (h : OwnRow w own 107 2 (.slice q n c) l.length (fxsC l)) : FxsAt w q l := fun i hi => by
  have at_ : ∀ k u, k < 2 → (fxC l[i])[k]? = some u → ∃ a, q = some a ∧ w.cell? (a.add (i * 2 + k)) = some u := fun k u hk hu => h.at (by rw [fxsC_get l i hi k hk]; exact hu)
  obtain ⟨a, e, c0⟩ := at_ 0 _ (by omega) rfl
  have go : ∀ k u, k < 2 → (fxC l[i])[k]? = some u → w.cell? ((a.add (i * 2)).add k) = some u := fun k u hk hu => by
    obtain ⟨a', e', c⟩ := at_ k u hk hu
    rw [e] at e'
    cases e'
    rw [add_add]
    exact c
  exact ⟨a, e, go 0 _ (by omega) rfl, go 1 _ (by omega) rfl⟩
theorem elem107 : elemOk Tryd.prog 107 2 = true := by kernel_rfl
theorem und105 : Tryd.prog.underlying 105 = some (.slice 107) := Tryd.underlying105
theorem fxsC_len (l : List Fx) : (fxsC l).length = l.length * 2 := by
  induction l with
  | nil => rfl
  | cons b r ih => simp only [fxsC, List.length_append, ih, List.length_cons, fxC]; simp; omega
theorem fxsC_one (l : List Fx) : ∀ u ∈ fxsC l, u.oneCell' = true := by
  induction l with
  | nil => intro u hu; cases hu
  | cons b r ih =>
    intro u hu
    rw [fxsC] at hu
    rcases List.mem_append.1 hu with hu | hu
    · simp only [fxC, List.mem_cons, List.not_mem_nil, or_false] at hu
      rcases hu with rfl | rfl <;> simp [Value.oneCell']
    · exact ih u hu
theorem fxsC_take (l : List Fx) (i : Nat) : (fxsC l).take (i * 2) = fxsC (l.take i) := by
  induction l generalizing i with
  | nil => simp [fxsC]
  | cons b r ih =>
    cases i with
    | zero => simp [fxsC]
    | succ i =>
      have hl : (fxC b).length = 2 := rfl
      rw [List.take_succ_cons, fxsC, fxsC, List.take_append, hl, ← ih i, List.take_of_length_le (by rw [hl]; omega), show (i + 1) * 2 - 2 = i * 2 by omega]
theorem fxsC_drop (l : List Fx) (i : Nat) : (fxsC l).drop (i * 2) = fxsC (l.drop i) := by
  induction l generalizing i with
  | nil => simp [fxsC]
  | cons b r ih =>
    cases i with
    | zero => simp [fxsC]
    | succ i =>
      have hl : (fxC b).length = 2 := rfl
      rw [List.drop_succ_cons, fxsC, List.drop_append, hl, ← ih i, List.drop_eq_nil_of_le (by rw [hl]; omega), show (i + 1) * 2 - 2 = i * 2 by omega, List.nil_append]
/-- A file, laid just before, behind a row. -/
theorem push_fx {w : World} {own : Nat → Prop} {v : Value} {l : List Fx} {n : Nat} (b : Fx) {K : Value → World → Prop} (hrow : OwnRow w own 107 2 v n (fxsC l)) (hn : n = l.length) (hb : l.length + 1 ≤ 137438953472)
    (hK : ∀ q' c' w', OwnRow w' (fun i => own i ∨ fresh w i) 107 2 (.slice q' (l.length + 1) c') (l.length + 1) (fxsC (l ++ [b])) → Kp own w w' → Kp own (w.alloc (.cells #[.string (ba b.s), .slice b.q b.d.length b.c] 107)) w' → K (.slice q' (l.length + 1) c') w') :
    Runs Tryd.prog (Builtin.append_ #[105, 105] 105 #[v, .slice (some ⟨w.heap.size, 0, none⟩) 1 1]) (w.alloc (.cells #[.string (ba b.s), .slice b.q b.d.length b.c] 107)) K := by
  subst hn
  refine append_new (own := own) (xs := fxsC l) #[.string (ba b.s), .slice b.q b.d.length b.c] und105 elem107 (by omega) hrow rfl (fun u hu => ?_) hb fun q' c' w' r k1 k2 => hK q' c' w' ?_ k1 k2
  · exact fxsC_one [b] u (by simpa [fxsC, fxC] using hu)
  · rw [fxsC_app]
    simpa [fxsC, fxC] using r
/-- Its data are there. -/
structure DatAt (w : World) (x : Fx) : Prop where
  by_ : BytesAt w x.q (ba x.d)
  le : x.d.length ≤ x.c ∧ x.c ≤ maxLen
def DatIn (O : Nat → Prop) (x : Fx) : Prop := 0 < x.d.length → ∀ a, x.q = some a → O a.block
theorem DatAt.kp {S O : Nat → Prop} {w w' : World} {x : Fx} (h : DatAt w x) (hi : DatIn O x) (k : Kp S w w') (hs : ∀ i, i < w.heap.size → O i → ¬ S i) : DatAt w' x :=
  ⟨h.by_.kp k fun h0 a ha => hs _ (h.by_.lt h0 a ha) (hi (by simpa [ba_size] using h0) a ha), h.le⟩
theorem DatAt.kp0 {w w' : World} {x : Fx} (h : DatAt w x) (k : Kp none_ w w') : DatAt w' x := ⟨h.by_.kp0 k, h.le⟩
theorem DatIn.mono {w : World} {O O' : Nat → Prop} {x : Fx} (h : DatIn O x) (hd : DatAt w x) (hs : ∀ i, i < w.heap.size → O i → O' i) : DatIn O' x := fun h0 a ha => hs _ (hd.by_.lt (by rwa [ba_size]) a ha) (h h0 a ha)
/-- Files that are read. -/
def FRd (w : World) (q : Option Addr) (n : Nat) (L : List Fil) : Prop := ∃ l : List Fx, l.map Fx.fil = L ∧ n = l.length ∧ FxsAt w q l ∧ ∀ x ∈ l, DatAt w x
/-- Files that lie in blocks of one's own: the row in some, the data in others. -/
def FOwn (w : World) (O : Nat → Prop) (v : Value) (L : List Fil) : Prop := ∃ (l : List Fx) (own : Nat → Prop), l.map Fx.fil = L ∧ (∀ i, own i → O i) ∧ OwnRow w own 107 2 v l.length (fxsC l) ∧ ∀ x ∈ l, DatAt w x ∧ DatIn (fun i => O i ∧ ¬ own i) x
theorem FRd.len {w : World} {q : Option Addr} {n : Nat} {L : List Fil} (h : FRd w q n L) : n = L.length := by
  obtain ⟨l, rfl, rfl, _⟩ := h
  simp
theorem FRd.kp0 {w w' : World} {q : Option Addr} {n : Nat} {L : List Fil} (h : FRd w q n L) (k : Kp none_ w w') : FRd w' q n L := by
  obtain ⟨l, h1, h2, h3, h4⟩ := h
  exact ⟨l, h1, h2, h3.kp0 k, fun x hx => (h4 x hx).kp0 k⟩
theorem FOwn.rd {w : World} {O : Nat → Prop} {v : Value} {L : List Fil} (h : FOwn w O v L) : ∃ q c, v = .slice q L.length c ∧ FRd w q L.length L := by
  obtain ⟨l, own, rfl, _, h2, h3⟩ := h
  obtain ⟨q, c, rfl⟩ := h2.slice
  exact ⟨q, c, by simp, l, rfl, by simp, fxs_of h2, fun x hx => (h3 x hx).1⟩
theorem FOwn.kp {S O O' : Nat → Prop} {w w' : World} {v : Value} {L : List Fil} (h : FOwn w O v L) (k : Kp S w w') (hs : ∀ i, i < w.heap.size → O i → ¬ S i ∧ O' i) : FOwn w' O' v L := by
  obtain ⟨l, own, h1, ho, hr, h3⟩ := h
  refine ⟨l, fun i => own i ∧ i < w.heap.size, h1, fun i hi => (hs i hi.2 (ho i hi.1)).2, (hr.mono (own' := fun i => own i ∧ i < w.heap.size) fun i hi hl => ⟨hi, hl⟩).kp k fun g n cap _ hg => (hs g hg.2 (ho g hg.1)).1, fun x hx => ?_⟩
  obtain ⟨hd, hi⟩ := h3 x hx
  exact ⟨hd.kp hi k fun i hl hoi => (hs i hl hoi.1).1, hi.mono hd fun i hl hoi => ⟨(hs i hl hoi.1).2, fun hh => hoi.2 hh.1⟩⟩
theorem FOwn.kp0 {O : Nat → Prop} {w w' : World} {v : Value} {L : List Fil} (h : FOwn w O v L) (k : Kp none_ w w') : FOwn w' O v L := h.kp k fun i _ hi => ⟨id, hi⟩
theorem FOwn.mono {O O' : Nat → Prop} {w : World} {v : Value} {L : List Fil} (h : FOwn w O v L) (hs : ∀ i, i < w.heap.size → O i → O' i) : FOwn w O' v L := h.kp (Kp.refl none_ w) fun i hl hi => ⟨id, hs i hl hi⟩
theorem FOwn.nil (w : World) (O : Nat → Prop) : FOwn w O (.slice none 0 0) [] := ⟨[], fun _ => False, rfl, fun _ h => h.elim, OwnRow.nil _ _ _ _, fun x hx => by cases hx⟩
/-- The own sets cut down to what exists. -/
theorem FOwn.cut {w : World} {O : Nat → Prop} {v : Value} {L : List Fil} (h : FOwn w O v L) : FOwn w (fun i => O i ∧ i < w.heap.size) v L := h.mono fun i hl hi => ⟨hi, hl⟩
/-- A copy of bytes. -/
theorem c138 {w : World} {q : Option Addr} {c : Nat} {d : List UInt8} (h : BytesAt w q (ba d)) (hd : d.length ≤ 1000000000) : Rets Tryd.prog 138 #[.slice q d.length c] w fun v w' =>
    ∃ x : Fx, v = .slice x.q d.length x.c ∧ x.d = d ∧ DatAt w' x ∧ DatIn (fun i => w.heap.size ≤ i) x ∧ Kp none_ w w' := by
  refine ent [_] Tryd.func138 ((vcTryd138 _ _ _ w _).mpr ?_)
  unfold VCTryd138
  cases q with
  | none =>
    have : d = [] := by
      cases d with
      | nil => rfl
      | cons b r =>
        obtain ⟨x, e, _⟩ := h 0 (by rw [ba_size]; simp)
        cases e
    subst this
    exact ⟨_, rfl, ⟨[], [], none, 0⟩, rfl, rfl, ⟨fun i hi => absurd hi (by rw [ba_size]; simp), by simp [maxLen]⟩, fun h0 => absurd h0 (by simp), Kp.refl _ _⟩
  | some x =>
    show Runs _ _ _ _
    refine lit_buf und27 byte5 fun v1 w1 b1 k1 => ?_
    obtain ⟨q1, c1, rfl, _⟩ := b1.slice
    refine ⟨_, _, _, rfl, k1.keeps0, buf_app und27 byte5 b1 k1.size rfl (h.kp0 k1) (by simp; omega) fun v2 w2 b2 k2 => ?_⟩
    obtain ⟨q2, c2, rfl, h1, h2⟩ := b2.slice
    rw [List.nil_append] at *
    refine ⟨_, _, _, rfl, k2.keeps0, _, rfl, ⟨[], d, q2, c2⟩, rfl, rfl, ⟨b2.bytes, h1, h2⟩, fun h0 a ha => ?_, (k1.wide.trans k2).narrow (Nat.le_refl _)⟩
    rcases b2 with ⟨_, h0'⟩ | ⟨g, cap, cur, fr, e, hg, _⟩
    · have h0 : 0 < d.length := h0
      rw [h0'] at h0; simp at h0
    · have ha : q2 = some a := ha
      rw [ha] at e
      cases e
      exact hg
end Go.Proofs.YtbpknjldphckgaaDoor
