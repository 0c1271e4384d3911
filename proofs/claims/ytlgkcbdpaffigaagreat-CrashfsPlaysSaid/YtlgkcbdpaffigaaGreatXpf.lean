/- What the row needs, part 6. -/
import Derived.Test.YtlgkcbdpaffigaaGreatXpe
namespace Go.Proofs.YtlgkcbdpaffigaaGreat
open Go Go.SX Go.Proofs
set_option maxRecDepth 100000
set_option linter.unusedVariables false
set_option linter.unusedSimpArgs false
/-- The document's files by names; what is refused lies in a block of Fq. -/
def FRWM (w : World) (O Fq : Nat → Prop) (b : Nat) (Ds : List Nat) (H : List (List Ent)) (N : List Ent) (cap k r : Int) (rl : List Int) : Prop :=
  ∃ (dv : Value) (own Od : Nat → Prop) (rq : Option Addr) (rc : Nat), Cs w b 0 [dv] ∧ RD w Od b 1 H N ∧ Cs w b 3 [.int .i64 cap, .int .i64 k, .int .i64 r, .slice rq rl.length rc] ∧ OwnRow w own 72 1 dv Ds.length (flatC ptC Ds) ∧ RowsAt w 1 intC rq rl ∧ (0 < rl.length → ∀ a, rq = some a → Fq a.block) ∧ (∀ i, own i → O i ∧ ¬ Od i) ∧ (∀ i, Od i → O i)
def FRW (w : World) (O Fq : Nat → Prop) (b : Nat) (f : Fst) (H : List (List Ent)) : Prop :=
  ∃ (Ds : List Nat) (Of : Nat → Prop), FRWM w Of Fq b Ds H (lastE f.S f.ws) f.cap f.k f.r f.rl ∧ Dks RDsk w (fun x => O x ∧ ¬ Of x) Ds f.ds ∧ (∀ x, Of x → O x) ∧ (∀ x, O x → ¬ Fq x) ∧ Hst f.S f.ws H (lastE f.S f.ws)
section
variable {w w' : World} {O Fq : Nat → Prop} {b : Nat} {Ds : List Nat} {H : List (List Ent)} {N : List Ent} {cap k r : Int} {rl : List Int} {f : Fst}
theorem FRW.of {E : Nat} (h : FRD E w O b f H) : FRW w O (fun i => i < E) b f H := by
  obtain ⟨Ds, Of, ⟨dv, own, Od, rq, rc, h1, h2, h3, h4, h5, h6, h7, h8, h9⟩, g2, g3, g4, g5⟩ := h
  exact ⟨Ds, Of, ⟨dv, own, Od, rq, rc, h1, h2, h3, h4, h5, h6, h7, h8⟩, g2, g3, fun x hx hh => by have := g4 x hx; omega, g5⟩
theorem FRWM.kp {O' S' : Nat → Prop} (h : FRWM w O Fq b Ds H N cap k r rl) (kk : Kp S' w w') (hq : ∀ i, Fq i → ¬ S' i) (hs : ∀ i, i < w.heap.size → O i → ¬ S' i ∧ O' i) : FRWM w' O' Fq b Ds H N cap k r rl := by
  obtain ⟨dv, own, Od, rq, rc, h1, h2, h3, h4, h5, h6, h7, h8⟩ := h
  have hb := h2.lt
  have sb := (hs b hb.1 (h8 _ hb.2)).1
  refine ⟨dv, fun i => own i ∧ i < w.heap.size, fun i => Od i ∧ i < w.heap.size, rq, rc, h1.kp kk sb, h2.kp kk fun i hl hi => ⟨(hs i hl (h8 i hi)).1, hi, hl⟩, h3.kp kk sb, ?_, h5.kp kk fun h0 a e hh => hq _ (h6 h0 a e) hh, h6, fun i hi => ⟨(hs i hi.2 (h7 i hi.1).1).2, fun hh => (h7 i hi.1).2 hh.1⟩, fun i hi => (hs i hi.2 (h8 i hi.1)).2⟩
  exact (h4.mono (own' := fun i => own i ∧ i < w.heap.size) fun i hi hl => ⟨hi, hl⟩).kp kk fun g n cap _ hg => (hs g hg.2 (h7 g hg.1).1).1
theorem FRWM.lt (h : FRWM w O Fq b Ds H N cap k r rl) : b < w.heap.size ∧ O b := by
  obtain ⟨dv, own, Od, rq, rc, h1, h2, h3, h4, h5, h6, h7, h8⟩ := h
  exact ⟨h2.lt.1, h8 _ h2.lt.2⟩
theorem FRWM.disks (h : FRWM w O Fq b Ds H N cap k r rl) : ∃ q c, w.cell? ⟨b, 0, none⟩ = some (.slice q Ds.length c) ∧ RowsAt w 1 ptC q Ds := by
  obtain ⟨dv, own, Od, rq, rc, h1, h2, h3, h4, h5, h6, h7, h8⟩ := h
  obtain ⟨q, c, rfl⟩ := h4.slice
  have := rwIn_of (Q := O) ptC_len (by omega) h4 fun i hi => (h7 i hi).1
  exact ⟨q, c, h1.get 0 rfl, this.1⟩
theorem FRWM.set {j : Nat} (hj : j < 3) (h : FRWM w O Fq b Ds H N cap k r rl) (hb : ¬ Fq b) {cap' k' r' u : Int} (hv : ([.int .i64 cap', .int .i64 k', .int .i64 r'] : List Value) = ([.int .i64 cap, .int .i64 k, .int .i64 r] : List Value).set j (.int .i64 u)) : FRWM (w.setCell ⟨b, 3 + j, none⟩ (.int .i64 u)) O Fq b Ds H N cap' k' r' rl ∧ Kp (one_ b) w (w.setCell ⟨b, 3 + j, none⟩ (.int .i64 u)) ∧ (∃ v, w.cell? ⟨b, 3 + j, none⟩ = some v) ∧ w.frozen? ⟨b, 3 + j, none⟩ = false := by
  have hlt := h.lt
  obtain ⟨dv, own, Od, rq, rc, h1, h2, h3, h4, h5, h6, h7, h8⟩ := h
  have kk : Kp (one_ b) w (w.setCell ⟨b, 3 + j, none⟩ (.int .i64 u)) := kp_set _ _ _ _
  have nb : Nb b 3 4 w (w.setCell ⟨b, 3 + j, none⟩ (.int .i64 u)) := Nb.set w (b := b) (o := 3) (i := j) (by omega) _
  have cc := h3.set j (.int .i64 u)
  have e : ([.int .i64 cap, .int .i64 k, .int .i64 r, .slice rq rl.length rc] : List Value).set j (.int .i64 u) = [.int .i64 cap', .int .i64 k', .int .i64 r', .slice rq rl.length rc] := by
    have : ([.int .i64 cap, .int .i64 k, .int .i64 r, .slice rq rl.length rc] : List Value) = [.int .i64 cap, .int .i64 k, .int .i64 r] ++ [.slice rq rl.length rc] := rfl
    rw [this, List.set_append_left _ _ (by simpa using hj), ← hv]
    rfl
  rw [e] at cc
  exact ⟨⟨dv, own, Od, rq, rc, h1.nb kk nb (.inl (by simp)), h2.nb kk nb (.inl (by omega)), cc, h4.kp kk (fun g n cap _ hg e => by have e : g = b := e; rw [e] at hg; exact (h7 b hg).2 h2.lt.2), h5.kp kk (fun h0 a e hh => by have hh : a.block = b := hh; exact hb (hh ▸ h6 h0 a e)), h6, h7, h8⟩, kk, h3.slot j (by simp; omega)⟩
theorem FRW.kp {O' S' : Nat → Prop} (h : FRW w O Fq b f H) (kk : Kp S' w w') (hq : ∀ i, Fq i → ¬ S' i) (hs : ∀ i, i < w.heap.size → O i → ¬ S' i ∧ O' i) (hO' : ∀ x, O' x → ¬ Fq x) : FRW w' O' Fq b f H := by
  obtain ⟨Ds, Of, h1, h2, h3, h4, h5⟩ := h
  exact ⟨Ds, fun x => Of x ∧ x < w.heap.size, h1.kp kk hq (fun x hl hx => ⟨(hs x hl (h3 x hx)).1, hx, hl⟩), h2.kp pkR kk fun x hl hx => ⟨(hs x hl hx.1).1, (hs x hl hx.1).2, fun hh => hx.2 hh.1⟩, fun x hx => (hs x hx.2 (h3 x hx.1)).2, hO', h5⟩
theorem FRW.kp0 (h : FRW w O Fq b f H) (kk : Kp none_ w w') : FRW w' O Fq b f H := by
  obtain ⟨Ds, Of, h1, h2, h3, h4, h5⟩ := h
  exact ⟨Ds, Of, h1.kp kk (fun i _ hi => hi.elim) (fun x _ hx => ⟨id, hx⟩), h2.kp0 pkR kk, h3, h4, h5⟩
theorem FRW.lt (h : FRW w O Fq b f H) : b < w.heap.size ∧ O b := by
  obtain ⟨Ds, Of, h1, h2, h3, h4, h5⟩ := h
  exact ⟨h1.lt.1, h3 _ h1.lt.2⟩
theorem FRW.hst (h : FRW w O Fq b f H) : Hst f.S f.ws H (lastE f.S f.ws) := by
  obtain ⟨Ds, Of, h1, h2, h3, h4, h5⟩ := h
  exact h5
theorem FRW.dir (h : FRW w O Fq b f H) : ∃ Od, RD w Od b 1 H (lastE f.S f.ws) := by
  obtain ⟨Ds, Of, ⟨dv, own, Od, rq, rc, h1, h2, h3, h4, h5, h6, h7, h8⟩, g2, g3, g4, g5⟩ := h
  exact ⟨Od, h2⟩
theorem FRW.nums (h : FRW w O Fq b f H) : w.cell? ⟨b, 3, none⟩ = some (.int .i64 f.cap) ∧ w.cell? ⟨b, 4, none⟩ = some (.int .i64 f.k) ∧ w.cell? ⟨b, 5, none⟩ = some (.int .i64 f.r) := by
  obtain ⟨Ds, Of, ⟨dv, own, Od, rq, rc, h1, h2, h3, h4, h5, h6, h7, h8⟩, g2, g3, g4, g5⟩ := h
  exact ⟨h3.get 0 rfl, h3.get 1 rfl, h3.get 2 rfl⟩
theorem FRW.row (h : FRW w O Fq b f H) : ∃ (Ds : List Nat) (q : Option Addr) (c : Nat), Ds.length = f.ds.length ∧ w.cell? ⟨b, 0, none⟩ = some (.slice q f.ds.length c) ∧ RowsAt w 1 ptC q Ds ∧ ∀ {w1 : World} {i : Nat} (hi : i < f.ds.length), Kp none_ w w1 → ∃ col, RDsk w1 col (Ds.getD i 0) (f.ds.getD i emptySt) := by
  obtain ⟨Ds, Of, h1, h2, h3, h4, h5⟩ := h
  obtain ⟨q, c, e0, r0⟩ := h1.disks
  refine ⟨Ds, q, c, h2.len, by rw [← h2.len]; exact e0, r0, fun {w1 i} hi kk => ?_⟩
  obtain ⟨col, p, _, _⟩ := (h2.kp0 pkR kk).at pkR hi
  exact ⟨col, p⟩
theorem c100W (h : FRW w O Fq b f H) (i : Int) : Rets Tryz.prog 32 #[ptA b 0, .int .i64 i] w fun v w' => w' = w ∧ v = .bool (decide (0 ≤ i ∧ i < f.ds.length)) := by
  refine ent [_, _] Tryz.func32 ((vcTryz32 _ _ w _).mpr ?_)
  unfold VCTryz32
  obtain ⟨Ds, q, c, hl, e0, _, _⟩ := h.row
  simp only [ptr_some, ad3, Nat.zero_add, Nat.add_zero]
  refine bif_dec (fun hi => ⟨_, _, _, e0, _, rfl, trivial, ?_⟩) (fun hi => ⟨_, rfl, trivial, ?_⟩)
  · congr 1
    rw [decide_eq_decide]
    omega
  · congr 1
    symm
    rw [decide_eq_false_iff_not]
    omega
/-- What is used. -/
theorem c101W (h : FRW w O Fq b f H) (o : Fok f) : Rets Tryz.prog 30 #[ptA b 0] w fun v w' => w' = w ∧ v = .int .i64 (usedN f f.ds.length) ∧ (0 ≤ usedN f f.ds.length ∧ usedN f f.ds.length ≤ 4096 * f.ds.length) := by
  refine ent [_] Tryz.func30 ((vcTryz30 _ w _).mpr ?_)
  unfold VCTryz30
  have hdl := o.dsl
  have hst := h.hst
  have hwsl := o.wsl
  obtain ⟨Ds, q, c, hlen, e0, r0, hd⟩ := h.row
  refine ⟨fun i n w' => ∃ j : Nat, i = j ∧ j ≤ f.ds.length ∧ n = usedN f j ∧ (0 ≤ n ∧ n ≤ 4096 * j) ∧ w' = w, fun i _ _ => (f.ds.length - i).toNat, ⟨0, rfl, by omega, rfl, by omega, rfl⟩, ?_⟩
  rintro i n w1 ⟨j, rfl, hj, rfl, hn, rfl⟩
  simp only [ptr_some, ad3, Nat.zero_add, Nat.add_zero]
  refine ⟨_, _, _, e0, bif_dec (fun hi => ?_) (fun hi => ?_)⟩
  · have hjl : j < f.ds.length := by omega
    obtain ⟨Od, d⟩ := h.dir
    refine (c50 d (by rw [hst.len]; omega) (fun l hl => by have := (hst.wfH l hl).len; omega) (by have := hst.wfN.len; omega) j).mono ?_
    rintro v w2 ⟨e, rfl⟩
    obtain rfl := e.symm
    have hl : ((H ++ [lastE f.S f.ws]).any fun l => idIn l j) = lnk f j := by rw [hst.all]; exact linked_eq hst.wf hst.ok j
    rw [hl]
    refine ⟨_, rfl, (Kp.refl none_ _).keeps0, bif_b (fun ht => ?_) (fun ht => ?_)⟩
    · obtain ⟨col, p⟩ := hd hjl (Kp.refl _ _)
      have hjD : j < Ds.length := by omega
      have eD : Ds.getD j 0 = Ds[j] := by rw [List.getD_eq_getElem?_getD, List.getElem?_eq_getElem hjD]; rfl
      rw [eD] at p
      have sz := p.ok.size
      obtain ⟨qn, cn, en, _⟩ := p.now
      have eu : usedN f (j + 1) = usedN f j + (f.ds.getD j emptySt).size := by
        show usedN f j + (if lnk f j = true then _ else _) = _
        rw [if_pos ht]
      refine ⟨_, _, _, e0, ⟨by omega, by omega⟩, r0.get hjD fun a ea hc => ⟨_, (cell_add0 _ _).symm.trans (hc 0 _ rfl), ?_⟩⟩
      simp only [ptr_some, ad3, Nat.zero_add, Nat.add_zero]
      exact ⟨_, _, _, en, wr64 (by omega) (wr64 (by omega) ⟨⟨j + 1, by omega, by omega, eu.symm, by omega, trivial⟩, by first | omega | (dsimp only; omega)⟩)⟩
    · have eu : usedN f (j + 1) = usedN f j := by
        show usedN f j + (if lnk f j = true then _ else _) = _
        rw [if_neg (by rw [ht]; simp), Int.add_zero]
      exact wr64 (by omega) ⟨⟨j + 1, by omega, by omega, eu.symm, by omega, rfl⟩, by first | omega | (dsimp only; omega)⟩
  · have ej : j = f.ds.length := by omega
    subst ej
    exact ⟨_, rfl, trivial, rfl, hn⟩
end
/-! ### The program's questions -/
section
variable {w w' : World} {O : Nat → Prop} {b : Nat} {f : Fst}
theorem z34 (h : FSD w O b f) {i : Nat} (hi : i < f.ds.length) : Rets Tryz.prog 34 #[ptA b 0, .int .i64 i] w fun v w' => w' = w ∧ v = .int .i64 (f.ds.getD i emptySt).size := by
  refine ent [_, _] Tryz.func34 ((vcTryz34 _ _ w _).mpr ?_)
  unfold VCTryz34
  obtain ⟨d, col, e77, p, _, _⟩ := h.disk hi
  refine e77.mono ?_
  rintro v w2 ⟨e, rfl⟩
  obtain rfl := e.symm
  refine ⟨_, rfl, (Kp.refl none_ _).keeps0, (c18 p).mono ?_⟩
  rintro v w3 ⟨rfl, e⟩
  obtain rfl := e.symm
  exact ⟨_, rfl, (Kp.refl none_ _).keeps0, _, rfl, rfl, rfl⟩
theorem z29 (h : FSD w O b f) (o : Fok f) : Rets Tryz.prog 29 #[ptA b 0] w fun v w' => ∃ (q : Option Addr) (c : Nat), v = .slice q (lastE f.S f.ws).length c ∧ RowsAt w' 1 strC q ((lastE f.S f.ws).map Prod.fst) ∧ Kp none_ w w' := by
  refine ent [_] Tryz.func29 ((vcTryz29 _ w _).mpr ?_)
  unfold VCTryz29
  obtain ⟨Ds, Of, h1, h2, h3⟩ := h
  refine bif_b (fun hh => by cases hh) (fun _ => ?_)
  obtain ⟨Od, d⟩ := h1.dir
  simp only [ptr_some, ad3, Nat.zero_add]
  refine (c39 d o.last.asc (by have := o.last.len; omega)).mono ?_
  rintro v w1 ⟨q, c, rfl, r1, _, k1⟩
  exact ⟨_, _, _, rfl, k1.keeps0, _, rfl, q, c, rfl, r1, k1⟩
theorem sumW_all {ds : List St} (hw : ∀ s ∈ ds, s.wait.length ≤ 90000) : ∀ j, sumW ds j ≤ 90000 * j
  | 0 => by simp [sumW]
  | j + 1 => by
    have ih := sumW_all hw j
    have : (ds.getD j emptySt).wait.length ≤ 90000 := by
      by_cases hj : j < ds.length
      · exact hw _ (List.mem_of_getElem? (getD_get ds emptySt hj))
      · rw [List.getD_eq_getElem?_getD, List.getElem?_eq_none (by omega)]
        exact Nat.zero_le _
    show sumW ds j + (ds.getD j emptySt).wait.length ≤ _
    omega
theorem z14 (h : FSD w O b f) (o : Fok f) (hw : ∀ s ∈ f.ds, s.wait.length ≤ 90000) : Rets Tryz.prog 14 #[ptA b 0] w fun v w' => w' = w ∧ v = .int .i64 (sumW f.ds f.ds.length) := by
  refine ent [_] Tryz.func14 ((vcTryz14 _ w _).mpr ?_)
  unfold VCTryz14
  have h0 := h
  obtain ⟨Ds, Of, h1, h2, h3⟩ := h
  have hlen := h2.len
  have hdl := o.dsl
  refine bif_b (fun hh => by cases hh) (fun _ => ?_)
  obtain ⟨q, c, e0, r0⟩ := h1.disks
  simp only [ptr_some, ad3, Nat.zero_add, Nat.add_zero]
  refine ⟨_, _, _, e0, fun i n w' => ∃ j : Nat, i = j ∧ j ≤ f.ds.length ∧ n = sumW f.ds j ∧ w' = w, fun i _ _ => (f.ds.length - i).toNat, ⟨0, rfl, by omega, rfl, rfl⟩, ?_⟩
  rintro i n w1 ⟨j, rfl, hj, rfl, rfl⟩
  have sl := sumW_all hw j
  refine bif_dec (fun hi => ?_) (fun hi => ?_)
  · have hjl : j < f.ds.length := by omega
    have hjD : j < Ds.length := by omega
    have sl1 := sumW_all hw (j + 1)
    have es : sumW f.ds (j + 1) = sumW f.ds j + (f.ds.getD j emptySt).wait.length := rfl
    refine ⟨⟨by omega, by omega⟩, r0.get hjD fun a ea hc => ⟨_, (cell_add0 _ _).symm.trans (hc 0 _ rfl), ?_⟩⟩
    obtain ⟨col, p, _, _⟩ := h2.at pkD hjl
    have eD : Ds.getD j 0 = Ds[j] := by rw [List.getD_eq_getElem?_getD, List.getElem?_eq_getElem hjD]; rfl
    rw [eD] at p
    refine (c21 p).mono ?_
    rintro v w3 ⟨rfl, e⟩
    obtain rfl := e.symm
    exact ⟨_, rfl, (Kp.refl none_ _).keeps0, wr64 (by omega) (wr64 (by omega) ⟨⟨j + 1, by omega, by omega, by rw [es]; omega, rfl⟩, by first | omega | (dsimp only; omega)⟩)⟩
  · have ej : j = f.ds.length := by omega
    subst ej
    exact ⟨_, rfl, rfl, rfl⟩
end
end Go.Proofs.YtlgkcbdpaffigaaGreat

namespace Go.Proofs.YtlgkcbdpaffigaaGreat
open Go Go.SX Go.Proofs
set_option maxRecDepth 100000
set_option linter.unusedVariables false
set_option linter.unusedSimpArgs false
theorem look_at {l : List Ent} (h : NK l) {i : Nat} (hi : i < l.length) : lookE l l[i].1 = some l[i].2 := (lookE_nk h).2 (List.getElem_mem hi)
theorem has_at {l : List Ent} {i : Nat} (hi : i < l.length) : has Prod.fst l l[i].1 = true := by
  rw [has, List.any_eq_true]
  exact ⟨l[i], List.getElem_mem hi, by simp⟩
/-- All numbers that names stand for, or did, are disks'. -/
def Idk (f : Fst) : Prop := ∀ k i, idIn (lastE f.S (f.ws.take k)) i = true → 0 ≤ i ∧ i < f.ds.length
theorem Idk.last {f : Fst} (h : Idk f) {i : Int} (hi : idIn (lastE f.S f.ws) i = true) : 0 ≤ i ∧ i < f.ds.length := h f.ws.length i (by rw [List.take_length]; exact hi)
theorem z10 {w : World} {Op O Fq : Nat → Prop} {bp bm : Nat} {f : Fst} {H : List (List Ent)} (hp : FSD w Op bp f) (hm : FRW w O Fq bm f H) (o : Fok f) (hid : Idk f) (hw : ∀ s ∈ f.ds, s.wait.length ≤ 90000) : Rets Tryz.prog 10 #[ptA bp 0, ptA bm 0] w fun v w' => v = .bool true ∧ Kp none_ w w' := by
  refine ent [_, _] Tryz.func10 ((vcTryz10 _ _ w _).mpr ?_)
  unfold VCTryz10
  have hdl := o.dsl
  have hN := o.last.len
  refine (z29 hp o).mono ?_
  rintro v w1 ⟨q2, c2, rfl, rn, k1⟩
  have hp1 := hp.kp0 k1
  refine ⟨_, _, _, rfl, k1.keeps0, ?_⟩
  have hp1' := hp1
  obtain ⟨Dsx, Ofx, hp1x, _, _⟩ := hp1'
  refine (c51 hp1x).mono ?_
  rintro v w2 ⟨rfl, rfl⟩
  have k2 : Kp none_ w w1.drew := k1.drew
  have k12 : Kp none_ w1 w1.drew := (Kp.refl none_ w1).drew
  have hp2 := hp.kp0 k2
  have hm2 := hm.kp0 k2
  have rn2 := rn.kp0 k12
  refine ⟨_, _, rfl, k12.keeps0, ?_⟩
  generalize w1.drew = W at *
  obtain ⟨Ds, qd, cd, hlen, e0, r0, hd⟩ := hm2.row
  refine ⟨fun i n w' => ∃ j : Nat, i = j ∧ j ≤ f.ds.length ∧ n = sumW f.ds j ∧ w' = W, fun i _ _ => (f.ds.length - i).toNat, ⟨0, rfl, by omega, rfl, rfl⟩, ?_⟩
  rintro i n w3 ⟨j, rfl, hj, rfl, rfl⟩
  have sl := sumW_all hw j
  simp only [ptr_some, ad3, Nat.zero_add, Nat.add_zero]
  refine ⟨_, _, _, e0, bif_dec (fun hi => ?_) (fun hi => ?_)⟩
  · have hjl : j < f.ds.length := by omega
    have hjD : j < Ds.length := by omega
    have sl1 := sumW_all hw (j + 1)
    have es : sumW f.ds (j + 1) = sumW f.ds j + (f.ds.getD j emptySt).wait.length := rfl
    obtain ⟨col, p⟩ := hd hjl (Kp.refl _ _)
    have eD : Ds.getD j 0 = Ds[j] := by rw [List.getD_eq_getElem?_getD, List.getElem?_eq_getElem hjD]; rfl
    rw [eD] at p
    obtain ⟨qw, cw, ew⟩ := p.wait.len
    refine ⟨_, _, _, e0, ⟨by omega, by omega⟩, r0.get hjD fun a ea hc => ⟨_, (cell_add0 _ _).symm.trans (hc 0 _ rfl), ?_⟩⟩
    simp only [ptr_some, ad3, Nat.zero_add, Nat.add_zero]
    exact ⟨_, _, _, ew, wr64 (by omega) (wr64 (by omega) ⟨⟨j + 1, by omega, by omega, by rw [es]; omega, trivial⟩, by first | omega | (dsimp only; omega)⟩)⟩
  have ej : j = f.ds.length := by omega
  subst ej
  obtain ⟨Od, dir⟩ := hm2.dir
  obtain ⟨qn, cn, en, hq⟩ := dir.now
  have hqa : EAt w3 qn (lastE f.S f.ws) := hq.1
  obtain ⟨n3, n4, n5⟩ := hm2.nums
  refine ⟨_, _, _, en, bif_ne (fun hh => absurd rfl hh) fun _ => ⟨_, n4, bif_ne (fun hh => absurd rfl hh) fun _ => ⟨_, n5, bif_ne (fun hh => absurd rfl hh) fun _ => ?_⟩⟩⟩
  refine (c55 hp2 o).mono ?_
  rintro v w4 ⟨rfl, _, k4⟩
  refine ⟨_, rfl, k4.keeps0, (c101W (hm2.kp0 k4) o).mono ?_⟩
  rintro v w5 ⟨e, rfl, _⟩
  obtain rfl := e.symm
  refine ⟨_, rfl, (Kp.refl none_ _).keeps0, bif_ne (fun hh => absurd rfl hh) fun _ => (z14 (hp2.kp0 k4) o hw).mono ?_⟩
  rintro v w6 ⟨e, rfl⟩
  obtain rfl := e.symm
  refine ⟨_, rfl, (Kp.refl none_ _).keeps0, bif_ne (fun hh => absurd rfl hh) fun _ => ?_⟩
  refine ⟨fun i w' => ∃ j : Nat, i = j ∧ j ≤ (lastE f.S f.ws).length ∧ Kp none_ w3 w', fun i _ => ((lastE f.S f.ws).length - i).toNat, ⟨0, rfl, by omega, k4⟩, ?_⟩
  rintro i w7 ⟨j, rfl, hj, k7⟩
  refine bif_dec (fun hi => ?_) (fun hi => ⟨_, rfl, rfl, k2.trans k7⟩)
  have hjl : j < (lastE f.S f.ws).length := by omega
  have hjl' : j < ((lastE f.S f.ws).map Prod.fst).length := by simpa using hjl
  have rn7 := rn2.kp0 k7
  have hp7 := hp2.kp0 k7
  have hm7 := hm2.kp0 k7
  have ho : ∀ {P : Prop}, P → ((0 : Int) ≤ (j : Int) ∧ (j : Int) < (lastE f.S f.ws).length) ∧ P := fun h => ⟨⟨by omega, hi⟩, h⟩
  refine ho (rn7.get hjl' fun a ea hc => ⟨_, (cell_add0 _ _).symm.trans (hc 0 _ rfl), (c33F hp7 _).mono ?_⟩)
  rintro v w8 ⟨e, rfl⟩
  obtain rfl := e.symm
  rw [List.getElem_map, look_at (asc_nk o.last.asc) hjl, has_at hjl]
  have k8 : Kp none_ w3 w7.drew := k7.drew
  have k88 : Kp none_ w7 w7.drew := (Kp.refl none_ w7).drew
  have en8 := k8.cell0 en
  have rn8 := rn2.kp0 k8
  have hq8 := hqa.kp0 k8
  refine ⟨_, _, rfl, (Kp.refl none_ _).keeps0, ho (rn8.get hjl' fun a ea hc => ⟨_, (cell_add0 _ _).symm.trans (hc 0 _ rfl), _, _, _, en8, ho (hq8.get hjl fun a ea hc => ⟨_, hc 0 _ rfl, ?_⟩)⟩)⟩
  refine bif_not (fun hh => ?_) fun _ => bif_ne (fun hh => absurd rfl hh) fun _ => ⟨_, _, _, en8, ho (hq8.get hjl fun a ea hc => ⟨_, hc 1 _ rfl, bif_ne (fun hh => absurd rfl hh) fun _ => ?_⟩)⟩
  · rw [List.getElem_map] at hh
    simp at hh
  obtain ⟨hid0, hid1⟩ := hid.last (idIn_iff.2 ⟨_, List.getElem_mem hjl, rfl⟩)
  show Rets Tryz.prog 32 #[ptA bm 0, .int .i64 (lastE f.S f.ws)[j].2] w7.drew _
  obtain ⟨x, hx⟩ : ∃ x : Nat, (lastE f.S f.ws)[j].2 = x := ⟨(lastE f.S f.ws)[j].2.toNat, by omega⟩
  rw [hx] at hid0 hid1
  rw [hx]
  have hxl : x < f.ds.length := by omega
  have hxD : x < Ds.length := by omega
  have hp8 := hp2.kp0 k8
  have hm8 := hm2.kp0 k8
  refine (c100W hm8 x).mono ?_
  rintro v w9 ⟨e, rfl⟩
  obtain rfl := e.symm
  refine ⟨_, rfl, (Kp.refl none_ _).keeps0, bif_not (fun hh => absurd (of_decide_eq_false hh) (by omega)) fun _ => ?_⟩
  have e08 := k8.cell0 e0
  have r08 := r0.kp0 k8
  have eD : Ds.getD x 0 = Ds[x] := by rw [List.getD_eq_getElem?_getD, List.getElem?_eq_getElem hxD]; rfl
  have pd : ∀ {W : World}, Kp none_ w3 W → ∃ col, RDsk W col Ds[x] (f.ds.getD x emptySt) := fun kW => by
    have := hd hxl kW
    rw [eD] at this
    exact this
  generalize w7.drew = w8 at *
  obtain ⟨col8, p8⟩ := pd k8
  have sz := p8.ok.size
  obtain ⟨qn8, cn8, en8', _⟩ := p8.now
  simp only [Option.getD_some]
  refine ⟨_, _, _, e08, ⟨by omega, by omega⟩, r08.get hxD fun a ea hc => ⟨_, (cell_add0 _ _).symm.trans (hc 0 _ rfl), ?_⟩⟩
  simp only [ptr_some, ad3, Nat.zero_add, Nat.add_zero]
  refine ⟨_, _, _, en8', wr64 (by omega) ?_⟩
  have e512 : (512 : Int) * ((f.ds.getD x emptySt).size : Int) = ((512 * (f.ds.getD x emptySt).size : Nat) : Int) := by omega
  rw [e512]
  have hr : rightF 0 ((512 * (f.ds.getD x emptySt).size : Nat) : Int) = true := by unfold rightF; exact decide_eq_true (by omega)
  refine (c34F hp8 hxl 0 _ hr (by omega)).mono ?_
  rintro v w10 ⟨qr, cr, rfl, k10, rr⟩
  have rby : ∀ p, isByte (readF (f.ds.getD x emptySt) 0 p) := fun p => by
    unfold readF
    split
    · exact p8.ok.now _
    · unfold isByte; decide
  have rb := row_bytes rr rby
  refine ⟨_, _, _, _, rfl, k10.keeps0, bif_ne (fun hh => absurd rfl hh) fun _ => ?_⟩
  have k10d : Kp none_ w10 w10.drew := (Kp.refl none_ w10).drew
  have rbd : BytesAt w10.drew qr (SX.strOf (readF (f.ds.getD x emptySt) 0) 0 (512 * (f.ds.getD x emptySt).size)) := fun i hi => rb i hi
  have kd := (k8.trans k10).trans k10d
  generalize w10.drew = w10d at *
  obtain ⟨col10, p10⟩ := pd kd
  obtain ⟨qn10, cn10, en10, _⟩ := p10.now
  refine ⟨_, _, _, en10, (z34 (hp2.kp0 kd) hxl).mono ?_⟩
  rintro v w11 ⟨e, rfl⟩
  obtain rfl := e.symm
  refine ⟨_, rfl, (Kp.refl none_ _).keeps0, en10, bif_ne (fun hh => absurd rfl hh) fun _ => ?_⟩
  refine ⟨_, by rw [SX.strOf_size], rbd, _, _, _, en10, wr64 (by omega) ?_⟩
  rw [e512]
  refine (c61 p10 0 _ hr).mono ?_
  rintro v w12 ⟨q12, c12, rfl, k12', r12⟩
  have rb12 := row_bytes r12 rby
  refine ⟨_, _, _, rfl, k12'.keeps0, fun i hi => ?_, _, by rw [SX.strOf_size], rb12, bif_not (fun hh => ?_) fun _ => ?_⟩
  · obtain ⟨a, ea, hc⟩ := rbd i hi
    exact ⟨a, ea, k12'.cell0 hc⟩
  · simp at hh
  · exact wr64 (by omega) ⟨⟨j + 1, by omega, by omega, kd.trans k12'⟩, by first | omega | (dsimp only; omega)⟩
end Go.Proofs.YtlgkcbdpaffigaaGreat

namespace Go.Proofs.YtlgkcbdpaffigaaGreat
open Go Go.SX Go.Proofs
set_option maxRecDepth 100000
set_option linter.unusedVariables false
set_option linter.unusedSimpArgs false
theorem idk_snoc {S : List Ent} {ws : List Chg} {n m : Nat} {c : Chg} (h : ∀ k i, idIn (lastE S (ws.take k)) i = true → 0 ≤ i ∧ i < n) (wf : WfE (lastE S ws)) (hc : okC (lastE S ws) c) (hn : n ≤ m) (hi : c.fr = [] → 0 ≤ c.id ∧ c.id < m) : ∀ k i, idIn (lastE S ((ws ++ [c]).take k)) i = true → 0 ≤ i ∧ i < m := fun k i e => by
  by_cases hk : k ≤ ws.length
  · rw [List.take_append_of_le_length hk] at e
    have := h k i e
    omega
  · rw [List.take_of_length_le (by simp; omega), last_snoc] at e
    rcases id_do wf hc e with e | ⟨e1, e2⟩
    · have := h ws.length i (by rw [List.take_length]; exact e)
      omega
    · rw [← e2]
      exact hi e1
theorem Idk.eq {f g : Fst} (h : Idk f) (h1 : g.S = f.S) (h2 : g.ws = f.ws) (h3 : g.ds.length = f.ds.length) : Idk g := fun k i e => by
  rw [h1, h2] at e
  rw [h3]
  exact h k i e
theorem Idk.op {f : Fst} (h : Idk f) (o : Fok f) (x : Opz) (bf : Int → Int) (kb : Nat → Bool) (nl : List Int) : Idk (opF f x bf kb nl) := by
  unfold opF
  split
  · unfold mkF
    by_cases hE : newF f x.a = 0
    · rw [if_pos hE]
      unfold newF at hE
      split at hE
      · cases hE
      · split at hE
        · cases hE
        · exact fun k i e => idk_snoc (n := f.ds.length) (m := (f.ds ++ [emptySt]).length) h o.last (create_ok o.last hE f.ds.length).1 (by simp) (fun _ => by simp; omega) k i e
    · rw [if_neg hE]
      exact h.eq rfl rfl rfl
  · split
    · unfold wrF
      split
      · exact h.eq rfl rfl rfl
      · split
        · exact h.eq rfl rfl rfl
        · split
          · exact h.eq rfl rfl rfl
          · exact h.eq rfl rfl (by show (f.ds.set _ _).length = _; rw [List.length_set])
    · split
      · unfold syF
        split
        · exact h.eq rfl rfl rfl
        · split
          · exact h.eq rfl rfl rfl
          · exact h.eq rfl rfl (by show (f.ds.set _ _).length = _; rw [List.length_set])
      · split
        · unfold sdF
          split
          · exact h.eq rfl rfl rfl
          · intro k i e
            have e : idIn (lastE (lastE f.S f.ws) (([] : List Chg).take k)) i = true := e
            rw [List.take_nil] at e
            exact h.last e
        · split
          · unfold rnF
            split
            · exact h.eq rfl rfl rfl
            · by_cases hE : renameE (lastE f.S f.ws) x.a x.t = 0
              · rw [if_pos hE]
                have hc := (rename_ok o.last hE).1
                exact fun k i e => idk_snoc (n := f.ds.length) (m := f.ds.length) h o.last hc (Nat.le_refl _) (fun e0 => by
                  rcases hc with hc | hc
                  · exact absurd hc.2.2.2 (by
                      have hh := (rename_ok o.last hE).1
                      rcases hh with hh | hh
                      · have e0 : x.a = [] := e0
                        exact fun _ => by
                          unfold renameE at hE
                          rw [e0, o.last.no_empty] at hE
                          revert hE
                          split <;> simp
                      · have e0 : x.a = [] := e0
                        have hh : has Prod.fst (lastE f.S f.ws) x.a = true := hh.1
                        rw [e0, o.last.no_empty] at hh
                        cases hh)
                  · have e0 : x.a = [] := e0
                    have hc : has Prod.fst (lastE f.S f.ws) x.a = true := hc.1
                    rw [e0, o.last.no_empty] at hc
                    cases hc) k i e
              · rw [if_neg hE]
                exact h.eq rfl rfl rfl
          · split
            · unfold rmF
              split
              · exact h.eq rfl rfl rfl
              · by_cases hE : removeE (lastE f.S f.ws) x.a = 0
                · rw [if_pos hE]
                  have hc := (remove_ok hE).1
                  exact fun k i e => idk_snoc (n := f.ds.length) (m := f.ds.length) h o.last hc (Nat.le_refl _) (fun e0 => by
                    have e0 : x.a = [] := e0
                    unfold removeE at hE
                    rw [e0, o.last.no_empty] at hE
                    simp at hE) k i e
                · rw [if_neg hE]
                  exact h.eq rfl rfl rfl
            · split
              · intro k i e
                have e : idIn (lastE (lastE f.S (f.ws.take x.nm.toNat)) (([] : List Chg).take k)) i = true := e
                rw [List.take_nil] at e
                have := h _ i e
                show 0 ≤ i ∧ i < (crDs f.ds x.nk kb x.fill f.ds.length).length
                rw [crDs_len]
                exact this
              · exact h.eq rfl rfl rfl
theorem Idk.new (cap : Int) : Idk (newFst cap) := fun k i e => by
  have e : idIn (lastE [] (([] : List Chg).take k)) i = true := e
  rw [List.take_nil] at e
  cases e
/-! ### How much is used -/
theorem crDs_at (ds : List St) (n : Nat) (kb : Nat → Bool) (fill : Int) {i : Nat} : ∀ j, i < j → j ≤ ds.length → ∃ m k, (crDs ds n kb fill j).getD i emptySt = crashSt (ds.getD i emptySt) m k fill
  | 0, h, _ => by omega
  | j + 1, h, hj => by
    by_cases e : i = j
    · subst e
      refine ⟨min (ds.getD i emptySt).wait.length (n - tkN ds n i), fun j => kb (tkN ds n i + j), ?_⟩
      show ((crDs ds n kb fill i).set i (crashSt _ _ _ fill)).getD i emptySt = _
      rw [List.getD_eq_getElem?_getD, List.getElem?_set_self (by rw [crDs_len]; omega)]
      rfl
    · obtain ⟨m, k, hh⟩ := crDs_at ds n kb fill (i := i) j (by omega) (by omega)
      refine ⟨m, k, ?_⟩
      show ((crDs ds n kb fill j).set j _).getD i emptySt = _
      rw [List.getD_eq_getElem?_getD, List.getElem?_set_ne (fun h => e h.symm), ← List.getD_eq_getElem?_getD]
      exact hh
theorem used_le {f g : Fst} : ∀ n : Nat, (∀ j : Nat, j < n → lnk g j = true → lnk f j = true) → (∀ j : Nat, j < n → (g.ds.getD j emptySt).size ≤ (f.ds.getD j emptySt).size) → usedN g n ≤ usedN f n
  | 0, _, _ => Int.le_refl _
  | n + 1, h1, h2 => by
    have ih := used_le n (fun j hj => h1 j (by omega)) (fun j hj => h2 j (by omega))
    have a := h1 n (by omega)
    have b := h2 n (by omega)
    show usedN g n + (if lnk g n = true then ((g.ds.getD n emptySt).size : Int) else 0) ≤ usedN f n + (if lnk f n = true then ((f.ds.getD n emptySt).size : Int) else 0)
    by_cases c : lnk g n = true
    · rw [if_pos c, if_pos (a c)]
      omega
    · rw [if_neg c]
      split <;> omega
theorem used_set {f g : Fst} {i : Nat} {d : Int} (hd : 0 ≤ d) (hl : ∀ j : Int, lnk g j = lnk f j) (hi : ((g.ds.getD i emptySt).size : Int) ≤ (f.ds.getD i emptySt).size + d) (hs : ∀ j, j ≠ i → g.ds.getD j emptySt = f.ds.getD j emptySt) : ∀ n : Nat, usedN g n ≤ usedN f n + (if i < n then d else 0)
  | 0 => by
    show (0 : Int) ≤ 0 + _
    split <;> omega
  | n + 1 => by
    have ih := used_set hd hl hi hs n
    show usedN g n + (if lnk g n = true then ((g.ds.getD n emptySt).size : Int) else 0) ≤ usedN f n + (if lnk f n = true then ((f.ds.getD n emptySt).size : Int) else 0) + _
    rw [hl]
    by_cases e : n = i
    · subst e
      rw [if_neg (Nat.lt_irrefl n)] at ih
      have e1 : (if n < n + 1 then d else 0) = d := if_pos (by omega)
      rw [e1]
      split <;> omega
    · rw [hs n e]
      by_cases c : i < n
      · rw [if_pos c] at ih
        have e1 : (if i < n + 1 then d else 0) = d := if_pos (by omega)
        rw [e1]
        omega
      · rw [if_neg c] at ih
        have e1 : (if i < n + 1 then d else 0) = 0 := if_neg (by omega)
        rw [e1]
        omega
def Usd (f : Fst) : Prop := usedN f f.ds.length ≤ f.cap
theorem Usd.le {f g : Fst} (h : Usd f) (hn : g.ds.length = f.ds.length) (hc : g.cap = f.cap) (h1 : ∀ j : Nat, j < f.ds.length → lnk g j = true → lnk f j = true) (h2 : ∀ j : Nat, j < f.ds.length → (g.ds.getD j emptySt).size ≤ (f.ds.getD j emptySt).size) : Usd g := by
  unfold Usd
  rw [hn, hc]
  exact Int.le_trans (used_le _ h1 h2) h
theorem Usd.eq {f g : Fst} (h : Usd f) (h1 : g.S = f.S) (h2 : g.ws = f.ws) (h3 : g.ds = f.ds) (hc : g.cap = f.cap) : Usd g :=
  h.le (by rw [h3]) hc (fun j _ e => by unfold lnk at e ⊢; rw [h1, h2] at e; exact e) (fun j _ => by rw [h3]; exact Nat.le_refl _)
theorem lnk_snoc {f g : Fst} {c : Chg} {j : Int} (e : lnk g j = true) (h1 : g.S = f.S) (h2 : g.ws = f.ws ++ [c]) (wf : WfE (lastE f.S f.ws)) (hc : okC (lastE f.S f.ws) c) : lnk f j = true ∨ (c.fr = [] ∧ c.id = j) := by
  unfold lnk at e ⊢
  rw [h1, h2, last_snoc] at e
  have em : made (f.ws ++ [c]) j = (made f.ws j || (c.fr == [] && c.id == j)) := by
    unfold made
    rw [List.any_append]
    simp
  rw [em] at e
  simp only [Bool.or_eq_true, Bool.and_eq_true, beq_iff_eq] at e ⊢
  rcases e with (e | e) | e | e
  · exact .inl (.inl e)
  · exact .inr e
  · rcases id_do wf hc e with e | e
    · exact .inl (.inr (.inl e))
    · exact .inr e
  · exact .inl (.inr (.inr e))
theorem Usd.op {f : Fst} (h : Usd f) (o : Fok f) (x : Opz) (bf : Int → Int) (kb : Nat → Bool) (nl : List Int) : Usd (opF f x bf kb nl) := by
  unfold opF
  split
  · unfold mkF
    by_cases hE : newF f x.a = 0
    · rw [if_pos hE]
      unfold newF at hE
      split at hE
      · cases hE
      · split at hE
        · cases hE
        · have hc := (create_ok o.last hE f.ds.length).1
          unfold Usd
          show usedN _ (f.ds ++ [emptySt]).length ≤ f.cap
          rw [List.length_append]
          show usedN _ f.ds.length + (if lnk _ _ = true then (((f.ds ++ [emptySt]).getD f.ds.length emptySt).size : Int) else 0) ≤ f.cap
          have e0 : (f.ds ++ [emptySt]).getD f.ds.length emptySt = emptySt := by
            rw [List.getD_eq_getElem?_getD, List.getElem?_append_right (Nat.le_refl _), Nat.sub_self]
            rfl
          rw [e0]
          have ez : ((emptySt.size : Nat) : Int) = 0 := rfl
          have := used_le (f := f) (g := { cnt f with ds := f.ds ++ [emptySt], ws := f.ws ++ [⟨[], x.a, f.ds.length⟩] }) f.ds.length (fun j hj e => by
            rcases lnk_snoc (f := f) e rfl rfl o.last hc with e | ⟨_, e⟩
            · exact e
            · have e : (f.ds.length : Int) = j := e
              omega) (fun j hj => by
            show ((f.ds ++ [emptySt]).getD j emptySt).size ≤ _
            rw [List.getD_eq_getElem?_getD, List.getElem?_append_left hj, ← List.getD_eq_getElem?_getD]
            exact Nat.le_refl _)
          unfold Usd at h
          split <;> omega
    · rw [if_neg hE]
      exact h.eq rfl rfl rfl rfl
  · split
    · unfold wrF
      split
      · exact h.eq rfl rfl rfl rfl
      · split
        · exact h.eq rfl rfl rfl rfl
        · rename_i hidx
          split
          · exact h.eq rfl rfl rfl rfl
          · rename_i hsz
            have hi : x.id.toNat < f.ds.length := by omega
            by_cases hn : rightF x.at_ x.nb = true ∧ x.nb ≠ 0
            · rw [if_pos hn]
              have hr := of_decide_eq_true hn.1
              unfold Usd at h ⊢
              have hd : ((writeSt (f.ds.getD x.id.toNat emptySt) x.at_ x.nb bf).size : Int) = needF (f.ds.getD x.id.toNat emptySt) x.at_ x.nb := by
                rw [write_size]
                unfold needF hiF
                rw [if_neg (by have := hn.2; omega)]
                omega
              have hge : ((f.ds.getD x.id.toNat emptySt).size : Int) ≤ needF (f.ds.getD x.id.toNat emptySt) x.at_ x.nb := by rw [← hd, write_size]; omega
              have := used_set (f := f) (g := { cnt f with ds := f.ds.set x.id.toNat (writeSt (f.ds.getD x.id.toNat emptySt) x.at_ x.nb bf) }) (i := x.id.toNat) (d := needF (f.ds.getD x.id.toNat emptySt) x.at_ x.nb - (f.ds.getD x.id.toNat emptySt).size) (by omega) (fun j => rfl) (by
                show (((f.ds.set _ _).getD x.id.toNat emptySt).size : Int) ≤ _
                have e : (f.ds.set x.id.toNat (writeSt (f.ds.getD x.id.toNat emptySt) x.at_ x.nb bf)).getD x.id.toNat emptySt = writeSt (f.ds.getD x.id.toNat emptySt) x.at_ x.nb bf := by
                  rw [List.getD_eq_getElem?_getD, List.getElem?_set_self hi]
                  rfl
                rw [e, hd]
                omega) (fun j hj => by
                show (f.ds.set _ _).getD j emptySt = _
                rw [List.getD_eq_getElem?_getD, List.getElem?_set_ne (fun h => hj h.symm), ← List.getD_eq_getElem?_getD]) f.ds.length
              rw [if_pos hi] at this
              show usedN _ (f.ds.set _ _).length ≤ f.cap
              rw [List.length_set]
              exact Int.le_trans this (by omega)
            · rw [if_neg hn]
              refine h.le (by show (f.ds.set _ _).length = _; rw [List.length_set]) rfl (fun j _ e => e) (fun j hj => ?_)
              show ((f.ds.set _ _).getD j emptySt).size ≤ _
              by_cases e : j = x.id.toNat
              · subst e
                rw [List.getD_eq_getElem?_getD (l := f.ds.set _ _), List.getElem?_set_self hi]
                exact Nat.le_refl _
              · rw [List.getD_eq_getElem?_getD (l := f.ds.set _ _), List.getElem?_set_ne (fun h => e h.symm), ← List.getD_eq_getElem?_getD]
                exact Nat.le_refl _
    · split
      · unfold syF
        split
        · exact h.eq rfl rfl rfl rfl
        · split
          · exact h.eq rfl rfl rfl rfl
          · refine h.le (by show (f.ds.set _ _).length = _; rw [List.length_set]) rfl (fun j _ e => e) (fun j hj => ?_)
            have hi : x.id.toNat < f.ds.length := by omega
            show ((f.ds.set _ _).getD j emptySt).size ≤ _
            by_cases e : j = x.id.toNat
            · subst e
              rw [List.getD_eq_getElem?_getD (l := f.ds.set _ _), List.getElem?_set_self hi]
              exact Nat.le_refl _
            · rw [List.getD_eq_getElem?_getD (l := f.ds.set _ _), List.getElem?_set_ne (fun h => e h.symm), ← List.getD_eq_getElem?_getD]
              exact Nat.le_refl _
      · split
        · unfold sdF
          split
          · exact h.eq rfl rfl rfl rfl
          · refine h.le rfl rfl (fun j _ e => ?_) (fun j _ => Nat.le_refl _)
            have e : (made [] j || (idIn (lastE (lastE f.S f.ws) []) j || idIn (lastE f.S f.ws) j)) = true := e
            have e : idIn (lastE f.S f.ws) j = true := by
              simp only [Bool.or_eq_true] at e
              rcases e with e | e | e
              · cases e
              · exact e
              · exact e
            unfold lnk
            rw [e]
            simp
        · split
          · unfold rnF
            split
            · exact h.eq rfl rfl rfl rfl
            · by_cases hE : renameE (lastE f.S f.ws) x.a x.t = 0
              · rw [if_pos hE]
                have hc := (rename_ok o.last hE).1
                refine h.le rfl rfl (fun j _ e => ?_) (fun j _ => Nat.le_refl _)
                rcases lnk_snoc (f := f) e rfl rfl o.last hc with e | ⟨e, _⟩
                · exact e
                · exfalso
                  have e : x.a = [] := e
                  unfold renameE at hE
                  rw [e, o.last.no_empty] at hE
                  revert hE
                  split <;> simp
              · rw [if_neg hE]
                exact h.eq rfl rfl rfl rfl
          · split
            · unfold rmF
              split
              · exact h.eq rfl rfl rfl rfl
              · by_cases hE : removeE (lastE f.S f.ws) x.a = 0
                · rw [if_pos hE]
                  have hc := (remove_ok hE).1
                  refine h.le rfl rfl (fun j _ e => ?_) (fun j _ => Nat.le_refl _)
                  rcases lnk_snoc (f := f) e rfl rfl o.last hc with e | ⟨e, _⟩
                  · exact e
                  · exfalso
                    have e : x.a = [] := e
                    unfold removeE at hE
                    rw [e, o.last.no_empty] at hE
                    simp at hE
                · rw [if_neg hE]
                  exact h.eq rfl rfl rfl rfl
            · split
              · refine h.le (crDs_len _ _ _ _ _) rfl (fun j _ e => ?_) (fun j hj => ?_)
                · have e : (made [] j || (idIn (lastE (lastE f.S (f.ws.take x.nm.toNat)) []) j || idIn (lastE f.S (f.ws.take x.nm.toNat)) j)) = true := e
                  have e : idIn (lastE f.S (f.ws.take x.nm.toNat)) j = true := by
                    simp only [Bool.or_eq_true] at e
                    rcases e with e | e | e
                    · cases e
                    · exact e
                    · exact e
                  show lnk f j = true
                  have hl := linked_eq o.wf o.ok j
                  have hl : ((sts f.S f.ws).any fun l => idIn l j) = lnk f j := hl
                  rw [← hl, List.any_eq_true]
                  have hg := sts_get f.S f.ws (min x.nm.toNat f.ws.length) (by omega)
                  have et : f.ws.take (min x.nm.toNat f.ws.length) = f.ws.take x.nm.toNat := by
                    rw [List.take_eq_take_iff]
                    omega
                  rw [et] at hg
                  exact ⟨_, List.mem_of_getElem? hg, e⟩
                · obtain ⟨m, k, e⟩ := crDs_at f.ds x.nk kb x.fill (i := j) f.ds.length hj (Nat.le_refl _)
                  show ((crDs f.ds x.nk kb x.fill f.ds.length).getD j emptySt).size ≤ _
                  rw [e, crash_size]
                  exact Nat.le_refl _
              · exact h.eq rfl rfl rfl rfl
theorem Usd.new (cap : Int) : Usd (newFst cap) := (cap_range cap).1
theorem Fb.newc (cap : Int) : Fb (newFst cap) 0 := ⟨newFst_ok cap, Int.le_refl _, Int.le_refl _, Nat.le_refl _, Nat.le_refl _, fun s hs => by cases hs⟩
end Go.Proofs.YtlgkcbdpaffigaaGreat

namespace Go.Proofs.YtlgkcbdpaffigaaGreat
open Go Go.SX Go.Proofs
set_option maxRecDepth 100000
set_option linter.unusedVariables false
set_option linter.unusedSimpArgs false
theorem endz {w0 w1 : World} {bs : List Nat} (hb : ∀ b ∈ bs, b < w1.heap.size) (k : Kp (fun i => w0.heap.size ≤ i) w0 w1) {P : World → Prop} : Rets Tryz.prog 6 #[] w1 fun v w' => ∃ t, v = .bool t ∧ Keeps w1 w' bs ∧ (P w' → ∃ v', Ending.returned (.bool t) = Ending.returned v' ∧ v' = .bool true ∧ Kp none_ w0 w') := by
  refine (c23 w1).mono ?_
  rintro v w2 ⟨rfl, k2⟩
  exact ⟨_, rfl, k2.keeps fun b hm => ⟨hb b hm, id⟩, fun _ => ⟨_, rfl, rfl, (k.trans k2.wide).narrow (Nat.le_refl _)⟩⟩
theorem endz0 {w0 w1 : World} (k : Kp (fun i => w0.heap.size ≤ i) w0 w1) : Rets Tryz.prog 6 #[] w1 fun v w' => ∃ t, v = .bool t ∧ Keeps w1 w' [] ∧ (∃ v', Ending.returned (.bool t) = Ending.returned v' ∧ v' = .bool true ∧ Kp none_ w0 w') := by
  refine (endz (bs := []) (fun b hb => by cases hb) k (P := fun _ => True)).mono ?_
  rintro v w2 ⟨t, h1, h2, h3⟩
  exact ⟨t, h1, h2, h3 trivial⟩
/-- Two new file systems. -/
theorem dbl_new {E : Nat} {w1 w2 w3 : World} {Q : Nat → Prop} {cap : Int} (d2 : FSD w2 (fun i => w1.heap.size ≤ i) w1.heap.size (newFst cap)) (r3 : FRD E w3 (fun i => w2.heap.size ≤ i) w2.heap.size (newFst cap) []) (k2 : Kp none_ w1 w2) (k3 : Kp none_ w2 w3) (hE : E ≤ w1.heap.size) (hQ : ∀ i, w1.heap.size ≤ i → Q i) : Dbl E w3 Q w1.heap.size w2.heap.size (newFst cap) := by
  have z2 := k2.size
  have z3 := k3.size
  refine ⟨fun i => w1.heap.size ≤ i ∧ i < w2.heap.size, fun i => w2.heap.size ≤ i ∧ i < w3.heap.size, [], d2.kp k3 fun x hl hx => ⟨id, hx, hl⟩, r3.kp (Kp.refl none_ _) (fun i hi => hi.elim) (fun i hil hi => ⟨id, hi, hil⟩) (fun i hi => by have := hi.1; omega), fun i hi hh => by have := hi.2; have := hh.1; omega, fun i hi => ?_, fun i hi => by have := hi.1; omega⟩
  rcases hi with ⟨hi, hh⟩ | ⟨hi, hh⟩ <;> exact ⟨hQ i (by omega), by omega⟩
theorem op_row {w W : World} {q : Option Addr} {l : List Opz} (h : RowsAt w 10 opzC q l) {S : Nat → Prop} (k : Kp S w W) (hS : ∀ i, S i → w.heap.size ≤ i) : RowsAt W 10 opzC q l := h.kp k fun h0 a e hh => by
  obtain ⟨a', e', hc⟩ := h 0 h0
  rw [e] at e'
  cases e'
  have := cell_lt (hc 0 _ rfl)
  rw [add_block, add_block] at this
  have := hS _ hh
  omega
theorem plays3 {w : World} (cap : Int) {q : Option Addr} {c : Nat} {l : List Opz} (h : RowsAt w 10 opzC q l) (hl : ∀ x ∈ l, OpzRaw w x) : Rets Tryz.prog 3 #[.int .i64 cap, .slice q l.length c] w fun v w' => v = .bool true ∧ Kp none_ w w' := by
  refine ent [_, _] Tryz.func3 ((vcTryz3 _ _ _ _ w _).mpr ?_)
  unfold VCTryz3
  refine (c22 h).mono ?_
  rintro v w1 ⟨e, t, rfl, ht⟩
  obtain rfl := e.symm
  refine ⟨_, rfl, (Kp.refl none_ _).keeps0, bif_b (fun _ => endz0 (Kp.refl _ _)) (fun htf => ?_)⟩
  obtain ⟨hlen, hsm⟩ := ht htf
  refine (c24F cap w).mono ?_
  rintro v w2 ⟨rfl, d2, k2⟩
  refine ⟨_, rfl, k2.keeps0, (c25 (E := w.heap.size) cap w2 k2.size).mono ?_⟩
  rintro v w3 ⟨rfl, r3, k3⟩
  refine ⟨_, rfl, k3.keeps0, ?_⟩
  have D0 := dbl_new (Q := fun i => w.heap.size ≤ i) d2 r3 k2 k3 (Nat.le_refl _) (fun i hi => hi)
  have K3 : Kp (fun i => w.heap.size ≤ i) w w3 := k2.wide.trans k3.wide
  refine ⟨fun i w' => ∃ (j : Nat) (f : Fst), i = j ∧ j ≤ l.length ∧ Dbl w.heap.size w' (fun i => w.heap.size ≤ i) w.heap.size w2.heap.size f ∧ Fb f j ∧ Idk f ∧ Kp (fun i => w.heap.size ≤ i) w w', fun i _ => (l.length - i).toNat, ⟨0, _, rfl, by omega, D0, Fb.newc cap, Idk.new cap, K3⟩, ?_⟩
  rintro i w4 ⟨j, f, rfl, hj, D4, fb, hid, K4⟩
  have z4 := K4.size
  refine bif_dec (fun hi => ?_) (fun hi => endz0 K4)
  have hjl : j < l.length := by omega
  have sm := hsm _ (List.getElem_mem hjl)
  obtain ⟨bf', kb', nl', gi⟩ := opzIn_of (hl _ (List.getElem_mem hjl)) sm
  have gi4 := gi.kp K4 fun i hi => hi
  refine ⟨⟨by omega, hi⟩, (op_row h K4 fun i hi => hi).get hjl fun a ea hc => ⟨_, _, _, _, _, _, _, _, _, _, _, _, _, _, _, _, ⟨hc 0 _ rfl, hc 1 _ rfl, hc 2 _ rfl, hc 3 _ rfl, hc 4 _ rfl, hc 5 _ rfl, hc 6 _ rfl, hc 7 _ rfl, hc 8 _ rfl, hc 9 _ rfl, trivial⟩, ?_⟩⟩
  have kb4 := fb.k
  have rb4 := fb.r
  refine (c26 D4 fb.ok (by omega) (by omega) (fun s hs => by have := (fb.st s hs).2; omega) l[j] gi4).mono ?_
  rintro v w5 ⟨rfl, D5, K5⟩
  have K5' : Kp (fun i => w.heap.size ≤ i) w4 w5 := K5.mono fun i _ hi => hi.1
  have D5' := D5.mono (Q' := fun i => w.heap.size ≤ i) (fun i _ hi => by rcases hi with hi | hi; exact hi; omega)
  have fb5 := fb.op (by omega) l[j] sm bf' kb' nl' gi4.nl
  have id5 := hid.op fb.ok l[j] bf' kb' nl'
  refine ⟨_, rfl, K5.keeps0, bif_not (fun hh => by cases hh) fun _ => ?_⟩
  obtain ⟨Op, Om, H, hp5, hm5, _⟩ := id D5'
  refine (z10 hp5 (FRW.of hm5) fb5.ok id5 (fun s hs => by have := (fb5.st s hs).2; omega)).mono ?_
  rintro v w6 ⟨rfl, k6⟩
  have D6 : Dbl w.heap.size w6 (fun i => w.heap.size ≤ i) w.heap.size w2.heap.size (opF f l[j] bf' kb' nl') := by
    have z6 := k6.size
    obtain ⟨Op, Om, H, g1, g2, g3, g4, g5⟩ := D5'
    exact ⟨Op, Om, H, g1.kp0 k6, g2.kp0 k6, g3, fun i hi => ⟨(g4 i hi).1, Nat.lt_of_lt_of_le (g4 i hi).2 z6⟩, g5⟩
  exact ⟨_, rfl, k6.keeps0, bif_not (fun hh => by cases hh) fun _ => wr64 (by omega) ⟨⟨j + 1, _, by omega, by omega, D6, fb5, id5, (K4.trans K5').trans k6.wide⟩, by first | omega | (dsimp only; omega)⟩⟩
end Go.Proofs.YtlgkcbdpaffigaaGreat

