import Derived.Test.YtlgkcbdpaffigaaBp
namespace Go.Proofs.Ytlgkcbdpaffigaa
open Go Go.SX Go.Proofs Go.Lib
set_option maxRecDepth 100000
set_option linter.unusedVariables false
set_option linter.unusedSimpArgs false
/-- Both disks, in one world, with what is new since a world of so many blocks. -/
structure Two (E : Nat) (w : World) (cD cM : Col) (d m : Nat) (s : St) : Prop where
  dsk : Dsk w cD d s
  rdsk : RDsk w cM m s
  dis : ∀ i, cD i ≠ 0 → cM i = 0
  newD : ∀ i, cD i ≠ 0 → E ≤ i
  newM : ∀ i, cM i ≠ 0 → E ≤ i
def opSt (s : St) (o : OpD) : St := if o.k = 0 then (if rightF o.x o.nb = true ∧ o.nb ≠ 0 then writeSt s o.x o.nb o.b else s) else if o.k = 1 then syncSt s else crashSt s o.nk o.kb o.fill
section
variable {w w' : World} {cD cM : Col} {d m E : Nat} {s : St}
theorem grow_ok {col col' : Col} (h : Grow col col' w w') (lt : ∀ i, col i ≠ 0 → i < w.heap.size) {E : Nat} (hE : E ≤ w.heap.size) (hn : ∀ i, col i ≠ 0 → E ≤ i) : ∀ i, col' i ≠ 0 → E ≤ i := fun i hi => by
  by_cases c : i < w.heap.size
  · exact hn i (by rw [← h.1 i c]; exact hi)
  · omega
theorem grow_dis {col col' c2 : Col} (h : Grow col col' w w') (lt2 : ∀ i, c2 i ≠ 0 → i < w.heap.size) (hd : ∀ i, col i ≠ 0 → c2 i = 0) : ∀ i, col' i ≠ 0 → c2 i = 0 := fun i hi => by
  by_cases c : i < w.heap.size
  · exact hd i (by rw [← h.1 i c]; exact hi)
  · by_cases e : c2 i = 0
    · exact e
    · exact absurd (lt2 i e) c
theorem Two.kp0 (h : Two E w cD cM d m s) (hk : Kp none_ w w') : Two E w' cD cM d m s := ⟨h.dsk.kp0 hk, h.rdsk.kp0 hk, h.dis, h.newD, h.newM⟩
/-- The program's disk goes on. -/
theorem Two.stepD (h : Two E w cD cM d m s) (hE : E ≤ w.heap.size) {cD' : Col} {s' : St} (hk : Kp (ownC cD) w w') (hg : Grow cD cD' w w') (hd : Dsk w' cD' d s') : Dsk w' cD' d s' ∧ RDsk w' cM m s ∧ (∀ i, cD' i ≠ 0 → cM i = 0) ∧ (∀ i, cD' i ≠ 0 → E ≤ i) ∧ ∀ i, cM i ≠ 0 → E ≤ i :=
  ⟨hd, h.rdsk.kp hk fun i hi => h.dis i hi, grow_dis hg h.rdsk.lt h.dis, grow_ok hg h.dsk.lt hE h.newD, h.newM⟩
theorem stepM {s' : St} (h : Dsk w cD d s' ∧ RDsk w cM m s ∧ (∀ i, cD i ≠ 0 → cM i = 0) ∧ (∀ i, cD i ≠ 0 → E ≤ i) ∧ ∀ i, cM i ≠ 0 → E ≤ i) (hE : E ≤ w.heap.size) {cM' : Col} (hk : Kp (ownC cM) w w') (hg : Grow cM cM' w w') (hd : RDsk w' cM' m s') : Two E w' cD cM' d m s' := by
  obtain ⟨h1, h2, h3, h4, h5⟩ := h
  have h3' : ∀ i, cM i ≠ 0 → cD i = 0 := fun i hi => by
    by_cases e : cD i = 0
    · exact e
    · exact absurd (h3 i e) hi
  have h3'' := grow_dis hg h1.lt h3'
  refine ⟨h1.kp hk fun i hi => h3' i hi, hd, fun i hi => ?_, h4, grow_ok hg h2.lt hE h5⟩
  by_cases e : cM' i = 0
  · exact e
  · exact absurd (h3'' i e) hi
theorem slice_blk {q : Option Addr} {n : Nat} {b : Int → Int} {k : IntKind} {E : Nat} {W : World} {col : Col} (h : Ints W k q n b) (hE : W.heap.size ≤ E) (hc : ∀ i, col i ≠ 0 → E ≤ i) : 0 < n → ∀ a, q = some a → col a.block = 0 := fun h0 a ha => by
  obtain ⟨a', e, hcl⟩ := h 0 (by omega) (by omega)
  rw [ha] at e
  cases e
  have := cell_lt hcl
  rw [add_block] at this
  by_cases e : col a.block = 0
  · exact e
  · have := hc _ e; omega
theorem bools_blk {q : Option Addr} {n : Nat} {b : Nat → Bool} {E : Nat} {W : World} {col : Col} (h : Bools W q n b) (hE : W.heap.size ≤ E) (hc : ∀ i, col i ≠ 0 → E ≤ i) : 0 < n → ∀ a, q = some a → col a.block = 0 := fun h0 a ha => by
  obtain ⟨a', e, hcl⟩ := h 0 h0
  rw [ha] at e
  cases e
  have := cell_lt hcl
  rw [add_block] at this
  by_cases e : col a.block = 0
  · exact e
  · have := hc _ e; omega
theorem c14 {W : World} (h : Two W.heap.size w cD cM d m s) (kW : Kp (fun i => W.heap.size ≤ i) W w) {o : OpD} (ho : o.Good W) (hl : s.wait.length ≤ 80000) :
    Rets Try.prog 14 #[.pointer (some ⟨d, 0, none⟩), .pointer (some ⟨m, 0, none⟩), o.args] w fun v w' => v = .bool true ∧ Kp (fun i => W.heap.size ≤ i) W w' ∧ Kp (fun i => W.heap.size ≤ i) w w' ∧ ∃ cD' cM', Two W.heap.size w' cD' cM' d m (opSt s o) := by
  refine ent [_, _, _] Try.func14 ((vcTry14 _ _ _ _ _ _ _ _ _ _ _ w _).mpr ?_)
  unfold VCTry14
  have ka : Kp none_ w (w.alloc (Obj.cells #[Value.int IntKind.i64 o.k, Value.int IntKind.i64 o.x, Value.slice o.qb o.nb o.cb, Value.slice o.qk o.nk o.ck, Value.int IntKind.u8 o.fill] 39)) := (Kp.refl none_ w).alloc _ _
  have hE := kW.size
  have h1 := h.kp0 ka
  have c2 : (w.alloc (Obj.cells #[Value.int IntKind.i64 o.k, Value.int IntKind.i64 o.x, Value.slice o.qb o.nb o.cb, Value.slice o.qk o.nk o.ck, Value.int IntKind.u8 o.fill] 39)).cell? ⟨w.heap.size, 2, none⟩ = some (.slice o.qb o.nb o.cb) := cell_alloc_new rfl
  have c1 : (w.alloc (Obj.cells #[Value.int IntKind.i64 o.k, Value.int IntKind.i64 o.x, Value.slice o.qb o.nb o.cb, Value.slice o.qk o.nk o.ck, Value.int IntKind.u8 o.fill] 39)).cell? ⟨w.heap.size, 1, none⟩ = some (.int .i64 o.x) := cell_alloc_new rfl
  have sz : (w.alloc (Obj.cells #[Value.int IntKind.i64 o.k, Value.int IntKind.i64 o.x, Value.slice o.qb o.nb o.cb, Value.slice o.qk o.nk o.ck, Value.int IntKind.u8 o.fill] 39)).heap.size = w.heap.size + 1 := alloc_size _ _
  generalize w.alloc (Obj.cells #[Value.int IntKind.i64 o.k, Value.int IntKind.i64 o.x, Value.slice o.qb o.nb o.cb, Value.slice o.qk o.nk o.ck, Value.int IntKind.u8 o.fill] 39) = w1 at *
  have nD : ¬ ownC cD w.heap.size := fun hh => by have := h.dsk.lt _ hh; omega
  have nM : ¬ ownC cM w.heap.size := fun hh => by have := h.rdsk.lt _ hh; omega
  have k1 : Kp (fun i => W.heap.size ≤ i) W w1 := kW.trans (ka.mono fun _ _ h => h.elim)
  have kd1 : Kp (fun i => W.heap.size ≤ i) w w1 := ka.mono fun _ _ h => h.elim
  -- the end of both steps
  have fin : ∀ (w2 w3 : World) (cD' cM' : Col), Kp (ownC cD) w1 w2 → Kp (ownC cM) w2 w3 → Two W.heap.size w3 cD' cM' d m (opSt s o) →
      Kp (fun i => W.heap.size ≤ i) W w3 ∧ Kp (fun i => W.heap.size ≤ i) w w3 ∧ ∃ cD' cM', Two W.heap.size w3 cD' cM' d m (opSt s o) := fun w2 w3 cD' cM' k2 k3 ht =>
    have k23 : Kp (fun i => W.heap.size ≤ i) w1 w3 := (k2.mono fun i _ hi => h.newD i hi).trans (k3.mono fun i _ hi => h.newM i hi)
    ⟨k1.trans k23, kd1.trans k23, cD', cM', ht⟩
  refine bif_eq (fun hk0 => ?_) (fun hk0 => bif_eq (fun hk1 => ?_) (fun hk1 => ?_))
  · intro _
    have h1d : Two W.heap.size w1.drew cD cM d m s := h1.kp0 (Kp.refl none_ w1).drew
    have k1d : Kp (fun i => W.heap.size ≤ i) W w1.drew := k1.drew
    refine (c20 h1d.dsk (Ints.far ho.bytes k1d (Nat.le_refl _)) ho.byte (slice_blk ho.bytes (Nat.le_refl _) h.newD) (by omega) o.x).mono ?_
    rintro v w2 ⟨rfl, k2, cD', g2, d2⟩
    have k2' : Kp (ownC cD) w1 w2 := k2.of_drew
    refine ⟨_, rfl, k2.keeps (fun i hi => ⟨by simp at hi; rw [drew_size]; omega, by simp at hi; rw [hi]; exact nD⟩), k2'.cell c2 nD, k2'.cell c1 nD, ?_⟩
    intro _
    have t2 := h1d.stepD (by rw [drew_size]; omega) k2 g2 d2
    have k12 : Kp (fun i => W.heap.size ≤ i) W w2 := k1.trans (k2'.mono fun i _ hi => h.newD i hi)
    refine (c58 t2.2.1 (Ints.far ho.bytes k12 (Nat.le_refl _)) ho.byte ho.cap (slice_blk ho.bytes (Nat.le_refl _) h.newM) (by omega) o.x).mono ?_
    rintro v w3 ⟨rfl, k3, cM', g3, d3⟩
    have z2 := k2'.size
    have t3 := stepM t2 (by omega) k3 g3 d3
    refine ⟨_, rfl, k3.keeps (fun i hi => ⟨by simp at hi; omega, by simp at hi; rw [hi]; exact nM⟩), ?_⟩
    intro _
    have e : opSt s o = if rightF o.x o.nb = true ∧ o.nb ≠ 0 then writeSt s o.x o.nb o.b else s := if_pos hk0
    rw [← e] at t3
    exact ⟨_, rfl, by rw [beq_self_eq_true], fin w2 w3 cD' cM' k2' k3 t3⟩
  · intro _
    refine (c16 h1.dsk).mono ?_
    rintro v w2 ⟨rfl, k2, cD', g2, d2⟩
    refine ⟨rfl, k2.keeps (fun i hi => ⟨by simp at hi; omega, by simp at hi; rw [hi]; exact nD⟩), ?_⟩
    intro _
    have t2 := h1.stepD (by omega) k2 g2 d2
    refine (c59 t2.2.1).mono ?_
    rintro v w3 ⟨rfl, k3, d3⟩
    have z2 := k2.size
    have t3 := stepM t2 (by omega) k3 (Grow.refl t2.2.1.lt k3.size) d3
    refine ⟨rfl, k3.keeps (fun i hi => ⟨by simp at hi; omega, by simp at hi; rw [hi]; exact nM⟩), ?_⟩
    intro _
    have e : opSt s o = syncSt s := (if_neg hk0).trans (if_pos hk1)
    rw [← e] at t3
    exact ⟨_, rfl, rfl, fin w2 w3 cD' cM k2 k3 t3⟩
  · intro _
    refine (c19 h1.dsk (ho.bools.far k1 (Nat.le_refl _)) (bools_blk ho.bools (Nat.le_refl _) h.newD) o.fill ho.fill (by omega)).mono ?_
    rintro v w2 ⟨rfl, k2, cD', g2, d2⟩
    refine ⟨rfl, k2.keeps (fun i hi => ⟨by simp at hi; omega, by simp at hi; rw [hi]; exact nD⟩), ?_⟩
    intro _
    have t2 := h1.stepD (by omega) k2 g2 d2
    have k12 : Kp (fun i => W.heap.size ≤ i) W w2 := k1.trans (k2.mono fun i _ hi => h.newD i hi)
    refine (c60 t2.2.1 (ho.bools.far k12 (Nat.le_refl _)) (bools_blk ho.bools (Nat.le_refl _) h.newM) o.fill ho.fill (by omega)).mono ?_
    rintro v w3 ⟨rfl, k3, d3⟩
    have z2 := k2.size
    have t3 := stepM t2 (by omega) k3 (Grow.refl t2.2.1.lt k3.size) d3
    refine ⟨rfl, k3.keeps (fun i hi => ⟨by simp at hi; omega, by simp at hi; rw [hi]; exact nM⟩), ?_⟩
    intro _
    have e : opSt s o = crashSt s o.nk o.kb o.fill := (if_neg hk0).trans (if_neg hk1)
    rw [← e] at t3
    exact ⟨_, rfl, rfl, fin w2 w3 cD' cM k2 k3 t3⟩
theorem readF_byte {s : St} (h : s.Ok) (at_ p : Int) : isByte (readF s at_ p) := by
  unfold readF
  split
  · exact h.now _
  · unfold isByte; decide
theorem c15 (h : Two E w cD cM d m s) : Rets Try.prog 15 #[.pointer (some ⟨d, 0, none⟩), .pointer (some ⟨m, 0, none⟩)] w fun v w' => v = .bool true ∧ Kp none_ w w' := by
  refine ent [_, _] Try.func15 ((vcTry15 _ _ w _).mpr ?_)
  unfold VCTry15
  have hs := h.dsk.ok.size
  obtain ⟨q0, c0, l0⟩ := h.rdsk.now.len
  obtain ⟨q3, c3, l3⟩ := h.rdsk.wait.len
  simp only [ptr_some, ad_add, Nat.zero_add, Nat.add_zero]
  have e1 : (512 : Int) * (s.size : Nat) = ((512 * s.size : Nat) : Int) := by omega
  have hr : rightF 0 ((512 * s.size : Nat) : Int) = true := by unfold rightF; exact decide_eq_true (by omega)
  refine ⟨_, _, _, l0, wr64 (by omega) ?_⟩
  rw [e1]
  refine (c17 h.dsk 0 (512 * s.size) hr (by omega)).mono ?_
  rintro v w1 ⟨q1, c1, rfl, k1, r1⟩
  have h1 := h.kp0 k1
  have l0a := k1.cell0 l0
  have l3a := k1.cell0 l3
  refine ⟨_, _, _, _, rfl, k1.keeps0, ?_⟩
  show cond true _ _
  simp only [cond_true]
  have h1d := h1.kp0 (Kp.refl none_ w1).drew
  refine ⟨_, _, _, l0a, (c18 h1d.dsk).mono ?_⟩
  rintro v wx ⟨rfl, e⟩
  obtain rfl := e.symm
  refine ⟨_, rfl, (Kp.refl none_ _).keeps0, l0a, ?_⟩
  rw [beq_self_eq_true]
  simp only [cond_true]
  refine ⟨_, _, _, l3a, (c21 h1d.dsk).mono ?_⟩
  rintro v wx ⟨rfl, e⟩
  obtain rfl := e.symm
  refine ⟨_, rfl, (Kp.refl none_ _).keeps0, l3a, ?_⟩
  rw [beq_self_eq_true]
  simp only [cond_true]
  have hrb := row_bytes r1 (readF_byte h.dsk.ok 0)
  refine ⟨strOf (readF s 0) 0 (512 * s.size), strOf_size _ _ _, hrb, _, _, _, l0a, wr64 (by omega) ?_⟩
  rw [e1]
  refine (c61 h1d.rdsk 0 (512 * s.size) hr).mono ?_
  rintro v w2 ⟨q2, c2, rfl, k2, r2⟩
  have k2' : Kp none_ w1 w2 := k2.of_drew
  refine ⟨_, _, _, rfl, k2.keeps0, fun i hi => ?_, strOf (readF s 0) 0 (512 * s.size), strOf_size _ _ _, row_bytes r2 (readF_byte h.dsk.ok 0), _, rfl, by rw [beq_self_eq_true], k1.trans k2'⟩
  obtain ⟨a, e, hc⟩ := hrb i hi
  exact ⟨a, e, k2'.cell0 hc⟩
end
end Go.Proofs.Ytlgkcbdpaffigaa
