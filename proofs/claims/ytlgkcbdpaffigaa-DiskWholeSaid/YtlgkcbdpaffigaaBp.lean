import Derived.Test.YtlgkcbdpaffigaaBh
import Derived.Test.YtlgkcbdpaffigaaBo
import Derived.Test.YtlgkcbdpaffigaaVcc
namespace Go.Proofs.Ytlgkcbdpaffigaa
open Go Go.SX Go.Proofs Go.Lib
set_option maxRecDepth 100000
set_option linter.unusedVariables false
set_option linter.unusedSimpArgs false
/-! ### Calls, in memory -/
structure OpD where
  k : Int
  x : Int
  qb : Option Addr
  nb : Nat
  cb : Nat
  b : Int → Int
  qk : Option Addr
  nk : Nat
  ck : Nat
  kb : Nat → Bool
  fill : Int
structure OpD.Good (o : OpD) (W : World) : Prop where
  cap : o.nb ≤ o.cb
  bytes : Ints W .u8 o.qb o.nb o.b
  byte : ∀ i : Int, 0 ≤ i → i < o.nb → isByte (o.b i)
  bools : Bools W o.qk o.nk o.kb
  fill : isByte o.fill
def OpD.args (o : OpD) : Value := .agg #[.int .i64 o.k, .int .i64 o.x, .slice o.qb o.nb o.cb, .slice o.qk o.nk o.ck, .int .u8 o.fill]
structure OpAt (w : World) (a : Addr) (o : OpD) : Prop where
  k : w.cell? (a.add 0) = some (.int .i64 o.k)
  x : w.cell? (a.add 1) = some (.int .i64 o.x)
  b : w.cell? (a.add 2) = some (.slice o.qb o.nb o.cb)
  q : w.cell? (a.add 3) = some (.slice o.qk o.nk o.ck)
  fill : w.cell? (a.add 4) = some (.int .u8 o.fill)
def OpsMem (w : World) (q : Option Addr) (n : Nat) (ops : Nat → OpD) : Prop := ∀ i, i < n → ∃ a, q = some a ∧ OpAt w (a.add (i * 5)) (ops i) ∧ (ops i).Good w
section
variable {w w' : World} {col col' : Col} {D : Nat} {s : St}
theorem Ints.far {E : Nat} {k : IntKind} {q : Option Addr} {n : Nat} {b : Int → Int} (h : Ints w k q n b) (hk : Kp (fun i => E ≤ i) w w') (hE : w.heap.size ≤ E) : Ints w' k q n b := h.kp hk fun h0 a ha hh => by
  obtain ⟨a', e, hc⟩ := h 0 (by omega) (by omega)
  rw [ha] at e
  cases e
  have := cell_lt hc
  rw [add_block] at this
  omega
theorem Bools.far {E : Nat} {q : Option Addr} {n : Nat} {b : Nat → Bool} (h : Bools w q n b) (hk : Kp (fun i => E ≤ i) w w') (hE : w.heap.size ≤ E) : Bools w' q n b := h.kp hk fun h0 a ha hh => by
  obtain ⟨a', e, hc⟩ := h 0 h0
  rw [ha] at e
  cases e
  have := cell_lt hc
  rw [add_block] at this
  omega
theorem OpD.Good.far {E : Nat} {o : OpD} (h : o.Good w) (hk : Kp (fun i => E ≤ i) w w') (hE : w.heap.size ≤ E) : o.Good w' := ⟨h.cap, Ints.far h.bytes hk hE, h.byte, h.bools.far hk hE, h.fill⟩
theorem cell_far {E : Nat} {a : Addr} {v : Value} (h : w.cell? a = some v) (hk : Kp (fun i => E ≤ i) w w') (hE : w.heap.size ≤ E) : w'.cell? a = some v := hk.cell h fun hh => by have := cell_lt h; omega
theorem OpAt.far {E : Nat} {a : Addr} {o : OpD} (h : OpAt w a o) (hk : Kp (fun i => E ≤ i) w w') (hE : w.heap.size ≤ E) : OpAt w' a o := ⟨cell_far h.k hk hE, cell_far h.x hk hE, cell_far h.b hk hE, cell_far h.q hk hE, cell_far h.fill hk hE⟩
theorem OpsMem.far {E : Nat} {q : Option Addr} {n : Nat} {ops : Nat → OpD} (h : OpsMem w q n ops) (hk : Kp (fun i => E ≤ i) w w') (hE : w.heap.size ≤ E) : OpsMem w' q n ops := fun i hi => by
  obtain ⟨a, e, h1, h2⟩ := h i hi
  exact ⟨a, e, h1.far hk hE, h2.far hk hE⟩
theorem c12 {q : Option Addr} {n c : Nat} {ops : Nat → OpD} (h : OpsMem w q n ops) : Rets Try.prog 12 #[.slice q n c] w fun v w' => ∃ t : Bool, v = .bool t ∧ w' = w ∧ (t = true → n ≤ 40 ∧ ∀ i, i < n → (ops i).nb ≤ 3000) := by
  refine ent [_] Try.func12 ((vcTry12 _ _ _ w _).mpr ?_)
  unfold VCTry12
  refine bif_dec (fun hn => ⟨_, rfl, false, rfl, rfl, fun h => by cases h⟩) (fun hn => ?_)
  refine ⟨fun i w' => ∃ k : Nat, i = k ∧ k ≤ n ∧ w' = w ∧ ∀ j, j < k → (ops j).nb ≤ 3000, fun i _ => (n - i).toNat, ⟨0, rfl, by omega, rfl, fun j hj => by omega⟩, ?_⟩
  rintro i w1 ⟨k, rfl, hk, rfl, hall⟩
  refine bif_dec (fun hlt => ⟨by omega, ?_⟩) (fun hge => ⟨_, rfl, true, rfl, rfl, fun _ => ⟨by omega, fun i hi => hall i (by omega)⟩⟩)
  obtain ⟨a, rfl, h1, h2⟩ := h k (by omega)
  simp only [ptr_some, Int.toNat_natCast]
  have next : (ops k).nb ≤ 3000 → (∃ k' : Nat, (k : Int) + 1 = k' ∧ k' ≤ n ∧ True ∧ ∀ j, j < k' → (ops j).nb ≤ 3000) ∧ (n - ((k : Int) + 1)).toNat < (n - (k : Int)).toNat := fun h3 =>
    ⟨⟨k + 1, by omega, by omega, trivial, fun j hj => by
      by_cases e : j = k
      · rw [e]; exact h3
      · exact hall j (by omega)⟩, by omega⟩
  refine ⟨_, _, _, h1.b, bif_dec (fun hb => ⟨_, rfl, false, rfl, by trivial, fun h => by cases h⟩) (fun hb => ⟨by omega, ?_⟩)⟩
  try simp only [ptr_some, Int.toNat_natCast]
  refine ⟨_, h1.x, bif_dec (fun hx => ⟨by omega, ?_⟩) (fun hx => wr64 (by omega) (next (by omega)))⟩
  try simp only [ptr_some, Int.toNat_natCast]
  exact ⟨_, h1.x, bif_dec (fun hx2 => ⟨_, rfl, false, rfl, by trivial, fun h => by cases h⟩) (fun hx2 => wr64 (by omega) (next (by omega)))⟩
/-! ### Disks, new -/
def emptySt : St := ⟨0, fun _ => 0, fun _ => false, fun _ => 0, []⟩
theorem empty_ok : emptySt.Ok := ⟨by decide, fun _ => (by decide : 0 ≤ (0 : Int) ∧ (0 : Int) < 256), fun _ => (by decide : 0 ≤ (0 : Int) ∧ (0 : Int) < 256), fun e he => by simp [emptySt] at he⟩
def newCol (D : Nat) : Col := fun i => if i = D then 1 else 0
theorem newCol_D (D : Nat) : newCol D D = 1 := if_pos rfl
theorem newCol_ne {D i : Nat} (h : newCol D i ≠ 0) : i = D := by
  unfold newCol at h
  by_cases e : i = D
  · exact e
  · rw [if_neg e] at h; exact absurd rfl h
theorem Dsk.new (hl : D < w.heap.size) (hf : ∀ o, w.frozen? ⟨D, o, none⟩ = false) (h0 : w.cell? ⟨D, 0, none⟩ = some (.slice none 0 0)) (h1 : w.cell? ⟨D, 1, none⟩ = some (.slice none 0 0)) (h2 : w.cell? ⟨D, 2, none⟩ = some (.slice none 0 0)) : Dsk w (newCol D) D emptySt :=
  ⟨newCol_D D, fun i hi => by rw [newCol_ne hi]; exact hl, hf, ⟨none, 0, h0, OwnRow.nil _ _ _ _⟩, ⟨none, 0, [], h1, OwnRow.nil _ _ _ _, fun i hi => by cases hi⟩, ⟨none, 0, [], h2, OwnRow.nil _ _ _ _, fun k e he => by simp [emptySt] at he⟩, empty_ok⟩
theorem RDsk.new (hl : D < w.heap.size) (hf : ∀ o, w.frozen? ⟨D, o, none⟩ = false) (h0 : w.cell? ⟨D, 0, none⟩ = some (.slice none 0 0)) (h1 : w.cell? ⟨D, 1, none⟩ = some (.slice none 0 0)) (h2 : w.cell? ⟨D, 2, none⟩ = some (.slice none 0 0)) (h3 : w.cell? ⟨D, 3, none⟩ = some (.slice none 0 0)) : RDsk w (newCol D) D emptySt :=
  ⟨newCol_D D, fun i hi => by rw [newCol_ne hi]; exact hl, hf, ⟨none, 0, h0, OwnRow.nil _ _ _ _⟩, ⟨[], ⟨none, 0, h1, OwnRow.nil _ _ _ _⟩, fun i hi => by cases hi⟩, ⟨none, 0, h2, OwnRow.nil _ _ _ _⟩, ⟨none, 0, h3, OwnRow.nil _ _ _ _⟩, empty_ok⟩
theorem Dsk.reads (h : Dsk w col D s) {K : Option Addr → Nat → Nat → Option Addr → Nat → Nat → Option Addr → Nat → Nat → Prop} (hK : ∀ q1 n1 c1 q2 n2 c2 q3 n3 c3, K q1 n1 c1 q2 n2 c2 q3 n3 c3) :
    ∃ q1 n1 c1, w.cell? ⟨D, 0, none⟩ = some (.slice q1 n1 c1) ∧ w.frozen? ⟨D, 0, none⟩ = false ∧ ∃ q2 n2 c2, w.cell? ⟨D, 1, none⟩ = some (.slice q2 n2 c2) ∧ w.frozen? ⟨D, 1, none⟩ = false ∧ ∃ q3 n3 c3, w.cell? ⟨D, 2, none⟩ = some (.slice q3 n3 c3) ∧ w.frozen? ⟨D, 2, none⟩ = false ∧ K q1 n1 c1 q2 n2 c2 q3 n3 c3 := by
  obtain ⟨q1, c1, h1, _⟩ := h.now
  obtain ⟨q2, c2, _, h2, _⟩ := h.safe
  obtain ⟨q3, c3, _, h3, _⟩ := h.wait
  exact ⟨_, _, _, h1, h.frz 0, _, _, _, h2, h.frz 1, _, _, _, h3, h.frz 2, hK _ _ _ _ _ _ _ _ _⟩
theorem RDsk.reads (h : RDsk w col D s) {K : Option Addr → Nat → Nat → Option Addr → Nat → Nat → Option Addr → Nat → Nat → Option Addr → Nat → Nat → Prop} (hK : ∀ q1 n1 c1 q2 n2 c2 q3 n3 c3 q4 n4 c4, K q1 n1 c1 q2 n2 c2 q3 n3 c3 q4 n4 c4) :
    ∃ q1 n1 c1, w.cell? ⟨D, 0, none⟩ = some (.slice q1 n1 c1) ∧ w.frozen? ⟨D, 0, none⟩ = false ∧ ∃ q2 n2 c2, w.cell? ⟨D, 1, none⟩ = some (.slice q2 n2 c2) ∧ w.frozen? ⟨D, 1, none⟩ = false ∧ ∃ q3 n3 c3, w.cell? ⟨D, 2, none⟩ = some (.slice q3 n3 c3) ∧ w.frozen? ⟨D, 2, none⟩ = false ∧ ∃ q4 n4 c4, w.cell? ⟨D, 3, none⟩ = some (.slice q4 n4 c4) ∧ w.frozen? ⟨D, 3, none⟩ = false ∧ K q1 n1 c1 q2 n2 c2 q3 n3 c3 q4 n4 c4 := by
  obtain ⟨q1, c1, h1⟩ := h.now.len
  obtain ⟨_, x, _⟩ := h.safe
  obtain ⟨q2, c2, h2⟩ := x.len
  obtain ⟨q3, c3, h3⟩ := h.has.len
  obtain ⟨q4, c4, h4⟩ := h.wait.len
  exact ⟨_, _, _, h1, h.frz 0, _, _, _, h2, h.frz 1, _, _, _, h3, h.frz 2, _, _, _, h4, h.frz 3, hK _ _ _ _ _ _ _ _ _ _ _ _⟩
theorem frozen_new (w : World) (cs : Array Value) (t : TypeId) (o : Nat) : (w.alloc (.cells cs t)).frozen? ⟨w.heap.size, o, none⟩ = false := by
  unfold World.frozen?; rw [alloc_get, if_pos rfl]; simp
theorem write_wait (s : St) (at_ : Int) (n : Nat) (b : Int → Int) : (writeSt s at_ n b).wait.length = s.wait.length + (hiF at_ n - loF at_) := by
  unfold writeSt
  show (s.wait ++ waits _ _ _).length = _
  rw [List.length_append]
  simp [waits]
theorem write_size (s : St) (at_ : Int) (n : Nat) (b : Int → Int) : (writeSt s at_ n b).size = max s.size (hiF at_ n) := growSt_size s _
theorem c13 (w : World) : Rets Try.prog 13 #[] w fun v w' => v = .bool true ∧ Kp none_ w w' := by
  refine ent [] Try.func13 ((vcTry13 w _).mpr ?_)
  unfold VCTry13
  intro _
  have k1 : Kp none_ w (w.alloc (.cells #[.slice none 0 0, .slice none 0 0, .slice none 0 0] 29)) := (Kp.refl none_ w).alloc _ _
  have d1 : Dsk (w.alloc (.cells #[.slice none 0 0, .slice none 0 0, .slice none 0 0] 29)) (newCol w.heap.size) w.heap.size emptySt := Dsk.new (by rw [alloc_size]; omega) (fun o => frozen_new _ _ _ _) (cell_alloc_new rfl) (cell_alloc_new rfl) (cell_alloc_new rfl)
  have s1 : (w.alloc (.cells #[.slice none 0 0, .slice none 0 0, .slice none 0 0] 29)).heap.size = w.heap.size + 1 := alloc_size _ _
  generalize w.alloc (.cells #[.slice none 0 0, .slice none 0 0, .slice none 0 0] 29) = w1 at *
  have k2 : Kp none_ w1 (w1.alloc (.cells #[.int .u8 1] 5)) := (Kp.refl none_ w1).alloc _ _
  have d2 := d1.kp0 k2
  have hi : Ints (w1.alloc (.cells #[.int .u8 1] 5)) .u8 (some ⟨w1.heap.size, 0, none⟩) 1 (fun _ => 1) := fun i h0 h1 => ⟨_, rfl, by
    have : i = 0 := by omega
    subst this
    rw [ad_add]
    exact cell_alloc_new rfl⟩
  have hne : newCol w.heap.size w1.heap.size = 0 := if_neg (by omega)
  refine (c20 d2 hi (fun _ _ _ => by unfold isByte; decide) (fun _ a ha => by cases ha; exact hne) (by decide) 600).mono ?_
  rintro v w3 ⟨rfl, k3, col3, g3, d3⟩
  have hr : rightF 600 ((1 : Nat) : Int) = true := by decide
  rw [if_pos ⟨hr, by decide⟩] at d3
  rw [if_pos hr]
  have hsz : (writeSt emptySt 600 1 fun _ => 1).size = 2 := by rw [write_size]; decide
  have hwt : (writeSt emptySt 600 1 fun _ => 1).wait.length = 1 := by rw [write_wait]; decide
  have kk : Kp none_ w w3 := (k1.trans k2).then k3 fun i hi hh => by
    have := newCol_ne hh
    omega
  refine ⟨_, rfl, k3.keeps (by intro b hb; cases hb), d3.reads fun _ _ _ _ _ _ _ _ _ => ?_⟩
  show cond true _ _
  simp only [cond_true]
  intro _
  refine (c18 d3).mono ?_
  rintro v wx ⟨rfl, e⟩
  obtain rfl := e.symm
  refine ⟨_, rfl, (Kp.refl none_ _).keeps0, d3.reads fun _ _ _ _ _ _ _ _ _ => ?_⟩
  rw [hsz]
  show cond true _ _
  simp only [cond_true]
  intro _
  refine (c21 d3).mono ?_
  rintro v wx ⟨rfl, e⟩
  obtain rfl := e.symm
  refine ⟨_, rfl, (Kp.refl none_ _).keeps0, d3.reads fun _ _ _ _ _ _ _ _ _ => ?_⟩
  intro _
  rw [hwt]
  exact ⟨_, rfl, rfl, kk⟩
end
end Go.Proofs.Ytlgkcbdpaffigaa
