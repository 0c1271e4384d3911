import Derived.Test.YtlgkcbdpaffigaaBa
import Derived.Test.YtlgkcbdpaffigaaVca
import Derived.Test.YtlgkcbdpaffigaaSxRows
namespace Go.Proofs.Ytlgkcbdpaffigaa
open Go Go.SX Go.Proofs
set_option maxRecDepth 100000
set_option linter.unusedVariables false
set_option linter.unusedSimpArgs false
/-! ### A disk's state -/
/-- Sectors: how many, what each is now, whether something is safe, what is; what waits, with its sector's number. Bytes stand at their places in the file. -/
structure St where
  size : Nat
  now : Int → Int
  has : Nat → Bool
  safe : Int → Int
  wait : List (Nat × (Int → Int))
def isByte (x : Int) : Prop := 0 ≤ x ∧ x < 256
structure St.Ok (s : St) : Prop where
  size : s.size ≤ 4096
  now : ∀ p, isByte (s.now p)
  safe : ∀ p, isByte (s.safe p)
  wait : ∀ e ∈ s.wait, e.1 < s.size ∧ ∀ p, isByte (e.2 p)
/-- Every block of one's own has a colour; 0: not one's own. -/
abbrev Col := Nat → Nat
def cl (col : Col) (k : Nat) : Nat → Prop := fun i => col i = k
def ownC (col : Col) : Nat → Prop := fun i => col i ≠ 0
/-- Colours of new blocks come to those that were. -/
def Grow (col col' : Col) (w w' : World) : Prop := (∀ i, i < w.heap.size → col' i = col i) ∧ ∀ i, col' i ≠ 0 → i < w'.heap.size
theorem Grow.trans {col c1 c2 : Col} {w w1 w2 : World} (h : Grow col c1 w w1) (k : Grow c1 c2 w1 w2) (hs : w.heap.size ≤ w1.heap.size) : Grow col c2 w w2 :=
  ⟨fun i hi => (k.1 i (by omega)).trans (h.1 i hi), k.2⟩
theorem Grow.refl {col : Col} {w w' : World} (h : ∀ i, col i ≠ 0 → i < w.heap.size) (hs : w.heap.size ≤ w'.heap.size) : Grow col col w w' := ⟨fun _ _ => rfl, fun i hi => Nat.lt_of_lt_of_le (h i hi) hs⟩
def byF (f : Int → Int) (n : Nat) : List Value := (List.range n).map fun i : Nat => .int .u8 (f i)
theorem byF_len (f : Int → Int) (n : Nat) : (byF f n).length = n := by simp [byF]
theorem byF_get (f : Int → Int) {n i : Nat} (h : i < n) : (byF f n)[i]? = some (.int .u8 (f i)) := by simp [byF, h]
/-- A sector's bytes, in a block that nobody changes. -/
def Sec (w : World) (col : Col) (a : Addr) (f : Int → Int) : Prop := col a.block = 5 ∧ ∀ j : Nat, j < 512 → w.cell? (a.add j) = some (.int .u8 (f j))
def secAt (f : Int → Int) (i : Nat) : Int → Int := fun j => f (512 * i + j)
structure Dsk (w : World) (col : Col) (D : Nat) (s : St) : Prop where
  colD : col D = 1
  lt : ∀ i, col i ≠ 0 → i < w.heap.size
  frz : ∀ o, w.frozen? ⟨D, o, none⟩ = false
  now : ∃ q c, w.cell? ⟨D, 0, none⟩ = some (.slice q (512 * s.size) c) ∧ OwnRow w (cl col 2) 5 1 (.slice q (512 * s.size) c) (512 * s.size) (byF s.now (512 * s.size))
  safe : ∃ q c xs, w.cell? ⟨D, 1, none⟩ = some (.slice q s.size c) ∧ OwnRow w (cl col 3) 25 1 (.slice q s.size c) s.size xs ∧
    ∀ i, i < s.size → (s.has i = false → xs[i]? = some (.slice none 0 0)) ∧ (s.has i = true → ∃ a c', xs[i]? = some (.slice (some a) 512 c') ∧ 512 ≤ c' ∧ Sec w col a (secAt s.safe i))
  wait : ∃ q c xs, w.cell? ⟨D, 2, none⟩ = some (.slice q s.wait.length c) ∧ OwnRow w (cl col 4) 118 2 (.slice q s.wait.length c) s.wait.length xs ∧
    ∀ k e, s.wait[k]? = some e → ∃ a c', xs[k * 2]? = some (.int .i64 e.1) ∧ xs[k * 2 + 1]? = some (.slice (some a) 512 c') ∧ 512 ≤ c' ∧ Sec w col a (secAt e.2 e.1)
  ok : s.Ok
section
variable {w w' : World} {col : Col} {D : Nat} {s : St}
theorem Sec.kp {S : Nat → Prop} {a : Addr} {f : Int → Int} (h : Sec w col a f) (hk : Kp S w w') (hs : ∀ i, S i → col i ≠ 5) : Sec w' col a f :=
  ⟨h.1, fun j hj => hk.cell (h.2 j hj) (by rw [add_block]; exact fun hh => hs _ hh h.1)⟩
/-- Nothing of it was changed. -/
theorem Dsk.kp {S : Nat → Prop} (h : Dsk w col D s) (hk : Kp S w w') (hs : ∀ i, S i → col i = 0) : Dsk w' col D s := by
  have ne : ∀ i k, col i = k → k ≠ 0 → ¬ S i := fun i k e hk hh => hk (by rw [← e]; exact hs i hh)
  have hD : ¬ S D := ne D 1 h.colD (by omega)
  obtain ⟨q1, c1, n1, n2⟩ := h.now
  obtain ⟨q2, c2, xs, s1, s2, s3⟩ := h.safe
  obtain ⟨q3, c3, ys, t1, t2, t3⟩ := h.wait
  have hDl : D < w.heap.size := cell_lt n1
  refine ⟨h.colD, fun i hi => Nat.lt_of_lt_of_le (h.lt i hi) hk.size, fun o => (hk.frz ⟨D, o, none⟩ hDl).trans (h.frz o), ⟨q1, c1, hk.cell n1 hD, n2.kp hk fun g _ _ _ hg => ne g 2 hg (by omega)⟩,
    ⟨q2, c2, xs, hk.cell s1 hD, s2.kp hk fun g _ _ _ hg => ne g 3 hg (by omega), fun i hi => ⟨(s3 i hi).1, fun hh => ?_⟩⟩, ⟨q3, c3, ys, hk.cell t1 hD, t2.kp hk fun g _ _ _ hg => ne g 4 hg (by omega), fun k e he => ?_⟩, h.ok⟩
  · obtain ⟨a, c', x1, x2, x3⟩ := (s3 i hi).2 hh
    exact ⟨a, c', x1, x2, x3.kp hk fun j hj => by rw [hs j hj]; omega⟩
  · obtain ⟨a, c', x0, x1, x2, x3⟩ := t3 k e he
    exact ⟨a, c', x0, x1, x2, x3.kp hk fun j hj => by rw [hs j hj]; omega⟩
theorem Dsk.kp0 (h : Dsk w col D s) (hk : Kp none_ w w') : Dsk w' col D s := h.kp hk fun _ h => h.elim
theorem Dsk.drew (h : Dsk w col D s) : Dsk w.drew col D s := h.kp0 (Kp.refl none_ w).drew
def rightF (at_ n : Int) : Bool := decide (0 ≤ at_ ∧ 0 ≤ n ∧ n ≤ 2097152 ∧ at_ ≤ 2097152 - n)
theorem c63 (w : World) (at_ n : Int) : Rets Try.prog 63 #[.int .i64 at_, .int .i64 n] w fun v w' => v = .bool (rightF at_ n) ∧ w' = w := by
  refine ent [_, _] Try.func63 ((vcTry63 _ _ w _).mpr ?_)
  unfold VCTry63 rightF
  refine bif_dec (fun h => bif_dec (fun h1 => bif_dec (fun h2 => wr64 (by omega) ⟨_, rfl, ?_, rfl⟩) (fun h2 => ⟨_, rfl, ?_, rfl⟩)) (fun h1 => ⟨_, rfl, ?_, rfl⟩)) (fun h => ⟨_, rfl, ?_, rfl⟩)
  · congr 1; simp only [decide_eq_decide]; omega
  all_goals (congr 1; symm; simp only [decide_eq_false_iff_not]; omega)
theorem c95 (w : World) (at_ n : Int) : Rets Try.prog 95 #[.int .i64 at_, .int .i64 n] w fun v w' => v = .bool (rightF at_ n) ∧ w' = w := by
  refine ent [_, _] Try.func95 ((vcTry95 _ _ w _).mpr ?_)
  unfold VCTry95 rightF
  refine bif_dec (fun h => bif_dec (fun h1 => bif_dec (fun h2 => wr64 (by omega) ⟨_, rfl, ?_, rfl⟩) (fun h2 => ⟨_, rfl, ?_, rfl⟩)) (fun h1 => ⟨_, rfl, ?_, rfl⟩)) (fun h => ⟨_, rfl, ?_, rfl⟩)
  · congr 1; simp only [decide_eq_decide]; omega
  all_goals (congr 1; symm; simp only [decide_eq_false_iff_not]; omega)
theorem c67 (w : World) (n : Int) (h : 0 ≤ n ∧ n ≤ 4194304) : Rets Try.prog 67 #[.int .i64 n] w fun v w' => v = .int .i64 ((n + 511) / 512) ∧ w' = w := by
  refine ent [_] Try.func67 ((vcTry67 _ w _).mpr ?_)
  unfold VCTry67
  have e : (n + 512 - 1).tdiv 512 = (n + 511) / 512 := by rw [Int.tdiv_eq_ediv_of_nonneg (by omega)]; congr 1; omega
  refine wr64 (by omega) (wr64 (by omega) ⟨by omega, ?_⟩)
  rw [e]
  exact wr64 (by omega) ⟨_, rfl, rfl, rfl⟩
theorem c18 (h : Dsk w col D s) : Rets Try.prog 18 #[.pointer (some ⟨D, 0, none⟩)] w fun v w' => v = .int .i64 s.size ∧ w' = w := by
  refine ent [_] Try.func18 ((vcTry18 _ w _).mpr ?_)
  unfold VCTry18
  obtain ⟨q1, c1, n1, n2⟩ := h.now
  have hs := h.ok.size
  show cond false _ _
  simp only [cond_false, ptr_some, ad_add, Nat.zero_add]
  have e : ((512 * s.size : Nat) : Int).tdiv 512 = s.size := by rw [Int.tdiv_eq_ediv_of_nonneg (by omega)]; omega
  refine ⟨_, _, _, n1, by omega, ?_⟩
  rw [e]
  exact wr64 (by omega) ⟨_, rfl, rfl, trivial⟩
theorem c21 (h : Dsk w col D s) : Rets Try.prog 21 #[.pointer (some ⟨D, 0, none⟩)] w fun v w' => v = .int .i64 s.wait.length ∧ w' = w := by
  refine ent [_] Try.func21 ((vcTry21 _ w _).mpr ?_)
  unfold VCTry21
  obtain ⟨q3, c3, ys, t1, t2, t3⟩ := h.wait
  show cond false _ _
  simp only [cond_false, ptr_some, ad_add, Nat.zero_add]
  exact ⟨_, _, _, t1, _, rfl, rfl, trivial⟩
theorem maxI_max (a b : Int) : maxI a b = max a b := by unfold maxI; split <;> omega
/-- The size behind a write. -/
def needF (s : St) (at_ n : Int) : Int := if n = 0 then s.size else max s.size ((at_ + n + 511) / 512)
theorem c65 (h : Dsk w col D s) (at_ n : Int) : Rets Try.prog 65 #[.pointer (some ⟨D, 0, none⟩), .int .i64 at_, .int .i64 n] w fun v w' =>
    v = .tuple #[.int .i64 (if rightF at_ n = true then needF s at_ n else 0), .bool (rightF at_ n)] ∧ w' = w := by
  refine ent [_, _, _] Try.func65 ((vcTry65 _ _ _ w _).mpr ?_)
  unfold VCTry65
  have hs := h.ok.size
  show cond false _ _
  simp only [cond_false]
  refine (c63 w at_ n).mono ?_
  rintro v wx ⟨rfl, e⟩
  obtain rfl := e.symm
  refine ⟨_, rfl, (Kp.refl none_ _).keeps0, bif_not (fun hr => ⟨_, rfl, by rw [hr]; rfl, rfl⟩) (fun hr => ?_)⟩
  have hr' := hr
  unfold rightF at hr'
  have hr' := of_decide_eq_true hr'
  refine bif_eq (fun h0 => (c18 h).mono ?_) (fun h0 => (c18 h).mono ?_)
  · rintro v wx ⟨rfl, e⟩
    obtain rfl := e.symm
    refine ⟨_, rfl, (Kp.refl none_ _).keeps0, _, rfl, ?_, rfl⟩
    rw [hr, if_pos rfl]
    unfold needF
    rw [if_pos h0]
  · rintro v wx ⟨rfl, e⟩
    obtain rfl := e.symm
    refine ⟨_, rfl, (Kp.refl none_ _).keeps0, wr64 (by omega) ((c67 w (at_ + n) (by omega)).mono ?_)⟩
    rintro v wx ⟨rfl, e⟩
    obtain rfl := e.symm
    refine ⟨_, rfl, (Kp.refl none_ _).keeps0, _, rfl, ?_, rfl⟩
    rw [hr, if_pos rfl, maxI_max]
    unfold needF
    rw [if_neg h0]
/-- A sector as a slice of the row. -/
theorem c62 (h : Dsk w col D s) (i : Nat) (hi : i < s.size) : Rets Try.prog 62 #[.pointer (some ⟨D, 0, none⟩), .int .i64 i] w fun v w' =>
    (∃ g c, w.cell? ⟨D, 0, none⟩ = some (.slice (some ⟨g, 0, none⟩) (512 * s.size) c) ∧ col g = 2 ∧ v = .slice (cutA (some ⟨g, 0, none⟩) (512 * (i + 1)) (512 * i) 1) 512 512 ∧ v = .slice (some ⟨g, 512 * i, none⟩) 512 512) ∧ w' = w := by
  refine ent [_, _] Try.func62 ((vcTry62 _ _ w _).mpr ?_)
  unfold VCTry62
  obtain ⟨q1, c1, n1, n2⟩ := h.now
  have hs := h.ok.size
  obtain ⟨g, cur, rfl, _, hg, _, hc, _⟩ := n2.parts (by omega)
  refine wr64 (by omega) (wr64 (by omega) (wr64 (by omega) ?_))
  simp only [ptr_some, ad_add, Nat.zero_add]
  have e1 : (((i : Int) + 1) * 512).toNat = 512 * (i + 1) := by omega
  have e2 : ((i : Int) * 512).toNat = 512 * i := by omega
  refine ⟨_, _, _, n1, by omega, ⟨by omega, ?_⟩, by omega, ?_⟩
  · show _ ≤ (((((i : Int) + 1) * 512).toNat : Nat) : Int)
    omega
  · rw [e1, e2]
    refine ⟨_, rfl, ⟨g, c1, n1, hg, ?_, ?_⟩, trivial⟩
    · congr 1 <;> omega
    · have : cutA (some ⟨g, 0, none⟩) (512 * (i + 1)) (512 * i) 1 = some ⟨g, 512 * i, none⟩ := by
        unfold cutA
        rw [if_neg (by omega)]
        simp [ad_add]
      rw [this]
      congr 1 <;> omega
end
end Go.Proofs.Ytlgkcbdpaffigaa
