import Derived.Test.YtlgkcbdpaffigaaBq
namespace Go.Proofs.Ytlgkcbdpaffigaa
open Go Go.SX Go.Proofs Go.Lib
set_option maxRecDepth 100000
set_option linter.unusedVariables false
set_option linter.unusedSimpArgs false
def playSt (ops : Nat → OpD) : Nat → St
  | 0 => emptySt
  | k + 1 => opSt (playSt ops k) (ops k)
theorem opSt_wait (s : St) (o : OpD) (h : o.nb ≤ 3000) : (opSt s o).wait.length ≤ s.wait.length + 8 := by
  unfold opSt
  split
  · split
    · rw [write_wait]; unfold hiF loF; omega
    · omega
  · split
    · show ([] : List (Nat × (Int → Int))).length ≤ _
      simp
    · show ([] : List (Nat × (Int → Int))).length ≤ _
      simp
theorem playSt_wait (ops : Nat → OpD) {n : Nat} (h : ∀ i, i < n → (ops i).nb ≤ 3000) : ∀ k, k ≤ n → (playSt ops k).wait.length ≤ 8 * k
  | 0, _ => by simp [playSt, emptySt]
  | k + 1, hk => by
    have := playSt_wait ops h k (by omega)
    have h2 := opSt_wait (playSt ops k) (ops k) (h k (by omega))
    show (opSt (playSt ops k) (ops k)).wait.length ≤ _
    omega
theorem twoNew (W : World) : Two W.heap.size ((W.alloc (.cells #[.slice none 0 0, .slice none 0 0, .slice none 0 0] 29)).alloc (.cells #[.slice none 0 0, .slice none 0 0, .slice none 0 0, .slice none 0 0] 34)) (newCol W.heap.size) (newCol (W.alloc (.cells #[.slice none 0 0, .slice none 0 0, .slice none 0 0] 29)).heap.size) W.heap.size (W.alloc (.cells #[.slice none 0 0, .slice none 0 0, .slice none 0 0] 29)).heap.size emptySt := by
  have d1 : Dsk (W.alloc (.cells #[.slice none 0 0, .slice none 0 0, .slice none 0 0] 29)) (newCol W.heap.size) W.heap.size emptySt := Dsk.new (by rw [alloc_size]; omega) (fun o => frozen_new _ _ _ _) (cell_alloc_new rfl) (cell_alloc_new rfl) (cell_alloc_new rfl)
  have s1 : (W.alloc (.cells #[.slice none 0 0, .slice none 0 0, .slice none 0 0] 29)).heap.size = W.heap.size + 1 := alloc_size _ _
  generalize W.alloc (.cells #[.slice none 0 0, .slice none 0 0, .slice none 0 0] 29) = w1 at *
  refine ⟨d1.kp0 ((Kp.refl none_ w1).alloc _ _), RDsk.new (by rw [alloc_size]; omega) (fun o => frozen_new _ _ _ _) (cell_alloc_new rfl) (cell_alloc_new rfl) (cell_alloc_new rfl) (cell_alloc_new rfl), fun i hi => ?_, fun i hi => ?_, fun i hi => ?_⟩
  · have := newCol_ne hi
    exact if_neg (by omega)
  · have := newCol_ne hi; omega
  · have := newCol_ne hi; omega
theorem c3 (W : World) {q : Option Addr} {n c : Nat} {ops : Nat → OpD} (h : OpsMem W q n ops) : Rets Try.prog 3 #[.slice q n c] W fun v w' => v = .bool true ∧ Kp none_ W w' := by
  refine ent [_] Try.func3 ((vcTry3 _ _ _ W _).mpr ?_)
  unfold VCTry3
  refine (c12 h).mono ?_
  rintro v wx ⟨t, rfl, e, hn⟩
  obtain rfl := e.symm
  refine ⟨t, rfl, (Kp.refl none_ _).keeps0, bif_not (fun ht => ?_) (fun ht => ?_)⟩
  · refine (c13 W).mono ?_
    rintro v w1 ⟨rfl, k1⟩
    exact ⟨_, rfl, k1.keeps0, _, rfl, rfl, k1⟩
  obtain ⟨hn1, hn2⟩ := hn ht
  have h2 := twoNew W
  have kW : Kp (fun i => W.heap.size ≤ i) W ((W.alloc (.cells #[.slice none 0 0, .slice none 0 0, .slice none 0 0] 29)).alloc (.cells #[.slice none 0 0, .slice none 0 0, .slice none 0 0, .slice none 0 0] 34)) := ((Kp.refl _ W).alloc _ _).alloc _ _
  generalize (W.alloc (.cells #[.slice none 0 0, .slice none 0 0, .slice none 0 0] 29)).heap.size = m at *
  generalize (W.alloc (.cells #[.slice none 0 0, .slice none 0 0, .slice none 0 0] 29)).alloc (.cells #[.slice none 0 0, .slice none 0 0, .slice none 0 0, .slice none 0 0] 34) = w0 at *
  refine ⟨fun i _ _ _ _ _ _ _ _ _ _ _ _ _ _ _ _ _ _ _ _ _ w' => ∃ k : Nat, i = k ∧ k ≤ n ∧ Kp (fun i => W.heap.size ≤ i) W w' ∧ ∃ cD cM, Two W.heap.size w' cD cM W.heap.size m (playSt ops k), fun i _ _ _ _ _ _ _ _ _ _ _ _ _ _ _ _ _ _ _ _ _ _ => (n - i).toNat, ⟨0, rfl, by omega, kW, _, _, h2⟩, ?_⟩
  rintro i _ _ _ _ _ _ _ _ _ _ _ _ _ _ _ _ _ _ _ _ _ w1 ⟨k, rfl, hk, k1, cD, cM, h1⟩
  intro _
  refine bif_dec (fun hlt => ⟨by omega, ?_⟩) (fun hge => ?_)
  rotate_left
  · intro _
    refine (c13 w1).mono ?_
    rintro v w2 ⟨rfl, k2⟩
    have hd := h1.dsk.dlt
    have hm := h1.rdsk.dlt
    refine ⟨_, rfl, k2.keeps (fun i hi => ⟨by simp at hi; rcases hi with rfl | rfl <;> assumption, id⟩), fun _ => ⟨_, rfl, rfl, (k1.trans (k2.mono fun _ _ h => h.elim)).mono fun i hi hh => by omega⟩⟩
  obtain ⟨a, rfl, o1, o2⟩ := h k (by omega)
  have o1' := o1.far k1 (Nat.le_refl _)
  simp only [ptr_some, Int.toNat_natCast]
  refine ⟨_, _, _, _, _, _, _, _, _, ⟨o1'.k, o1'.x, o1'.b, o1'.q, o1'.fill, trivial⟩, fun _ => (c14 h1 k1 o2 (by have := playSt_wait ops hn2 k (by omega); omega)).mono ?_⟩
  rintro v w2 ⟨rfl, k2, k2', cD2, cM2, h2⟩
  refine ⟨_, rfl, k2'.keeps (fun i hi => by simp at hi), h2.dsk.reads fun _ _ _ _ _ _ _ _ _ => h2.rdsk.reads fun _ _ _ _ _ _ _ _ _ _ _ _ => ?_⟩
  show cond false _ _
  simp only [cond_false]
  intro _
  refine (c15 h2).mono ?_
  rintro v w3 ⟨rfl, k3⟩
  have h3 := h2.kp0 k3
  refine ⟨_, rfl, k3.keeps0, h3.dsk.reads fun _ _ _ _ _ _ _ _ _ => h3.rdsk.reads fun _ _ _ _ _ _ _ _ _ _ _ _ => ?_⟩
  show cond false _ _
  simp only [cond_false]
  exact wr64 (by omega) ⟨⟨k + 1, by omega, by omega, k2.trans (k3.mono fun _ _ h => h.elim), cD2, cM2, h3⟩, by first | omega | (dsimp only; omega)⟩
end Go.Proofs.Ytlgkcbdpaffigaa
