/- A reader, where other blocks of one's own are written; what a head's reader reads. -/
import Derived.Test.YtbpknjldphckgaaDoorQl
namespace Go.Proofs.YtbpknjldphckgaaDoor
open Go Go.SX Go.SX.Crc Go.Proofs Go.Lib
set_option maxRecDepth 100000
set_option linter.unusedVariables false
set_option linter.unusedSimpArgs false
/-! ### Readers beside great values -/
theorem big_no_byte {w : World} {g : Nat} {e : TypeId} {cs : List Value} (h : Big w g e cs) (hn : ∀ v ∈ cs, ∀ x, v ≠ Value.int .u8 x) {a : Addr} {x : Int} (hc : w.cell? a = some (.int .u8 x)) : a.block ≠ g := fun e => by
  subst e
  unfold World.cell? at hc
  rw [h] at hc
  simp only at hc
  split at hc
  · cases hc
  · have hm := List.mem_of_getElem? (l := cs) (i := a.off) (by simpa using hc)
    exact hn _ hm x rfl
theorem Rdr.beside {w w' : World} {r g : Nat} {l : List UInt8} {s : Nat × Bool} {e : TypeId} {cs : List Value} (h : Rdr w r l s) (hg : r ≠ g) (hB : Big w g e cs) (hn : ∀ v ∈ cs, ∀ x, v ≠ Value.int .u8 x) (hk : Kp (one_ g) w w') : Rdr w' r l s := by
  obtain ⟨q, c, h1, h2, h3, h4⟩ := h.b
  have nb : ¬ one_ g r := hg
  refine ⟨⟨q, c, hk.cell h1 nb, h2, h3.kp hk (fun h0 x hx => ?_), h4⟩, hk.cell h.at_ nb, hk.cell h.bad nb, fun o => (hk.frz ⟨r, o, none⟩ h.lt).trans (h.frz o), h.le⟩
  obtain ⟨ad, e, hc⟩ := h3 0 h0
  rw [hx] at e
  cases e
  have := big_no_byte hB hn hc
  rwa [add_block] at this
/-! ### What is read -/
theorem numR_case (m : List UInt8) (k : Int) (s : Nat × Bool) : ((numR m k s).2.2 = true ∧ (s.2 = true ∨ m.length < s.1 + widthI k)) ∨ (s.2 = false ∧ s.1 + widthI k ≤ m.length ∧ numR m k s = (numAt m s.1 (widthI k), s.1 + widthI k, false)) := by
  unfold numR
  cases hs : s.2 with
  | true => rw [if_pos rfl]; exact .inl ⟨hs, .inl rfl⟩
  | false =>
    rw [if_neg (by decide)]
    by_cases h : s.1 + widthI k ≤ m.length
    · rw [if_pos h]; exact .inr ⟨rfl, h, rfl⟩
    · rw [if_neg h]; exact .inl ⟨rfl, .inr (by omega)⟩
theorem bytR_case (m : List UInt8) (n : Nat) (s : Nat × Bool) : ((bytR m n s).2.2 = true ∧ (s.2 = true ∨ m.length < s.1 + n)) ∨ (s.2 = false ∧ s.1 + n ≤ m.length ∧ bytR m n s = ((m.drop s.1).take n, s.1 + n, false)) := by
  unfold bytR
  cases hs : s.2 with
  | true => rw [if_pos rfl]; exact .inl ⟨hs, .inl rfl⟩
  | false =>
    rw [if_neg (by decide)]
    by_cases h : s.1 + n ≤ m.length
    · rw [if_neg (by omega), Int.toNat_natCast]; exact .inr ⟨rfl, h, rfl⟩
    · rw [if_pos (by omega)]; exact .inl ⟨rfl, .inr (by omega)⟩
theorem numR_bad {m : List UInt8} {k : Int} {s : Nat × Bool} (h : s.2 = true) : (numR m k s).2.2 = true := by unfold numR; rw [if_pos h]; exact h
theorem bytR_bad {m : List UInt8} {n : Int} {s : Nat × Bool} (h : s.2 = true) : (bytR m n s).2.2 = true := by unfold bytR; rw [if_pos h]; exact h
theorem numR_lt4 (m : List UInt8) (s : Nat × Bool) : (numR m 4 s).1 < 4294967296 := by
  unfold numR
  split
  · show 0 < _; omega
  · split
    · rw [width4]; exact num_lt _ _
    · show 0 < _; omega
theorem numR_lt1 (m : List UInt8) (s : Nat × Bool) : (numR m 1 s).1 < 256 := by
  unfold numR
  split
  · show 0 < _; omega
  · split
    · rename_i h
      rw [width1] at h ⊢
      show numAt m s.1 1 < 256
      rw [numAt_one (by omega), nlen_eq (by omega)]
      exact UInt8.toNat_lt _
    · show 0 < _; omega
def hS (m : List UInt8) : Nat × Bool := (bytR m (4 : Nat) (0, false)).2
def hM (m : List UInt8) := numR m 1 (hS m)
def hN (m : List UInt8) := numR m 1 (hM m).2
def hZ (m : List UInt8) := numR m 4 (hN m).2
def hA (m : List UInt8) := numR m 4 (hZ m).2
def hU (m : List UInt8) := numR m 4 (hA m).2
def hB (m : List UInt8) := bytR m (hN m).1 (hU m).2
def hG (m : List UInt8) := numR m 4 (hB m).2
theorem head_read (m : List UInt8) :
    ((hG m).2.2 = true ∧ (m.length < 18 ∨ m.length < 22 + nlen m 5)) ∨ ((hG m).2.2 = false ∧ ¬ (m.length < 18 ∨ m.length < 22 + nlen m 5) ∧ (hM m).1 = nlen m 4 ∧ (hN m).1 = nlen m 5 ∧ (hZ m).1 = numAt m 6 4 ∧ (hA m).1 = numAt m 10 4 ∧ (hU m).1 = numAt m 14 4 ∧ (hB m).1 = (m.drop 18).take (nlen m 5) ∧ (hB m).2.1 = 18 + nlen m 5 ∧ (hG m).1 = numAt m (18 + nlen m 5) 4 ∧ (hG m).2.1 = 22 + nlen m 5) := by
  have bad : ∀ {P : Prop}, (hG m).2.2 = true → (m.length < 18 ∨ m.length < 22 + nlen m 5) → ((hG m).2.2 = true ∧ (m.length < 18 ∨ m.length < 22 + nlen m 5)) ∨ P := fun a b => .inl ⟨a, b⟩
  rcases bytR_case m 4 (0, false) with ⟨x, y⟩ | ⟨_, y0, e0⟩
  · refine bad (numR_bad (bytR_bad (numR_bad (numR_bad (numR_bad (numR_bad (numR_bad x))))))) (.inl ?_)
    rcases y with y | y
    · cases y
    · simp only at y; omega
  have eS : hS m = (4, false) := by unfold hS; rw [e0]
  simp only at y0
  rcases numR_case m 1 (4, false) with ⟨x, y⟩ | ⟨_, y1, e1⟩
  · have eM : (hM m).2.2 = true := by unfold hM; rw [eS]; exact x
    refine bad (numR_bad (bytR_bad (numR_bad (numR_bad (numR_bad (numR_bad eM)))))) (.inl ?_)
    rcases y with y | y
    · cases y
    · rw [width1] at y; simp only at y; omega
  rw [width1] at y1 e1
  simp only at y1 e1
  have eM : hM m = (nlen m 4, 5, false) := by unfold hM; rw [eS, e1, numAt_one (by omega)]
  rcases numR_case m 1 (5, false) with ⟨x, y⟩ | ⟨_, y2, e2⟩
  · have eN : (hN m).2.2 = true := by unfold hN; rw [eM]; exact x
    refine bad (numR_bad (bytR_bad (numR_bad (numR_bad (numR_bad eN))))) (.inl ?_)
    rcases y with y | y
    · cases y
    · rw [width1] at y; simp only at y; omega
  rw [width1] at y2 e2
  simp only at y2 e2
  have eN : hN m = (nlen m 5, 6, false) := by unfold hN; rw [eM, e2, numAt_one (by omega)]
  rcases numR_case m 4 (6, false) with ⟨x, y⟩ | ⟨_, y3, e3⟩
  · have eZ : (hZ m).2.2 = true := by unfold hZ; rw [eN]; exact x
    refine bad (numR_bad (bytR_bad (numR_bad (numR_bad eZ)))) (.inl ?_)
    rcases y with y | y
    · cases y
    · rw [width4] at y; simp only at y; omega
  rw [width4] at y3 e3
  simp only at y3 e3
  have eZ : hZ m = (numAt m 6 4, 10, false) := by unfold hZ; rw [eN, e3]
  rcases numR_case m 4 (10, false) with ⟨x, y⟩ | ⟨_, y4, e4⟩
  · have eA : (hA m).2.2 = true := by unfold hA; rw [eZ]; exact x
    refine bad (numR_bad (bytR_bad (numR_bad eA))) (.inl ?_)
    rcases y with y | y
    · cases y
    · rw [width4] at y; simp only at y; omega
  rw [width4] at y4 e4
  simp only at y4 e4
  have eA : hA m = (numAt m 10 4, 14, false) := by unfold hA; rw [eZ, e4]
  rcases numR_case m 4 (14, false) with ⟨x, y⟩ | ⟨_, y5, e5⟩
  · have eU : (hU m).2.2 = true := by unfold hU; rw [eA]; exact x
    refine bad (numR_bad (bytR_bad eU)) (.inl ?_)
    rcases y with y | y
    · cases y
    · rw [width4] at y; simp only at y; omega
  rw [width4] at y5 e5
  simp only at y5 e5
  have eU : hU m = (numAt m 14 4, 18, false) := by unfold hU; rw [eA, e5]
  rcases bytR_case m (nlen m 5) (18, false) with ⟨x, y⟩ | ⟨_, y6, e6⟩
  · have eB : (hB m).2.2 = true := by unfold hB; rw [eU, eN]; exact x
    refine bad (numR_bad eB) (.inr ?_)
    rcases y with y | y
    · cases y
    · simp only at y; omega
  simp only at y6 e6
  have eB : hB m = ((m.drop 18).take (nlen m 5), 18 + nlen m 5, false) := by unfold hB; rw [eU, eN, e6]
  rcases numR_case m 4 (18 + nlen m 5, false) with ⟨x, y⟩ | ⟨_, y7, e7⟩
  · have eG : (hG m).2.2 = true := by unfold hG; rw [eB]; exact x
    refine bad eG (.inr ?_)
    rcases y with y | y
    · cases y
    · rw [width4] at y; simp only at y; omega
  rw [width4] at y7 e7
  simp only at y7 e7
  have eG : hG m = (numAt m (18 + nlen m 5) 4, 22 + nlen m 5, false) := by
    unfold hG
    rw [eB, e7]
    simp only [Prod.mk.injEq, true_and, and_true]
    omega
  refine .inr ⟨by rw [eG], by omega, by rw [eM], by rw [eN], by rw [eZ], by rw [eA], by rw [eU], by rw [eB], by rw [eB], by rw [eG], by rw [eG]⟩
end Go.Proofs.YtbpknjldphckgaaDoor
